/-
  What Holds answers: the least holds are the same, found by minutes or by closed bounds. Conditions: none.
-/
import Derived.Test.YtmicjleiheoieaaA41
import Derived.Test.YtmicjleiheoieaaA11
import Derived.Test.YtmicjleiheoieaaA40
namespace Go.Proofs.Ytmicjleiheoieaa
open Go Go.RowKit

/-- The stay of a voyage that is held back. -/
theorem arrGo_held {p h : Int} : ∀ (rs : List Run) (t : Bnd), arrGo p rs ⟨t.lo + h, t.hi + h⟩ = ⟨(arrGo p rs t).lo + h, (arrGo p rs t).hi + h⟩
  | [], _ => rfl
  | r :: rs, t => by
    unfold arrGo
    split
    · rfl
    · have e1 : t.lo + h + (r.wt.lo + tak (wayTo r p) r.sp.hi) = t.lo + (r.wt.lo + tak (wayTo r p) r.sp.hi) + h := by omega
      have e2 : t.hi + h + (r.wt.hi + tak (wayTo r p) r.sp.lo) = t.hi + (r.wt.hi + tak (wayTo r p) r.sp.lo) + h := by omega
      split
      · simp only [e1, e2]
      · simp only [e1, e2]; exact arrGo_held rs ⟨t.lo + (r.wt.lo + tak (wayTo r p) r.sp.hi), t.hi + (r.wt.hi + tak (wayTo r p) r.sp.lo)⟩
theorem arr_held {v : Voy} {h p : Int} : arr (heldV v h) p = ⟨(arr v p).lo + h, (arr v p).hi + h⟩ := arrGo_held v.runs v.st
theorem thr_there {v : Voy} {h : Int} {n : Nar} : (thrS (heldV v h) n).there = (thrS v n).there := by
  have e : (near (heldV v h) n && onWay (heldV v h) [entP (heldV v h) n, leaP (heldV v h) n]) = (near v n && onWay v [entP v n, leaP v n]) := rfl
  unfold thrS; rw [e]; cases (near v n && onWay v [entP v n, leaP v n]) <;> rfl
theorem thr_held {v : Voy} {h : Int} {n : Nar} (ht : (thrS v n).there = true) : (thrS (heldV v h) n).inn.lo = (thrS v n).inn.lo + h ∧ (thrS (heldV v h) n).inn.hi = (thrS v n).inn.hi + h ∧ (thrS (heldV v h) n).out.lo = (thrS v n).out.lo + h ∧ (thrS (heldV v h) n).out.hi = (thrS v n).out.hi + h := by
  have e : (near (heldV v h) n && onWay (heldV v h) [entP (heldV v h) n, leaP (heldV v h) n]) = (near v n && onWay v [entP v n, leaP v n]) := rfl
  have e1 : entP (heldV v h) n = entP v n := rfl
  have e2 : leaP (heldV v h) n = leaP v n := rfl
  unfold thrS at ht ⊢; rw [e]
  cases hc : (near v n && onWay v [entP v n, leaP v n])
  · rw [hc] at ht; simp at ht
  · simp only [if_true, e1, e2, arr_held]; exact ⟨trivial, trivial, trivial, trivial⟩
theorem barsV_iff {a b : Voy} {x y : Int} {n : Nar} : barsV (heldV a x) (heldV b y) n = true ↔ ((thrS a n).there = true ∧ (thrS b n).there = true ∧ (n.single || decide (n.wid < a.wid + b.wid)) = true) ∧ (thrS a n).inn.lo + x ≤ (thrS b n).out.hi + y ∧ (thrS b n).inn.lo + y ≤ (thrS a n).out.hi + x := by
  have e : barsV (heldV a x) (heldV b y) n = (mayB (thrS (heldV a x) n) (thrS (heldV b y) n) && (n.single || decide (n.wid < a.wid + b.wid))) := rfl
  rw [e]; unfold mayB
  rw [thr_there, thr_there]
  by_cases ha : (thrS a n).there = true
  · by_cases hb : (thrS b n).there = true
    · rw [(thr_held (h := x) ha).1, (thr_held (h := x) ha).2.2.2, (thr_held (h := y) hb).1, (thr_held (h := y) hb).2.2.2, ha, hb]
      simp only [Bool.true_and, Bool.and_eq_true, decide_eq_true_eq, true_and]
      constructor
      · rintro ⟨⟨h1, h2⟩, h3⟩; exact ⟨h3, h1, h2⟩
      · rintro ⟨h3, h1, h2⟩; exact ⟨⟨h1, h2⟩, h3⟩
    · simp [hb]
  · simp [ha]
theorem row_ss {vs : List HVoy} {ns : List Nar} {rows : List HSt} (h : rows.map (·.ss) = vs.map (fun h => ns.map (thrS h.v))) {i k : Nat} (hi : i < vs.length) (hk : k < ns.length) : nth (nth rows i).ss k = thrS (nth vs i).v (nth ns k) := by
  have hl : rows.length = vs.length := by simpa using congrArg List.length h
  have := congrArg (fun l => l[i]?) h
  simp only [List.getElem?_map] at this
  rw [List.getElem?_eq_getElem (by omega), List.getElem?_eq_getElem hi] at this
  rw [nth_eq (show i < rows.length by omega), nth_eq hi]
  have e : rows[i].ss = ns.map (thrS vs[i].v) := by simpa using this
  rw [e]
  simp [nth, List.getD_eq_getElem?_getD, hk]
theorem mem_ordL {n i : Nat} (hi : i ≤ n) {j : Int} : j ∈ (ordL n).take i ↔ ∃ p : Nat, p < i ∧ j = (p : Int) := by
  unfold ordL
  rw [← List.map_take, List.take_range, List.mem_map, Nat.min_eq_left hi]
  constructor
  · rintro ⟨p, hp, rfl⟩; exact ⟨p, List.mem_range.1 hp, rfl⟩
  · rintro ⟨p, hp, rfl⟩; exact ⟨p, List.mem_range.2 hp, rfl⟩
theorem ordL_nth {n p : Nat} (h : p < n) : nth (ordL n) p = (p : Int) := by
  simp [nth, List.getD_eq_getElem?_getD, ordL, h]
theorem free_iff {vs : List HVoy} {ns : List Nar} {rows : List HSt} {os : List Int} {i : Nat} {h : Int} (hr : rows.map (·.ss) = vs.map (fun h => ns.map (thrS h.v))) (hi : i < vs.length) :
    FreeR (vs.map HVoy.v) ns os i h ↔ ∀ b ∈ clL vs ns rows os i ((ordL vs.length).take i), ¬ (b.lo ≤ h ∧ h ≤ b.hi) := by
  have key : ∀ j, j < i → ∀ k, k < ns.length → (barsV (heldV (nth (vs.map HVoy.v) j) (nth os j)) (heldV (nth (vs.map HVoy.v) i) h) (nth ns k) = true ↔ barB vs ns rows i j k = true ∧ (clB rows os i j k).lo ≤ h ∧ h ≤ (clB rows os i j k).hi) := fun j hj k hk => by
    rw [nth_mapv, nth_mapv, barsV_iff]
    unfold barB clB
    rw [row_ss hr hi hk, row_ss hr (show j < vs.length by omega) hk]
    have hw : (nth vs i).v.wid + (nth vs j).v.wid = (nth vs j).v.wid + (nth vs i).v.wid := Int.add_comm _ _
    rw [hw]
    simp only [Bool.and_eq_true]
    constructor
    · rintro ⟨⟨h1, h2, h3⟩, h4, h5⟩; exact ⟨⟨⟨h3, h2⟩, h1⟩, by omega, by omega⟩
    · rintro ⟨⟨⟨h3, h2⟩, h1⟩, h4, h5⟩; exact ⟨⟨h1, h2, h3⟩, by omega, by omega⟩
  constructor
  · intro hf b hb hc
    unfold clL at hb
    obtain ⟨j, hj, hb⟩ := List.mem_flatMap.1 hb
    obtain ⟨p, hp, rfl⟩ := (mem_ordL (by omega)).1 hj
    obtain ⟨k, hk, rfl⟩ := List.mem_map.1 hb
    obtain ⟨hk, hbar⟩ := List.mem_filter.1 hk
    have h1 := (key p hp k (List.mem_range.1 hk)).2 ⟨hbar, hc⟩
    rw [hf p hp k (List.mem_range.1 hk)] at h1
    cases h1
  · intro hf j hj k hk
    rw [← Bool.not_eq_true]
    intro hb
    obtain ⟨h1, h2⟩ := (key j hj k hk).1 hb
    refine hf (clB rows os i j k) ?_ h2
    unfold clL
    exact List.mem_flatMap.2 ⟨(j : Int), (mem_ordL (by omega)).2 ⟨j, hj, rfl⟩, List.mem_map.2 ⟨k, List.mem_filter.2 ⟨List.mem_range.2 hk, h1⟩, rfl⟩⟩
theorem least_iff {vs : List HVoy} {ns : List Nar} {rows : List HSt} {os : List Int} {i : Nat} {h : Int} (hr : rows.map (·.ss) = vs.map (fun h => ns.map (thrS h.v))) (hi : i < vs.length) :
    HoldR (clL vs ns rows os i ((ordL vs.length).take i)) h → LeastR (vs.map HVoy.v) ns os i h := fun ⟨h0, h1, h2⟩ =>
  ⟨h0, (free_iff hr hi).2 h1, fun h' h3 h4 hf => by obtain ⟨b, hb, hc⟩ := h2 h' h3 h4; exact (free_iff hr hi).1 hf b hb hc⟩
theorem seq_least {vs : List HVoy} {ns : List Nar} {rows : List HSt} {ls : List Int} {most : Int} {q : Nat} (hr : rows.map (·.ss) = vs.map (fun h => ns.map (thrS h.v))) (hq : q ≤ vs.length) (hs : SeqH vs ns rows most (ordL vs.length) q ls) :
    ∀ j, j < q → LeastR (vs.map HVoy.v) ns ls j (nth ls j) ∧ nth ls j ≤ most := fun j hj => by
  have := hs j hj
  rw [ordL_nth (by omega)] at this
  exact ⟨least_iff hr (by omega) this.1, this.2⟩
theorem holds_full {vs : List HVoy} {ns : List Nar} {rows : List HSt} {ls : List Int} {most : Int} (hr : rows.map (·.ss) = vs.map (fun h => ns.map (thrS h.v))) (hl : ls.length = vs.length) (hs : SeqH vs ns rows most (ordL vs.length) vs.length ls) : HoldsR (vs.map HVoy.v) ns most ls 0 0 :=
  .inl ⟨rfl, rfl, by rw [List.length_map]; exact hl, fun j hj => seq_least hr (Nat.le_refl _) hs j (by rw [List.length_map] at hj; exact hj)⟩
theorem holds_fail {vs : List HVoy} {ns : List Nar} {rows : List HSt} {ls : List Int} {most hh : Int} {q : Nat} (hr : rows.map (·.ss) = vs.map (fun h => ns.map (thrS h.v))) (hq : q < vs.length) (hs : SeqH vs ns rows most (ordL vs.length) q ls)
    (hh1 : HoldR (clL vs ns rows ls (nth (ordL vs.length) q).toNat ((ordL vs.length).take q)) hh) (hm : most < hh) : HoldsR (vs.map HVoy.v) ns most [] (q : Int) 7 := by
  rw [ordL_nth hq] at hh1
  have h1 := least_iff hr hq hh1
  exact .inr ⟨q, ls, rfl, rfl, rfl, by rw [List.length_map]; exact hq, seq_least hr (by omega) hs, fun h h2 h3 => h1.2.2 h h2 (by omega)⟩
theorem LeastR.unique {vl : List Voy} {ns : List Nar} {os os' : List Int} {i : Nat} {h h' : Int} (e : ∀ j, j < i → nth os j = nth os' j) (a : LeastR vl ns os i h) (b : LeastR vl ns os' i h') : h = h' := by
  have a' := a.congr e
  rcases Int.lt_trichotomy h h' with q | q | q
  · exact absurd a'.2.1 (b.2.2 h a'.1 q)
  · exact q
  · exact absurd b.2.1 (a'.2.2 h' b.1 q)
theorem least_all {vl : List Voy} {ns : List Nar} {os os' : List Int} {most : Int} (n : Nat) (a : ∀ j, j < n → LeastR vl ns os j (nth os j) ∧ nth os j ≤ most) (b : ∀ j, j < n → LeastR vl ns os' j (nth os' j) ∧ nth os' j ≤ most) : ∀ j, j < n → nth os j = nth os' j := by
  induction n with
  | zero => intro j hj; cases hj
  | succ n ih =>
    have h := ih (fun j hj => a j (by omega)) (fun j hj => b j (by omega))
    intro j hj
    rcases Nat.lt_or_ge j n with q | q
    · exact h j q
    · have e : j = n := by omega
      subst e
      exact LeastR.unique h (a j (by omega)).1 (b j (by omega)).1
theorem ext_nth {xs ys : List Int} (hl : xs.length = ys.length) (h : ∀ j, j < xs.length → nth xs j = nth ys j) : xs = ys := by
  refine List.ext_getElem hl fun i h1 h2 => ?_
  have := h i h1
  rw [nth_eq h1, nth_eq h2] at this
  exact this
theorem HoldsR.unique {vl : List Voy} {ns : List Nar} {most : Int} {ls ls' : List Int} {a a' e e' : Int} (x : HoldsR vl ns most ls a e) (y : HoldsR vl ns most ls' a' e') : ls = ls' ∧ a = a' ∧ e = e' := by
  rcases x with ⟨rfl, rfl, h1, h2⟩ | ⟨q, os, rfl, rfl, rfl, h1, h2, h3⟩
  · rcases y with ⟨rfl, rfl, k1, k2⟩ | ⟨p, os, rfl, rfl, rfl, k1, k2, k3⟩
    · exact ⟨ext_nth (h1.trans k1.symm) (fun j hj => least_all vl.length h2 k2 j (by omega)), rfl, rfl⟩
    · exfalso
      have hc := least_all p (fun j hj => h2 j (by omega)) k2
      have h4 := h2 p k1
      exact k3 _ h4.1.1 h4.2 ((FreeR.congr hc).1 h4.1.2.1)
  · rcases y with ⟨rfl, rfl, k1, k2⟩ | ⟨p, os', rfl, rfl, rfl, k1, k2, k3⟩
    · exfalso
      have hc := least_all q (fun j hj => k2 j (by omega)) h2
      have h4 := k2 q h1
      exact h3 _ h4.1.1 h4.2 ((FreeR.congr hc).1 h4.1.2.1)
    · have e : q = p := by
        rcases Nat.lt_trichotomy q p with r | r | r
        · exfalso
          have hc := least_all q (fun j hj => k2 j (by omega)) h2
          have h4 := k2 q r
          exact h3 _ h4.1.1 h4.2 ((FreeR.congr hc).1 h4.1.2.1)
        · exact r
        · exfalso
          have hc := least_all p (fun j hj => h2 j (by omega)) k2
          have h4 := h2 p r
          exact k3 _ h4.1.1 h4.2 ((FreeR.congr hc).1 h4.1.2.1)
      subst e; exact ⟨rfl, rfl, rfl⟩
/-- What Holds answers. -/
def HoldsA (vl : List Voy) (ns : List Nar) (most : Int) (ls : List Int) (a e : Int) : Prop :=
  (OpenE vl ns ≠ 0 ∧ ls = [] ∧ a = 0 ∧ e = OpenE vl ns) ∨ (OpenE vl ns = 0 ∧ ¬ (0 ≤ most ∧ most ≤ 5000) ∧ ls = [] ∧ a = 0 ∧ e = 3) ∨ (OpenE vl ns = 0 ∧ (0 ≤ most ∧ most ≤ 5000) ∧ HoldsR vl ns most ls a e)
theorem thr_of_open {vl : List Voy} {ns : List Nar} (h : OpenE vl ns = 0) : (∀ v ∈ vl, okVoy v = true) ∧ (∀ n ∈ ns, okNar n = true) ∧ ∀ v ∈ vl, ∀ n ∈ ns, thrE v n = 0 := by
  unfold OpenE at h
  split at h
  · cases h
  · split at h
    · cases h
    · rename_i h1
      rw [Bool.or_eq_true, not_or] at h1
      have hv : ∀ v ∈ vl, okVoy v = true := fun v hv => okVoy_of (fun hc => h1.1 (List.any_eq_true.2 ⟨v, hv, decide_eq_true hc⟩))
      have hn : ∀ n ∈ ns, okNar n = true := fun n hn => by
        cases hc : okNar n
        · exact absurd (List.any_eq_true.2 ⟨n, hn, by simp [hc]⟩) h1.2
        · rfl
      refine ⟨hv, hn, ?_⟩
      have o1 : ∀ (v : Voy) (l : List Nar), opE1 v l = 0 → ∀ n ∈ l, thrE v n = 0 := by
        intro v l
        induction l with
        | nil => intro _ n hn; cases hn
        | cons a l ih =>
          intro h n hn
          unfold opE1 at h
          split at h
          · rename_i hz; rcases List.mem_cons.1 hn with rfl | hn
            · exact hz
            · exact ih h n hn
          · rename_i hz; exact absurd h hz
      have o2 : ∀ l : List Voy, opE2 ns l = 0 → ∀ v ∈ l, opE1 v ns = 0 := by
        intro l
        induction l with
        | nil => intro _ v hv; cases hv
        | cons a l ih =>
          intro h v hv
          unfold opE2 at h
          split at h
          · rename_i hz; rcases List.mem_cons.1 hv with rfl | hv
            · exact hz
            · exact ih h v hv
          · rename_i hz; exact absurd h hz
      exact fun v hv n hn => o1 v ns (o2 vl h v hv) n hn
theorem flat_int (ls : List Int) : ls.flatMap encI = ls.map (Value.int .i64) := by
  induction ls with
  | nil => rfl
  | cons a l ih => rw [List.flatMap_cons, ih]; rfl
theorem HoldsU_c (us : List HVoy) (ao : Option Addr) (b cap : Nat) (ns : List Nar) (an : Option Addr) (bn on cn : Nat) (most : Int) (vl : List Voy) (w0 : World) (hm : us.map HVoy.v = vl) (hs : Sl encHVoy 5 w0 ao b 0 us) (hruns : ∀ x ∈ us, Sl encRun 6 w0 x.ao x.b x.o x.v.runs) (hn : Sl encNar 4 w0 an bn on ns) (hl : vl.length ≤ 1000000) (hrl : ∀ v ∈ vl, v.runs.length ≤ 1000000) (hnl : ns.length ≤ 1000000) :
    CallsV Try.prog 23 [.slice ao us.length cap, .slice an ns.length cn, .int .i64 most] w0 (fun v w' => (∃ ls a e ao b cap, v = .tuple #[.slice ao ls.length cap, .int .i64 a, .int .i64 e] ∧ Sl encI 1 w' ao b 0 ls ∧ HoldsA vl ns most ls a e) ∧ Ext w0 w') := by
  subst hm
  refine (Holds_c us ns ao an b 0 bn on cap cn most w0 hs hruns (fun x hx => hrl x.v (List.mem_map.2 ⟨x, hx, rfl⟩)) hn (by rw [List.length_map] at hl; exact hl) hnl).mono ?_
  rintro v w' ⟨h, u⟩
  refine ⟨?_, u⟩
  rcases h with ⟨h1, rfl⟩ | ⟨h1, h2, rfl⟩ | ⟨h1, h2, rows, hr, h⟩
  · exact ⟨[], 0, _, none, 0, 0, rfl, Sl.nil _ _ _ _ _ _, .inl ⟨h1, rfl, rfl, rfl⟩⟩
  · exact ⟨[], 0, _, none, 0, 0, rfl, Sl.nil _ _ _ _ _ _, .inr (.inl ⟨h1, h2, rfl, rfl, rfl⟩)⟩
  · rcases h with ⟨b', ls, rfl, hB, hl2, hseq, _⟩ | ⟨q, ls, hh, rfl, hq, hl2, hseq, hq1, hq2⟩
    · refine ⟨ls, 0, 0, some ⟨b', 0, none⟩, b', us.length, by rw [hl2], Sl.ofBlk (enc := encI) (fun _ => rfl) (by rw [flat_int]; exact hB), .inr (.inr ⟨h1, h2, holds_full hr hl2 hseq⟩)⟩
    · exact ⟨[], (q : Int), 7, none, 0, 0, rfl, Sl.nil _ _ _ _ _ _, .inr (.inr ⟨h1, h2, holds_fail hr hq hseq hq1 hq2⟩)⟩
theorem hold_bad {vl : List Voy} {ns : List Nar} {most a e : Int} {ls : List Int} (h : HoldsA vl ns most ls a e) (h0 : OpenE vl ns ≠ 0) : ls.length = 0 ∧ a = 0 ∧ e = OpenE vl ns := by
  rcases h with ⟨_, rfl, h1, h2⟩ | ⟨h1, _⟩ | ⟨h1, _⟩
  · exact ⟨rfl, h1, h2⟩
  · exact absurd h1 h0
  · exact absurd h1 h0
theorem hold_far {vl : List Voy} {ns : List Nar} {most a e : Int} {ls : List Int} (h : HoldsA vl ns most ls a e) (h0 : OpenE vl ns = 0) (hm : ¬ (0 ≤ most ∧ most ≤ 5000)) : ls.length = 0 ∧ a = 0 ∧ e = 3 := by
  rcases h with ⟨h1, _⟩ | ⟨_, _, rfl, h1, h2⟩ | ⟨_, h1, _⟩
  · exact absurd h0 h1
  · exact ⟨rfl, h1, h2⟩
  · exact absurd h1 hm
theorem hold_ok {vl : List Voy} {ns : List Nar} {most a e : Int} {ls : List Int} (h : HoldsA vl ns most ls a e) (h0 : OpenE vl ns = 0) (hm : 0 ≤ most ∧ most ≤ 5000) : HoldsR vl ns most ls a e := by
  rcases h with ⟨h1, _⟩ | ⟨_, h1, _⟩ | ⟨_, _, h1⟩
  · exact absurd h0 h1
  · exact absurd hm h1
  · exact h1
theorem holdsR_len {vl : List Voy} {ns : List Nar} {most a e : Int} {ls : List Int} (h : HoldsR vl ns most ls a e) : ls.length ≤ vl.length := by
  rcases h with ⟨_, _, h, _⟩ | ⟨_, _, _, _, rfl, _⟩
  · omega
  · exact Nat.zero_le _
theorem lrg_no {vs : List HVoy} {ns : List Nar} (h : lrgB vs ns = false) : (∀ x ∈ vs, x.v.runs.length ≤ 25) ∧ vs.length ≤ 14 ∧ ns.length ≤ 25 := by
  unfold lrgB at h
  simp only [Bool.or_eq_false_iff, decide_eq_false_iff_not, List.any_eq_false, decide_eq_true_eq] at h
  exact ⟨fun x hx => by have := h.1.1 x hx; omega, by omega, by omega⟩

end Go.Proofs.Ytmicjleiheoieaa
