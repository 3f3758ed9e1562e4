/-
  What Holds answers: the least holds are the same, found by minutes or by closed bounds. Conditions: none.
-/
import Derived.Test.YtmicjleiheoieaaOA41
import Derived.Test.YtmicjleiheoieaaOA11
import Derived.Test.YtmicjleiheoieaaOA40
namespace Go.Proofs.Ytmicjleiheoieaa
open Go Go.RowKit

/-- The stay of a voyage that is held back. -/
theorem arrGo_held {p h : Int} : ∀ (rs : List Run) (t : Bnd), arrGo p rs ⟨t.lo + h, t.hi + h⟩ = ⟨(arrGo p rs t).lo + h, (arrGo p rs t).hi + h⟩
  | [], _ => rfl
  | r :: rs, t => by
    unfold arrGo
    split
    · rfl
    · have e1 : t.lo + h + (r.wt.lo + tak (wayTo r p) r.sp.hi) = t.lo + (r.wt.lo + tak (wayTo r p) r.sp.hi) + h := by omega
      have e2 : t.hi + h + (r.wt.hi + tak (wayTo r p) r.sp.lo) = t.hi + (r.wt.hi + tak (wayTo r p) r.sp.lo) + h := by omega
      split
      · simp only [e1, e2]
      · simp only [e1, e2]; exact arrGo_held rs ⟨t.lo + (r.wt.lo + tak (wayTo r p) r.sp.hi), t.hi + (r.wt.hi + tak (wayTo r p) r.sp.lo)⟩
theorem arr_held {v : Voy} {h p : Int} : arr (heldV v h) p = ⟨(arr v p).lo + h, (arr v p).hi + h⟩ := arrGo_held v.runs v.st
theorem thr_there {v : Voy} {h : Int} {n : Nar} : (thrS (heldV v h) n).there = (thrS v n).there := by
  have e : (near (heldV v h) n && onWay (heldV v h) [entP (heldV v h) n, leaP (heldV v h) n]) = (near v n && onWay v [entP v n, leaP v n]) := rfl
  unfold thrS; rw [e]; cases (near v n && onWay v [entP v n, leaP v n]) <;> rfl
theorem thr_held {v : Voy} {h : Int} {n : Nar} (ht : (thrS v n).there = true) : (thrS (heldV v h) n).inn.lo = (thrS v n).inn.lo + h ∧ (thrS (heldV v h) n).inn.hi = (thrS v n).inn.hi + h ∧ (thrS (heldV v h) n).out.lo = (thrS v n).out.lo + h ∧ (thrS (heldV v h) n).out.hi = (thrS v n).out.hi + h := by
  have e : (near (heldV v h) n && onWay (heldV v h) [entP (heldV v h) n, leaP (heldV v h) n]) = (near v n && onWay v [entP v n, leaP v n]) := rfl
  have e1 : entP (heldV v h) n = entP v n := rfl
  have e2 : leaP (heldV v h) n = leaP v n := rfl
  unfold thrS at ht ⊢; rw [e]
  cases hc : (near v n && onWay v [entP v n, leaP v n])
  · rw [hc] at ht; simp at ht
  · simp only [if_true, e1, e2, arr_held]; exact ⟨trivial, trivial, trivial, trivial⟩
theorem barsV_iff {a b : Voy} {x y : Int} {n : Nar} : barsV (heldV a x) (heldV b y) n = true ↔ ((thrS a n).there = true ∧ (thrS b n).there = true ∧ (n.single || decide (n.wid < a.wid + b.wid)) = true) ∧ (thrS a n).inn.lo + x ≤ (thrS b n).out.hi + y ∧ (thrS b n).inn.lo + y ≤ (thrS a n).out.hi + x := by
  have e : barsV (heldV a x) (heldV b y) n = (mayB (thrS (heldV a x) n) (thrS (heldV b y) n) && (n.single || decide (n.wid < a.wid + b.wid))) := rfl
  rw [e]; unfold mayB
  rw [thr_there, thr_there]
  by_cases ha : (thrS a n).there = true
  · by_cases hb : (thrS b n).there = true
    · rw [(thr_held (h := x) ha).1, (thr_held (h := x) ha).2.2.2, (thr_held (h := y) hb).1, (thr_held (h := y) hb).2.2.2, ha, hb]
      simp only [Bool.true_and, Bool.and_eq_true, decide_eq_true_eq, true_and]
      constructor
      · rintro ⟨⟨h1, h2⟩, h3⟩; exact ⟨h3, h1, h2⟩
      · rintro ⟨h3, h1, h2⟩; exact ⟨⟨h1, h2⟩, h3⟩
    · simp [hb]
  · simp [ha]
theorem row_ss {vs : List HVoy} {ns : List Nar} {rows : List HSt} (h : rows.map (·.ss) = vs.map (fun h => ns.map (thrS h.v))) {i k : Nat} (hi : i < vs.length) (hk : k < ns.length) : nth (nth rows i).ss k = thrS (nth vs i).v (nth ns k) := by
  have hl : rows.length = vs.length := by simpa using congrArg List.length h
  have := congrArg (fun l => l[i]?) h
  simp only [List.getElem?_map] at this
  rw [List.getElem?_eq_getElem (by omega), List.getElem?_eq_getElem hi] at this
  rw [nth_eq (show i < rows.length by omega), nth_eq hi]
  have e : rows[i].ss = ns.map (thrS vs[i].v) := by simpa using this
  rw [e]
  simp [nth, List.getD_eq_getElem?_getD, hk]
theorem ordL_nth {n p : Nat} (h : p < n) : nth (ordL n) p = (p : Int) := by
  simp [nth, List.getD_eq_getElem?_getD, ordL, h]
theorem LeastR.unique {vl : List Voy} {ns : List Nar} {os os' : List Int} {i : Nat} {h h' : Int} (e : ∀ j, j < i → nth os j = nth os' j) (a : LeastR vl ns os i h) (b : LeastR vl ns os' i h') : h = h' := by
  have a' := a.congr e
  rcases Int.lt_trichotomy h h' with q | q | q
  · exact absurd a'.2.1 (b.2.2 h a'.1 q)
  · exact q
  · exact absurd b.2.1 (a'.2.2 h' b.1 q)
theorem least_all {vl : List Voy} {ns : List Nar} {os os' : List Int} {most : Int} (n : Nat) (a : ∀ j, j < n → LeastR vl ns os j (nth os j) ∧ nth os j ≤ most) (b : ∀ j, j < n → LeastR vl ns os' j (nth os' j) ∧ nth os' j ≤ most) : ∀ j, j < n → nth os j = nth os' j := by
  induction n with
  | zero => intro j hj; cases hj
  | succ n ih =>
    have h := ih (fun j hj => a j (by omega)) (fun j hj => b j (by omega))
    intro j hj
    rcases Nat.lt_or_ge j n with q | q
    · exact h j q
    · have e : j = n := by omega
      subst e
      exact LeastR.unique h (a j (by omega)).1 (b j (by omega)).1
theorem ext_nth {xs ys : List Int} (hl : xs.length = ys.length) (h : ∀ j, j < xs.length → nth xs j = nth ys j) : xs = ys := by
  refine List.ext_getElem hl fun i h1 h2 => ?_
  have := h i h1
  rw [nth_eq h1, nth_eq h2] at this
  exact this
theorem HoldsR.unique {vl : List Voy} {ns : List Nar} {most : Int} {ls ls' : List Int} {a a' e e' : Int} (x : HoldsR vl ns most ls a e) (y : HoldsR vl ns most ls' a' e') : ls = ls' ∧ a = a' ∧ e = e' := by
  rcases x with ⟨rfl, rfl, h1, h2⟩ | ⟨q, os, rfl, rfl, rfl, h1, h2, h3⟩
  · rcases y with ⟨rfl, rfl, k1, k2⟩ | ⟨p, os, rfl, rfl, rfl, k1, k2, k3⟩
    · exact ⟨ext_nth (h1.trans k1.symm) (fun j hj => least_all vl.length h2 k2 j (by omega)), rfl, rfl⟩
    · exfalso
      have hc := least_all p (fun j hj => h2 j (by omega)) k2
      have h4 := h2 p k1
      exact k3 _ h4.1.1 h4.2 ((FreeR.congr hc).1 h4.1.2.1)
  · rcases y with ⟨rfl, rfl, k1, k2⟩ | ⟨p, os', rfl, rfl, rfl, k1, k2, k3⟩
    · exfalso
      have hc := least_all q (fun j hj => k2 j (by omega)) h2
      have h4 := k2 q h1
      exact h3 _ h4.1.1 h4.2 ((FreeR.congr hc).1 h4.1.2.1)
    · have e : q = p := by
        rcases Nat.lt_trichotomy q p with r | r | r
        · exfalso
          have hc := least_all q (fun j hj => k2 j (by omega)) h2
          have h4 := k2 q r
          exact h3 _ h4.1.1 h4.2 ((FreeR.congr hc).1 h4.1.2.1)
        · exact r
        · exfalso
          have hc := least_all p (fun j hj => h2 j (by omega)) k2
          have h4 := h2 p r
          exact k3 _ h4.1.1 h4.2 ((FreeR.congr hc).1 h4.1.2.1)
      subst e; exact ⟨rfl, rfl, rfl⟩
theorem thr_of_open {vl : List Voy} {ns : List Nar} (h : OpenE vl ns = 0) : (∀ v ∈ vl, okVoy v = true) ∧ (∀ n ∈ ns, okNar n = true) ∧ ∀ v ∈ vl, ∀ n ∈ ns, thrE v n = 0 := by
  unfold OpenE at h
  split at h
  · cases h
  · split at h
    · cases h
    · rename_i h1
      rw [Bool.or_eq_true, not_or] at h1
      have hv : ∀ v ∈ vl, okVoy v = true := fun v hv => okVoy_of (fun hc => h1.1 (List.any_eq_true.2 ⟨v, hv, decide_eq_true hc⟩))
      have hn : ∀ n ∈ ns, okNar n = true := fun n hn => by
        cases hc : okNar n
        · exact absurd (List.any_eq_true.2 ⟨n, hn, by simp [hc]⟩) h1.2
        · rfl
      refine ⟨hv, hn, ?_⟩
      have o1 : ∀ (v : Voy) (l : List Nar), opE1 v l = 0 → ∀ n ∈ l, thrE v n = 0 := by
        intro v l
        induction l with
        | nil => intro _ n hn; cases hn
        | cons a l ih =>
          intro h n hn
          unfold opE1 at h
          split at h
          · rename_i hz; rcases List.mem_cons.1 hn with rfl | hn
            · exact hz
            · exact ih h n hn
          · rename_i hz; exact absurd h hz
      have o2 : ∀ l : List Voy, opE2 ns l = 0 → ∀ v ∈ l, opE1 v ns = 0 := by
        intro l
        induction l with
        | nil => intro _ v hv; cases hv
        | cons a l ih =>
          intro h v hv
          unfold opE2 at h
          split at h
          · rename_i hz; rcases List.mem_cons.1 hv with rfl | hv
            · exact hz
            · exact ih h v hv
          · rename_i hz; exact absurd h hz
      exact fun v hv n hn => o1 v ns (o2 vl h v hv) n hn
theorem flat_int (ls : List Int) : ls.flatMap encI = ls.map (Value.int .i64) := by
  induction ls with
  | nil => rfl
  | cons a l ih => rw [List.flatMap_cons, ih]; rfl
theorem holdsR_len {vl : List Voy} {ns : List Nar} {most a e : Int} {ls : List Int} (h : HoldsR vl ns most ls a e) : ls.length ≤ vl.length := by
  rcases h with ⟨_, _, h, _⟩ | ⟨_, _, _, _, rfl, _⟩
  · omega
  · exact Nat.zero_le _
theorem lrg_no {vs : List HVoy} {ns : List Nar} (h : lrgB vs ns = false) : (∀ x ∈ vs, x.v.runs.length ≤ 25) ∧ vs.length ≤ 14 ∧ ns.length ≤ 25 := by
  unfold lrgB at h
  simp only [Bool.or_eq_false_iff, decide_eq_false_iff_not, List.any_eq_false, decide_eq_true_eq] at h
  exact ⟨fun x hx => by have := h.1.1 x hx; omega, by omega, by omega⟩

end Go.Proofs.Ytmicjleiheoieaa
