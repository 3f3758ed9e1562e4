/-
  The contract of Order. Conditions: none.
-/
import Derived.Test.YtmicjleiheoieaaA36
import Derived.Test.YtmicjleiheoieaaA44
import Derived.Test.YtmicjleiheoieaaMc
import Derived.Test.YtmicjleiheoieaaUnr
namespace Go.Proofs.Ytmicjleiheoieaa
open Go Go.RowKit
def sumI (ls : List Int) : Int := ls.foldl (· + ·) 0
theorem sumI_snoc (ls : List Int) (x : Int) : sumI (ls ++ [x]) = sumI ls + x := by simp [sumI]

theorem perm_of_incl {l : List Int} : ∀ {l' : List Int}, l.Nodup → (∀ x ∈ l, x ∈ l') → l'.length ≤ l.length → l.Perm l' := by
  induction l with
  | nil => intro l' _ _ h; rw [List.eq_nil_of_length_eq_zero (Nat.le_zero.1 h)]
  | cons a l ih =>
    intro l' hn hs hl
    have ha := hs a (by simp)
    have hn' := List.nodup_cons.1 hn
    have h1 := ih (l' := l'.erase a) hn'.2 (fun x hx => (List.mem_erase_of_ne (fun e => hn'.1 (by rw [← e]; exact hx))).2 (hs x (by simp [hx]))) (by rw [List.length_erase_of_mem ha]; simp at hl; omega)
    exact (h1.cons a).trans (List.perm_cons_erase ha).symm
theorem sumI_perm {l l' : List Int} (h : l.Perm l') : sumI l = sumI l' := h.foldl_eq' (fun x _ y _ z => by omega) 0
def permV (vl : List Voy) (pk : List Int) : List Voy := pk.map fun j => nth vl j.toNat
def permH (ls pk : List Int) : List Int := pk.map fun j => nth ls j.toNat
theorem permV_nth {vl : List Voy} {pk : List Int} {q : Nat} (h : q < pk.length) : nth (permV vl pk) q = nth vl (nth pk q).toNat := by
  unfold permV; simp [nth, List.getD_eq_getElem?_getD, h]
theorem permH_nth {ls pk : List Int} {q : Nat} (h : q < pk.length) : nth (permH ls pk) q = nth ls (nth pk q).toNat := by
  unfold permH; simp [nth, List.getD_eq_getElem?_getD, h]
theorem okPick.perm {n : Nat} {pk : List Int} (h : okPick n pk) (hl : pk.length = n) : pk.Perm (ordL n) :=
  perm_of_incl h.2 (fun j hj => by
    have := h.1 j hj
    unfold ordL; exact List.mem_map.2 ⟨j.toNat, by simp; omega, by omega⟩) (by rw [ordL_len]; omega)
theorem permH_sum {n : Nat} {ls pk : List Int} (h : okPick n pk) (hp : pk.length = n) (hl : ls.length = n) : sumI (permH ls pk) = sumI ls := by
  have h1 : (permH ls pk).Perm (permH ls (ordL n)) := (h.perm hp).map _
  rw [sumI_perm h1]
  congr 1
  refine ext_nth (by simp [permH, ordL_len, hl]) fun j hj => ?_
  have hj' : j < (ordL n).length := by simpa [permH] using hj
  rw [permH_nth hj', ordL_nth (by rw [ordL_len] at hj'; exact hj')]; simp
section
variable {vs : List HVoy} {ns : List Nar} {rows : List HSt} {ls pk : List Int} {most : Int}
theorem bar_key (hr : rows.map (·.ss) = vs.map (fun h => ns.map (thrS h.v))) {i j k : Nat} {h : Int} (hi : i < vs.length) (hj : j < vs.length) (hk : k < ns.length) :
    barsV (heldV (nth vs j).v (nth ls j)) (heldV (nth vs i).v h) (nth ns k) = true ↔ barB vs ns rows i j k = true ∧ (clB rows ls i j k).lo ≤ h ∧ h ≤ (clB rows ls i j k).hi := by
  rw [barsV_iff]
  unfold barB clB
  rw [row_ss hr hi hk, row_ss hr hj hk]
  have hw : (nth vs i).v.wid + (nth vs j).v.wid = (nth vs j).v.wid + (nth vs i).v.wid := Int.add_comm _ _
  rw [hw]
  simp only [Bool.and_eq_true]
  constructor
  · rintro ⟨⟨h1, h2, h3⟩, h4, h5⟩; exact ⟨⟨⟨h3, h2⟩, h1⟩, by omega, by omega⟩
  · rintro ⟨⟨⟨h3, h2⟩, h1⟩, h4, h5⟩; exact ⟨⟨h1, h2, h3⟩, by omega, by omega⟩
theorem free_iffP (hr : rows.map (·.ss) = vs.map (fun h => ns.map (thrS h.v))) (hpk : ∀ j ∈ pk, 0 ≤ j ∧ j < vs.length) {q : Nat} {h : Int} (hq : q < pk.length) :
    FreeR (permV (vs.map HVoy.v) pk) ns (permH ls pk) q h ↔ ∀ b ∈ clL vs ns rows ls (nth pk q).toNat (pk.take q), ¬ (b.lo ≤ h ∧ h ≤ b.hi) := by
  have hin : ∀ p, p < pk.length → (nth pk p).toNat < vs.length := fun p hp => by have := hpk _ (nth_mem hp); omega
  constructor
  · intro hf b hb hc
    unfold clL at hb
    obtain ⟨j, hj, hb⟩ := List.mem_flatMap.1 hb
    obtain ⟨p, hp, hp2, rfl⟩ := mem_take_nth hj
    obtain ⟨k, hkf, rfl⟩ := List.mem_map.1 hb
    have hk := (List.mem_filter.1 hkf).1
    have hbar := (List.mem_filter.1 hkf).2
    have h1 := (bar_key hr (hin q hq) (hin p hp2) (List.mem_range.1 hk)).2 ⟨hbar, hc⟩
    have h2 := hf p hp k (List.mem_range.1 hk)
    rw [permV_nth hp2, permV_nth hq, permH_nth hp2, nth_mapv, nth_mapv] at h2
    rw [h2] at h1; cases h1
  · intro hf j hj k hk
    rw [← Bool.not_eq_true, permV_nth (by omega), permV_nth hq, permH_nth (by omega), nth_mapv, nth_mapv]
    intro hb
    obtain ⟨h1, h2⟩ := (bar_key hr (hin q hq) (hin j (by omega)) hk).1 hb
    refine hf _ ?_ h2
    unfold clL
    refine List.mem_flatMap.2 ⟨nth pk j, ?_, List.mem_map.2 ⟨k, List.mem_filter.2 ⟨List.mem_range.2 hk, h1⟩, rfl⟩⟩
    have e : nth pk j = nth (pk.take q) j := (nth_take hj).symm
    rw [e]; exact nth_mem (by rw [List.length_take]; omega)
theorem least_iffP (hr : rows.map (·.ss) = vs.map (fun h => ns.map (thrS h.v))) (hpk : ∀ j ∈ pk, 0 ≤ j ∧ j < vs.length) {q : Nat} {h : Int} (hq : q < pk.length)
    (hh : HoldR (clL vs ns rows ls (nth pk q).toNat (pk.take q)) h) : LeastR (permV (vs.map HVoy.v) pk) ns (permH ls pk) q h :=
  ⟨hh.1, (free_iffP hr hpk hq).2 hh.2.1, fun h' h3 h4 hf => by obtain ⟨b, hb, hc⟩ := hh.2.2 h' h3 h4; exact (free_iffP hr hpk hq).1 hf b hb hc⟩
theorem seq_leastP (hr : rows.map (·.ss) = vs.map (fun h => ns.map (thrS h.v))) (hpk : ∀ j ∈ pk, 0 ≤ j ∧ j < vs.length) {q : Nat} (hq : q ≤ pk.length) (hs : SeqH vs ns rows most pk q ls) :
    ∀ j, j < q → LeastR (permV (vs.map HVoy.v) pk) ns (permH ls pk) j (nth (permH ls pk) j) ∧ nth (permH ls pk) j ≤ most := fun j hj => by
  have h := hs j hj
  rw [permH_nth (by omega)]
  exact ⟨least_iffP hr hpk (by omega) h.1, h.2⟩
theorem holdsP_full (hr : rows.map (·.ss) = vs.map (fun h => ns.map (thrS h.v))) (hpk : ∀ j ∈ pk, 0 ≤ j ∧ j < vs.length) (hs : SeqH vs ns rows most pk pk.length ls) : HoldsR (permV (vs.map HVoy.v) pk) ns most (permH ls pk) 0 0 :=
  .inl ⟨rfl, rfl, by simp [permH, permV], fun j hj => seq_leastP hr hpk (Nat.le_refl _) hs j (by simpa [permV] using hj)⟩
theorem holdsP_fail (hr : rows.map (·.ss) = vs.map (fun h => ns.map (thrS h.v))) (hpk : ∀ j ∈ pk, 0 ≤ j ∧ j < vs.length) {q : Nat} {hh : Int} (hq : q < pk.length) (hs : SeqH vs ns rows most pk q ls)
    (hh1 : HoldR (clL vs ns rows ls (nth pk q).toNat (pk.take q)) hh) (hm : most < hh) : ∀ hs, ¬ HoldsR (permV (vs.map HVoy.v) pk) ns most hs 0 0 := fun g hg => by
  have h1 := least_iffP hr hpk hq hh1
  have h7 : HoldsR (permV (vs.map HVoy.v) pk) ns most [] (q : Int) 7 :=
    .inr ⟨q, permH ls pk, rfl, rfl, rfl, by simpa [permV] using hq, seq_leastP hr hpk (by omega) hs, fun h h2 h3 => h1.2.2 h h2 (by omega)⟩
  exact absurd (HoldsR.unique hg h7).2.2 (by decide)
end
open Classical in
/-- The holds of an order, if it has some. -/
noncomputable def feasF (vl : List Voy) (ns : List Nar) (most : Int) (pk : List Int) : Option (List Int) := if h : ∃ hs, HoldsR (permV vl pk) ns most hs 0 0 then some (Classical.choose h) else none
theorem feas_some {vl : List Voy} {ns : List Nar} {most : Int} {pk hs : List Int} (h : HoldsR (permV vl pk) ns most hs 0 0) : feasF vl ns most pk = some hs := by
  unfold feasF
  rw [dif_pos ⟨hs, h⟩]
  have h1 := Classical.choose_spec (⟨hs, h⟩ : ∃ hs, HoldsR (permV vl pk) ns most hs 0 0)
  rw [(HoldsR.unique h1 h).1]
theorem feas_none {vl : List Voy} {ns : List Nar} {most : Int} {pk : List Int} (h : ∀ hs, ¬ HoldsR (permV vl pk) ns most hs 0 0) : feasF vl ns most pk = none := by
  unfold feasF
  rw [dif_neg (fun ⟨hs, h1⟩ => h hs h1)]
theorem feas_spec {vl : List Voy} {ns : List Nar} {most : Int} {pk hs : List Int} (h : feasF vl ns most pk = some hs) : HoldsR (permV vl pk) ns most hs 0 0 := by
  unfold feasF at h
  split at h
  · rename_i hx; cases h; exact Classical.choose_spec hx
  · cases h
noncomputable def stepF (vl : List Voy) (ns : List Nar) (most : Int) (b : Option (List Int × List Int)) (pk : List Int) : Option (List Int × List Int) :=
  match feasF vl ns most pk with
  | none => b
  | some hs => match b with
    | none => some (pk, hs)
    | some g => if sumI hs < sumI g.2 then some (pk, hs) else b
/-- The first of the best orders of a list. -/
noncomputable def bestF (vl : List Voy) (ns : List Nar) (most : Int) (L : List (List Int)) : Option (List Int × List Int) := L.foldl (stepF vl ns most) none
theorem bestF_snoc {vl : List Voy} {ns : List Nar} {most : Int} {L : List (List Int)} {pk : List Int} : bestF vl ns most (L ++ [pk]) = stepF vl ns most (bestF vl ns most L) pk := by simp [bestF]
theorem stepF_none {vl : List Voy} {ns : List Nar} {most : Int} {b : Option (List Int × List Int)} {pk : List Int} (h : feasF vl ns most pk = none) : stepF vl ns most b pk = b := by unfold stepF; rw [h]
theorem stepF_first {vl : List Voy} {ns : List Nar} {most : Int} {pk hs : List Int} (h : feasF vl ns most pk = some hs) : stepF vl ns most none pk = some (pk, hs) := by unfold stepF; rw [h]
theorem stepF_less {vl : List Voy} {ns : List Nar} {most : Int} {pk hs o g : List Int} (h : feasF vl ns most pk = some hs) (hl : sumI hs < sumI g) : stepF vl ns most (some (o, g)) pk = some (pk, hs) := by unfold stepF; rw [h]; exact if_pos hl
theorem stepF_more {vl : List Voy} {ns : List Nar} {most : Int} {pk hs o g : List Int} (h : feasF vl ns most pk = some hs) (hl : ¬ sumI hs < sumI g) : stepF vl ns most (some (o, g)) pk = some (o, g) := by unfold stepF; rw [h]; exact if_neg hl
/-- What Order has found: whether there is an order, the order, the holds of all voyages, their sum. -/
def BestM (vl : List Voy) (ns : List Nar) (most : Int) (L : List (List Int)) (fd : Bool) (ord ls : List Int) (tot : Int) : Prop :=
  (fd = false ∧ bestF vl ns most L = none ∧ ord = [] ∧ ls = [] ∧ tot = 0) ∨ (fd = true ∧ bestF vl ns most L = some (ord, permH ls ord) ∧ okPick vl.length ord ∧ ord.length = vl.length ∧ ls.length = vl.length ∧ tot = sumI (permH ls ord))
section
variable {vl : List Voy} {ns : List Nar} {most tot : Int} {L : List (List Int)} {fd : Bool} {ord lsB ls pk : List Int}
theorem BestM.first (h : BestM vl ns most L fd ord lsB tot) (hf : fd = false) (hfe : feasF vl ns most pk = some (permH ls pk)) (hok : okPick vl.length pk) (hpl : pk.length = vl.length) (hll : ls.length = vl.length) : BestM vl ns most (L ++ [pk]) true pk ls (sumI ls) := by
  rcases h with ⟨_, h, _⟩ | ⟨h, _⟩
  · exact .inr ⟨rfl, by rw [bestF_snoc, h, stepF_first hfe], hok, hpl, hll, (permH_sum hok hpl hll).symm⟩
  · rw [hf] at h; cases h
theorem BestM.less (h : BestM vl ns most L fd ord lsB tot) (hf : fd = true) (hfe : feasF vl ns most pk = some (permH ls pk)) (hlt : sumI ls < tot) (hok : okPick vl.length pk) (hpl : pk.length = vl.length) (hll : ls.length = vl.length) : BestM vl ns most (L ++ [pk]) true pk ls (sumI ls) := by
  rcases h with ⟨h, _⟩ | ⟨_, h, _, _, _, ht⟩
  · rw [hf] at h; cases h
  · exact .inr ⟨rfl, by rw [bestF_snoc, h, stepF_less hfe (by rw [permH_sum hok hpl hll, ← ht]; exact hlt)], hok, hpl, hll, (permH_sum hok hpl hll).symm⟩
theorem BestM.more (h : BestM vl ns most L fd ord lsB tot) (hf : fd = true) (hfe : feasF vl ns most pk = some (permH ls pk)) (hlt : ¬ sumI ls < tot) (hok : okPick vl.length pk) (hpl : pk.length = vl.length) (hll : ls.length = vl.length) : BestM vl ns most (L ++ [pk]) fd ord lsB tot := by
  rcases h with ⟨h, _⟩ | ⟨h0, h, h1, h2, h3, ht⟩
  · rw [hf] at h; cases h
  · exact .inr ⟨h0, by rw [bestF_snoc, h, stepF_more hfe (by rw [permH_sum hok hpl hll, ← ht]; exact hlt)], h1, h2, h3, ht⟩
theorem BestM.none (h : BestM vl ns most L fd ord lsB tot) (hn : feasF vl ns most pk = none) : BestM vl ns most (L ++ [pk]) fd ord lsB tot := by
  rcases h with ⟨h0, h, h1⟩ | ⟨h0, h, h1⟩
  · exact .inl ⟨h0, by rw [bestF_snoc, stepF_none hn]; exact h, h1⟩
  · exact .inr ⟨h0, by rw [bestF_snoc, stepF_none hn]; exact h, h1⟩
end
theorem Traf.offB {B W0 lim t : Nat} {vs : List HVoy} {ns : List Nar} {rows : List HSt} {av an ar : Option Addr} {bv ov bn on br cv cn cr : Nat} {w : World} {S : Nat → Prop} (h : Traf lim t vs ns rows av an ar bv ov bn on br cv cn cr w) (hf : FreshT B t br rows) (hv : 0 < vs.length → bv < W0) (hn : 0 < ns.length → bn < W0)
    (hS : ∀ i, S i → W0 ≤ i ∧ (i < B ∨ lim ≤ i)) : TrafOff S t vs ns rows bv bn br :=
  ⟨fun q => by have := hS _ q; have := hf.1; have := h.tl; omega, fun hp q => by have := hS _ q; have := hv hp; omega, fun hp q => by have := hS _ q; have := hn hp; omega, fun hp q => by have := hS _ q; have := hf.2.1 hp; have := h.sl hp; omega, fun r hr hp q => by have := hS _ q; have := hf.2.2 r hr hp; have := h.rl r hr hp; omega⟩
/-- What Order answers. -/
def OrderA (vl : List Voy) (ns : List Nar) (most : Int) (ord ls : List Int) (tot e : Int) : Prop :=
  (6 < vl.length ∧ ord = [] ∧ ls = [] ∧ tot = 0 ∧ e = 5) ∨ (vl.length ≤ 6 ∧ OpenE vl ns ≠ 0 ∧ ord = [] ∧ ls = [] ∧ tot = 0 ∧ e = OpenE vl ns) ∨ (vl.length ≤ 6 ∧ OpenE vl ns = 0 ∧ ¬ (0 ≤ most ∧ most ≤ 5000) ∧ ord = [] ∧ ls = [] ∧ tot = 0 ∧ e = 3) ∨
  (vl.length ≤ 6 ∧ OpenE vl ns = 0 ∧ (0 ≤ most ∧ most ≤ 5000) ∧ ∃ fd, BestM vl ns most (permsF vl.length vl.length []) fd ord ls tot ∧ e = if fd then 0 else 7)


/-- What Order's variables hold when these orders have been tried. -/
def OrdC (vl : List Voy) (ns : List Nar) (most : Int) (b6 b7 b8 b11 : Nat) (wR : World) (pre : List (List Int)) (W : World) : Prop :=
  Upd (fun i => i = b6 ∨ i = b7 ∨ i = b8 ∨ i = b11 ∨ i = (wR.heap.size + 1)) wR W ∧ ∃ fd ord ls tot aoO bO cO aoH bH cH,
    Blk W b6 27 [.slice aoO (List.length ord) cO] ∧ Blk W b7 27 [.slice aoH (List.length ls) cH] ∧ Blk W b8 3 [.int .i64 tot] ∧ Blk W b11 4 [.bool fd] ∧ Sl encI 1 W aoO bO 0 ord ∧ Sl encI 1 W aoH bH 0 ls ∧ (0 < ord.length → wR.heap.size + 1 < bO) ∧ (0 < ls.length → wR.heap.size + 1 < bH) ∧ BestM vl ns most pre fd ord ls tot ∧ (0 ≤ tot ∧ tot ≤ 60000)
theorem OrdC.ext {vl : List Voy} {ns : List Nar} {most : Int} {b6 b7 b8 b11 : Nat} {wR : World} (pre : List (List Int)) (W W' : World) (h : OrdC vl ns most b6 b7 b8 b11 wR pre W) (u : Ext W W') : OrdC vl ns most b6 b7 b8 b11 wR pre W' := by
  obtain ⟨h0, fd, ord, ls, tot, aoO, bO, cO, aoH, bH, cH, h1, h2, h3, h4, h5, h6, h7⟩ := h
  exact ⟨h0.next u (fun _ _ h => h.elim), fd, ord, ls, tot, aoO, bO, cO, aoH, bH, cH, h1.keep u id, h2.keep u id, h3.keep u id, h4.keep u id, h5.keep u (fun _ h => h), h6.keep u (fun _ h => h), h7⟩
theorem OrdC.turned {vl : List Voy} {ns : List Nar} {most : Int} {b6 b7 b8 b11 : Nat} {wR : World} : Turned (wR.heap.size + 1) (OrdC vl ns most b6 b7 b8 b11 wR) := fun pre W W' h hl u => by
  obtain ⟨h0, fd, ord, ls, tot, aoO, bO, cO, aoH, bH, cH, h1, h2, h3, h4, h5, h6, h7, h8, h9⟩ := h
  have n1 := h1.notLoop hl; have n2 := h2.notLoop hl; have n3 := h3.notLoop hl; have n4 := h4.notLoop hl
  exact ⟨h0.trans (u.mono fun i e => .inr (.inr (.inr (.inr e)))), fd, ord, ls, tot, aoO, bO, cO, aoH, bH, cH, h1.keep u n1, h2.keep u n2, h3.keep u n3, h4.keep u n4, h5.keep u (fun hp => by have := h7 hp; omega), h6.keep u (fun hp => by have := h8 hp; omega), h7, h8, h9⟩
theorem sumI_take_rng {ls : List Int} (h : ∀ x ∈ ls, 0 ≤ x ∧ x ≤ 5000) : ∀ n, n ≤ ls.length → 0 ≤ sumI (ls.take n) ∧ sumI (ls.take n) ≤ 5000 * n
  | 0, _ => by simp [sumI]
  | n + 1, hn => by
    have h1 := sumI_take_rng h n (by omega)
    have h2 := h _ (nth_mem (show n < ls.length by omega))
    rw [take_nth (by omega), sumI_snoc]
    rw [show ((n + 1 : Nat) : Int) = (n : Int) + 1 by omega, Int.mul_add, Int.mul_one]
    omega

set_option maxHeartbeats 4000000 in
theorem Order_c (vs : List HVoy) (ns : List Nar) (av an : Option Addr) (bv ov bn on cv cn : Nat) (most : Int) (w0 : World) (hs : Sl encHVoy 5 w0 av bv ov vs) (hruns : ∀ x ∈ vs, Sl encRun 6 w0 x.ao x.b x.o x.v.runs) (hrl : ∀ x ∈ vs, x.v.runs.length ≤ 1000000) (hn : Sl encNar 4 w0 an bn on ns) (hvl : vs.length ≤ 1000000) (hnl : ns.length ≤ 1000000) :
    CallsV Try.prog 52 [.slice av vs.length cv, .slice an ns.length cn, .int .i64 most] w0 (fun v w' => (∃ ord ls tot e aoO bO cO aoH bH cH, v = .tuple #[.slice aoO (List.length ord) cO, .slice aoH (List.length ls) cH, .int .i64 tot, .int .i64 e] ∧ Sl encI 1 w' aoO bO 0 ord ∧ Sl encI 1 w' aoH bH 0 ls ∧ OrderA (vs.map HVoy.v) ns most ord ls tot e) ∧ Ext w0 w') := by
 have E0 := Upd.refl (fun _ => False) w0
 refine f_enterM (N := 77) Try.func52 rfl rfl rfl ?_
 change WC _ _ _ _ _ _ [(0, .slice av vs.length cv), (1, .slice an ns.length cn), (2, .int .i64 most)] _
 refine c_seq fun K1 hK1 => (c_region (t_box (cs := [.int .i64 most]) rfl rfl rfl rfl (fun bk2 w3 ebk2 sbk2 B4 u5 => ?_)))
 have zu5 := u5.size
 have E6 := E0.next u5 (fun _ _ h => h.elim)
 refine t_alloc (cs := [.slice none 0 0]) Try.zeroValue27 rfl rfl rfl (fun bk7 w8 ebk7 sbk7 B9 u10 => ?_)
 have zu10 := u10.size
 have E11 := E6.next u10 (fun _ _ h => h.elim)
 refine t_alloc (cs := [.slice none 0 0]) Try.zeroValue27 rfl rfl rfl (fun bk12 w13 ebk12 sbk12 B14 u15 => ?_)
 have zu15 := u15.size
 have E16 := E11.next u15 (fun _ _ h => h.elim)
 refine t_alloc (cs := [.int .i64 0]) Try.zeroValue3 rfl rfl rfl (fun bk17 w18 ebk17 sbk17 B19 u20 => ?_)
 have zu20 := u20.size
 have E21 := E16.next u20 (fun _ _ h => h.elim)
 refine t_assign rfl rfl rfl (t_nil' (hK1 _ _ (c_seq fun K22 hK22 => (c_seq fun K23 hK23 => (c_region (t_move rfl rfl rfl (t_len Try.underlying34 rfl rfl rfl rfl (t_cmp rfl rfl rfl rfl rfl (t_nil' (hK23 _ _ (c_condp rfl (fun g21 => ?_) (fun g21 => ?_))))))))))))
 ·
  refine c_seq fun K24 hK24 => (c_region ?_)
  have B25 := ((B9.keep u15 (fun h => h)).keep u20 (fun h => h))
  refine t_store (vs := [.slice none 0 0]) Try.sizeOf27 rfl rfl rfl B25 rfl rfl (Nat.le_of_ble_eq_true rfl) (by simp [Value.oneCell']) (fun w26 sw26 B28 u27 => ?_)
  have zu27 := u27.size
  have E29 := E21.next u27 (fun i hi (h : i = bk7) => show False by first | omega | assumption)
  have B28 : Blk w26 bk7 27 [.slice none 0 0] := B28
  have B30 := ((B14.keep u20 (fun h => h)).keep u27 (show ¬ (bk12 = bk7) by first | omega | assumption))
  refine t_store (vs := [.slice none 0 0]) Try.sizeOf27 rfl rfl rfl B30 rfl rfl (Nat.le_of_ble_eq_true rfl) (by simp [Value.oneCell']) (fun w31 sw31 B33 u32 => ?_)
  have zu32 := u32.size
  have E34 := E29.next u32 (fun i hi (h : i = bk12) => show False by first | omega | assumption)
  have B33 : Blk w31 bk12 27 [.slice none 0 0] := B33
  have B35 := ((B19.keep u27 (show ¬ (bk17 = bk7) by first | omega | assumption)).keep u32 (show ¬ (bk17 = bk12) by first | omega | assumption))
  refine t_store (vs := [.int .i64 0]) Try.sizeOf3 rfl rfl rfl B35 rfl rfl (Nat.le_of_ble_eq_true rfl) (by simp [Value.oneCell']) (fun w36 sw36 B38 u37 => ?_)
  have zu37 := u37.size
  have E39 := E34.next u37 (fun i hi (h : i = bk17) => show False by first | omega | assumption)
  have B38 : Blk w36 bk17 3 [.int .i64 0] := B38
  refine t_assign rfl rfl rfl (t_nil' (hK24 _ _ (c_ret ?_)))
  have B40 := ((B28.keep u32 (show ¬ (bk7 = bk12) by first | omega | assumption)).keep u37 (show ¬ (bk7 = bk17) by first | omega | assumption))
  have B41 := (B33.keep u37 (show ¬ (bk12 = bk17) by first | omega | assumption))
  have D44 := ((((((((show Marks w0.heap.size [] w0 from trivial).keep u5 (CellsIn.none _)).keep u10 (CellsIn.none _)).keep u15 (CellsIn.none _)).keep u20 (CellsIn.none _)).keep u27 (B25).cellsIn).keep u32 (B30).cellsIn).keep u37 (B35).cellsIn)
  have hmkE := D44
  refine f_retMc4 (v1 := .slice none 0 0) (v2 := .slice none 0 0) (v3 := .int .i64 0) (v4 := .int .i64 5) Try.results52 (.cell D44 rfl Try.isAgg27 B40 rfl) (.cell D44 rfl Try.isAgg27 B41 rfl) (.cell D44 rfl Try.isAgg3 B38 rfl) (.tmp rfl) D44 (fun w42 u43 omw42 => ?_)
  have zu43 := u43.size
  have E45 := E39.next u43 (fun i hi (h : w0.heap.size ≤ i) => show False by first | omega | assumption)
  exact ⟨⟨[], [], 0, _, none, 0, 0, none, 0, 0, rfl, Sl.nil _ _ _ _ _ _, Sl.nil _ _ _ _ _ _, .inl ⟨by rw [List.length_map]; omega, rfl, rfl, rfl, rfl⟩⟩, E45⟩
 ·
  refine c_skip (hK22 _ _ (c_seq fun K46 hK46 => (c_region (t_move rfl rfl rfl (t_move rfl rfl rfl (t_call (vs := [.slice av vs.length cv, .slice an ns.length cn]) own62 rfl rfl rfl rfl (open_c vs ns av an bv ov bn on cv cn _ (hs.keep E21 (fun _ h => h)) (fun x hx => (hruns x hx).keep E21 (fun _ h => h)) hrl (hn.keep E21 (fun _ h => h)) hvl hnl) (fun v47 w48 r50 => ?_)))))))
  obtain ⟨p, rfl, hop, hop2, u49⟩ := r50
  have zu49 := u49.size
  have E51 := E21.next u49 (fun _ _ h => h.elim)
  obtain ⟨po, rfl⟩ : ∃ o, p = .pointer o := by
    by_cases h : OpenE (vs.map HVoy.v) ns = 0
    · obtain ⟨t, _, _, _, _, _, h1, _, _⟩ := hop h; exact ⟨_, h1⟩
    · exact ⟨_, hop2 h⟩
  refine t_move rfl rfl rfl (t_extract (vs := [.pointer po, .int .i64 (OpenE (vs.map HVoy.v) ns)]) rfl rfl rfl rfl (t_extract (vs := [.pointer po, .int .i64 (OpenE (vs.map HVoy.v) ns)]) rfl rfl rfl rfl (t_alloc (cs := [.pointer none]) Try.zeroValue124 rfl rfl rfl (fun bk52 w53 ebk52 sbk52 B54 u55 => ?_))))
  have zu55 := u55.size
  have E56 := E51.next u55 (fun _ _ h => h.elim)
  refine t_store (vs := [.pointer po]) Try.sizeOf124 rfl rfl rfl B54 rfl rfl (Nat.le_of_ble_eq_true rfl) (by simp [Value.oneCell']) (fun w57 sw57 B59 u58 => ?_)
  have zu58 := u58.size
  have E60 := E56.next u58 (fun i hi (h : i = bk52) => show False by first | omega | assumption)
  have B59 : Blk w57 bk52 124 [.pointer po] := B59
  refine t_assign rfl rfl rfl (t_nil' (hK46 _ _ (c_seq fun K61 hK61 => (c_block (c_seq fun K62 hK62 => (c_region (t_move rfl rfl rfl (t_cmp rfl rfl rfl rfl rfl (t_assign rfl rfl rfl (t_nil' (hK62 _ _ (c_condp rfl (fun g28 => ?_) (fun g28 => ?_)))))))))))))
  ·
   refine c_seq fun K63 hK63 => (c_region (t_move rfl rfl rfl ?_))
   have B64 := (((((B9.keep u15 (fun h => h)).keep u20 (fun h => h)).keep u49 (fun h => h)).keep u55 (fun h => h)).keep u58 (show ¬ (bk7 = bk52) by first | omega | assumption))
   refine t_store (vs := [.slice none 0 0]) Try.sizeOf27 rfl rfl rfl B64 rfl rfl (Nat.le_of_ble_eq_true rfl) (by simp [Value.oneCell']) (fun w65 sw65 B67 u66 => ?_)
   have zu66 := u66.size
   have E68 := E60.next u66 (fun i hi (h : i = bk7) => show False by first | omega | assumption)
   have B67 : Blk w65 bk7 27 [.slice none 0 0] := B67
   have B69 := (((((B14.keep u20 (fun h => h)).keep u49 (fun h => h)).keep u55 (fun h => h)).keep u58 (show ¬ (bk12 = bk52) by first | omega | assumption)).keep u66 (show ¬ (bk12 = bk7) by first | omega | assumption))
   refine t_store (vs := [.slice none 0 0]) Try.sizeOf27 rfl rfl rfl B69 rfl rfl (Nat.le_of_ble_eq_true rfl) (by simp [Value.oneCell']) (fun w70 sw70 B72 u71 => ?_)
   have zu71 := u71.size
   have E73 := E68.next u71 (fun i hi (h : i = bk12) => show False by first | omega | assumption)
   have B72 : Blk w70 bk12 27 [.slice none 0 0] := B72
   have B74 := (((((B19.keep u49 (fun h => h)).keep u55 (fun h => h)).keep u58 (show ¬ (bk17 = bk52) by first | omega | assumption)).keep u66 (show ¬ (bk17 = bk7) by first | omega | assumption)).keep u71 (show ¬ (bk17 = bk12) by first | omega | assumption))
   refine t_store (vs := [.int .i64 0]) Try.sizeOf3 rfl rfl rfl B74 rfl rfl (Nat.le_of_ble_eq_true rfl) (by simp [Value.oneCell']) (fun w75 sw75 B77 u76 => ?_)
   have zu76 := u76.size
   have E78 := E73.next u76 (fun i hi (h : i = bk17) => show False by first | omega | assumption)
   have B77 : Blk w75 bk17 3 [.int .i64 0] := B77
   refine t_assign rfl rfl rfl (t_nil' (hK63 _ _ (c_ret ?_)))
   have B79 := ((B67.keep u71 (show ¬ (bk7 = bk12) by first | omega | assumption)).keep u76 (show ¬ (bk7 = bk17) by first | omega | assumption))
   have B80 := (B72.keep u76 (show ¬ (bk12 = bk17) by first | omega | assumption))
   have D83 := (((((((((((show Marks w0.heap.size [] w0 from trivial).keep u5 (CellsIn.none _)).keep u10 (CellsIn.none _)).keep u15 (CellsIn.none _)).keep u20 (CellsIn.none _)).keep u49 (CellsIn.none _)).keep u55 (CellsIn.none _)).keep u58 (B54).cellsIn).keep u66 (B64).cellsIn).keep u71 (B69).cellsIn).keep u76 (B74).cellsIn)
   have hmkE := D83
   refine f_retMc4 (v1 := .slice none 0 0) (v2 := .slice none 0 0) (v3 := .int .i64 0) (v4 := .int .i64 (OpenE (vs.map HVoy.v) ns)) Try.results52 (.cell D83 rfl Try.isAgg27 B79 rfl) (.cell D83 rfl Try.isAgg27 B80 rfl) (.cell D83 rfl Try.isAgg3 B77 rfl) (.tmp rfl) D83 (fun w81 u82 omw81 => ?_)
   have zu82 := u82.size
   have E84 := E78.next u82 (fun i hi (h : w0.heap.size ≤ i) => show False by first | omega | assumption)
   exact ⟨⟨[], [], 0, _, none, 0, 0, none, 0, 0, rfl, Sl.nil _ _ _ _ _ _, Sl.nil _ _ _ _ _ _, .inr (.inl ⟨by rw [List.length_map]; omega, g28, rfl, rfl, rfl, rfl⟩)⟩, E84⟩
  ·
   have hE : OpenE (vs.map HVoy.v) ns = 0 := Decidable.not_not.1 g28
   obtain ⟨t, rows, lim, ar, br, cr, hpo, htr, hfT⟩ := hop hE
   obtain rfl : po = some ⟨t, 0, none⟩ := by simpa using hpo
   have hll := htr.ll
   have htl := htr.tl
   have hfew := htr.few
   have htb := htr.blk
   have hrw := htr.rowlen
   have hft1 := hfT.1
   refine c_seq fun K85 hK85 => (c_region ?_)
   have B86 := ((((((B4.keep u10 (fun h => h)).keep u15 (fun h => h)).keep u20 (fun h => h)).keep u49 (fun h => h)).keep u55 (fun h => h)).keep u58 (show ¬ (bk2 = bk52) by first | omega | assumption))
   refine t_load Try.isAgg3 rfl rfl rfl (B86.get rfl) (t_bslice (ps := [(0, .int .i64 most)]) (cs := [.int .i64 most]) (e := 3) rfl rfl ⟨rfl, rfl⟩ (fun w => by kernel_rfl) (fun bk87 w88 ebk87 sbk87 B89 u90 => ?_))
   have zu90 := u90.size
   have E91 := E60.next u90 (fun _ _ h => h.elim)
   refine t_call (vs := [.int .i64 0, .int .i64 5000, .slice (some ⟨bk87, 0, none⟩) 1 1]) own58 rfl rfl rfl rfl (within1_v 0 5000 most _ _ _ B89) (fun v92 w93 r95 => ?_)
   obtain ⟨rfl, u94⟩ := r95
   have zu94 := u94.size
   have E96 := E91.next u94 (fun _ _ h => h.elim)
   refine t_notp rfl rfl rfl (t_assign rfl rfl rfl (t_nil' (hK85 _ _ (c_condp rfl (fun g32 => ?_) (fun g32 => ?_)))))
   ·
    refine c_seq fun K97 hK97 => (c_region ?_)
    have B98 := (((((((B9.keep u15 (fun h => h)).keep u20 (fun h => h)).keep u49 (fun h => h)).keep u55 (fun h => h)).keep u58 (show ¬ (bk7 = bk52) by first | omega | assumption)).keep u90 (fun h => h)).keep u94 (fun h => h))
    refine t_store (vs := [.slice none 0 0]) Try.sizeOf27 rfl rfl rfl B98 rfl rfl (Nat.le_of_ble_eq_true rfl) (by simp [Value.oneCell']) (fun w99 sw99 B101 u100 => ?_)
    have zu100 := u100.size
    have E102 := E96.next u100 (fun i hi (h : i = bk7) => show False by first | omega | assumption)
    have B101 : Blk w99 bk7 27 [.slice none 0 0] := B101
    have B103 := (((((((B14.keep u20 (fun h => h)).keep u49 (fun h => h)).keep u55 (fun h => h)).keep u58 (show ¬ (bk12 = bk52) by first | omega | assumption)).keep u90 (fun h => h)).keep u94 (fun h => h)).keep u100 (show ¬ (bk12 = bk7) by first | omega | assumption))
    refine t_store (vs := [.slice none 0 0]) Try.sizeOf27 rfl rfl rfl B103 rfl rfl (Nat.le_of_ble_eq_true rfl) (by simp [Value.oneCell']) (fun w104 sw104 B106 u105 => ?_)
    have zu105 := u105.size
    have E107 := E102.next u105 (fun i hi (h : i = bk12) => show False by first | omega | assumption)
    have B106 : Blk w104 bk12 27 [.slice none 0 0] := B106
    have B108 := (((((((B19.keep u49 (fun h => h)).keep u55 (fun h => h)).keep u58 (show ¬ (bk17 = bk52) by first | omega | assumption)).keep u90 (fun h => h)).keep u94 (fun h => h)).keep u100 (show ¬ (bk17 = bk7) by first | omega | assumption)).keep u105 (show ¬ (bk17 = bk12) by first | omega | assumption))
    refine t_store (vs := [.int .i64 0]) Try.sizeOf3 rfl rfl rfl B108 rfl rfl (Nat.le_of_ble_eq_true rfl) (by simp [Value.oneCell']) (fun w109 sw109 B111 u110 => ?_)
    have zu110 := u110.size
    have E112 := E107.next u110 (fun i hi (h : i = bk17) => show False by first | omega | assumption)
    have B111 : Blk w109 bk17 3 [.int .i64 0] := B111
    refine t_assign rfl rfl rfl (t_nil' (hK97 _ _ (c_ret ?_)))
    have B113 := ((B101.keep u105 (show ¬ (bk7 = bk12) by first | omega | assumption)).keep u110 (show ¬ (bk7 = bk17) by first | omega | assumption))
    have B114 := (B106.keep u110 (show ¬ (bk12 = bk17) by first | omega | assumption))
    have D117 := (((((((((((((show Marks w0.heap.size [] w0 from trivial).keep u5 (CellsIn.none _)).keep u10 (CellsIn.none _)).keep u15 (CellsIn.none _)).keep u20 (CellsIn.none _)).keep u49 (CellsIn.none _)).keep u55 (CellsIn.none _)).keep u58 (B54).cellsIn).keep u90 (CellsIn.none _)).keep u94 (CellsIn.none _)).keep u100 (B98).cellsIn).keep u105 (B103).cellsIn).keep u110 (B108).cellsIn)
    have hmkE := D117
    refine f_retMc4 (v1 := .slice none 0 0) (v2 := .slice none 0 0) (v3 := .int .i64 0) (v4 := .int .i64 3) Try.results52 (.cell D117 rfl Try.isAgg27 B113 rfl) (.cell D117 rfl Try.isAgg27 B114 rfl) (.cell D117 rfl Try.isAgg3 B111 rfl) (.tmp rfl) D117 (fun w115 u116 omw115 => ?_)
    have zu116 := u116.size
    have E118 := E112.next u116 (fun i hi (h : w0.heap.size ≤ i) => show False by first | omega | assumption)
    exact ⟨⟨[], [], 0, _, none, 0, 0, none, 0, 0, rfl, Sl.nil _ _ _ _ _ _, Sl.nil _ _ _ _ _ _, .inr (.inr (.inl ⟨by rw [List.length_map]; omega, hE, g32, rfl, rfl, rfl, rfl⟩))⟩, E118⟩
   ·
    have hmost : 0 ≤ most ∧ most ≤ 5000 := Decidable.not_not.1 g32
    refine c_skip (hK61 _ _ (c_seq fun K119 hK119 => (c_region (t_alloc (cs := [.bool false]) Try.zeroValue4 rfl rfl rfl (fun bk120 w121 ebk120 sbk120 B122 u123 => ?_)))))
    have zu123 := u123.size
    have E124 := E96.next u123 (fun _ _ h => h.elim)
    refine t_store (vs := [.bool false]) Try.sizeOf4 rfl rfl rfl B122 rfl rfl (Nat.le_of_ble_eq_true rfl) (by simp [Value.oneCell']) (fun w125 sw125 B127 u126 => ?_)
    have zu126 := u126.size
    have E128 := E124.next u126 (fun i hi (h : i = bk120) => show False by first | omega | assumption)
    have B127 : Blk w125 bk120 4 [.bool false] := B127
    refine t_nil' (hK119 _ _ (c_seq fun K129 hK129 => (c_seq fun K130 hK130 => (c_region (t_move rfl rfl rfl (t_len Try.underlying34 rfl rfl rfl rfl (t_call (vs := [.int .i64 (vs.length : Int)]) own86 rfl rfl rfl rfl (orders_c vs.length _) (fun v131 w132 r134 => ?_))))))))
    obtain ⟨⟨bn1, rfl, hgn1, hBn1⟩, u133⟩ := r134
    have zu133 := u133.size
    have E135 := E128.next u133 (fun _ _ h => h.elim)
    refine t_nil' (hK130 _ _ (c_block ?_))
    have B136 := ((((((((((B9.keep u15 (fun h => h)).keep u20 (fun h => h)).keep u49 (fun h => h)).keep u55 (fun h => h)).keep u58 (show ¬ (bk7 = bk52) by first | omega | assumption)).keep u90 (fun h => h)).keep u94 (fun h => h)).keep u123 (fun h => h)).keep u126 (show ¬ (bk7 = bk120) by first | omega | assumption)).keep u133 (fun h => h))
    have B137 := (((((((((B14.keep u20 (fun h => h)).keep u49 (fun h => h)).keep u55 (fun h => h)).keep u58 (show ¬ (bk12 = bk52) by first | omega | assumption)).keep u90 (fun h => h)).keep u94 (fun h => h)).keep u123 (fun h => h)).keep u126 (show ¬ (bk12 = bk120) by first | omega | assumption)).keep u133 (fun h => h))
    have B138 := ((((((((B19.keep u49 (fun h => h)).keep u55 (fun h => h)).keep u58 (show ¬ (bk17 = bk52) by first | omega | assumption)).keep u90 (fun h => h)).keep u94 (fun h => h)).keep u123 (fun h => h)).keep u126 (show ¬ (bk17 = bk120) by first | omega | assumption)).keep u133 (fun h => h))
    have B139 := (B127.keep u133 (fun h => h))
    have lw_bk7 := B136.lt
    have lw_bk12 := B137.lt
    have lw_bk17 := B138.lt
    have lw_bk120 := B139.lt
    have B140 := (((((B86.keep u90 (fun h => h)).keep u94 (fun h => h)).keep u123 (fun h => h)).keep u126 (show ¬ (bk2 = bk120) by first | omega | assumption)).keep u133 (fun h => h))
    have lw_bk2 := B140.lt
    have B141 := (((((B59.keep u90 (fun h => h)).keep u94 (fun h => h)).keep u123 (fun h => h)).keep u126 (show ¬ (bk52 = bk120) by first | omega | assumption)).keep u133 (fun h => h))
    have lw_bk52 := B141.lt
    have lw_bn1 := hBn1.lt
    refine WC.weak [(5, .pointer (some ⟨bk2, 0, none⟩)), (6, .pointer (some ⟨bk7, 0, none⟩)), (7, .pointer (some ⟨bk12, 0, none⟩)), (8, .pointer (some ⟨bk17, 0, none⟩)), (10, .pointer (some ⟨bk52, 0, none⟩)), (11, .pointer (some ⟨bk120, 0, none⟩)), (39, .func (.func 104) #[] #[.pointer (some ⟨bn1, 0, none⟩)])] ⟨rfl, rfl, rfl, rfl, rfl, rfl, rfl, trivial⟩ (c_rangeY (γ := Pick) (lb := [.pointer (some ⟨bn1, 0, none⟩)]) (enc := encPick) own104 rfl rfl (YPick vs.length w132.heap.size (OrdC (vs.map HVoy.v) ns most bk7 bk12 bk17 bk120 w132)) (ZPick (fun i => i = bk7 ∨ i = bk12 ∨ i = bk17 ∨ i = bk120 ∨ i = (w132.heap.size + 1)) (OrdC (vs.map HVoy.v) ns most bk7 bk12 bk17 bk120 w132)) (OrdC (vs.map HVoy.v) ns most bk7 bk12 bk17 bk120 w132 (permsF vs.length vs.length [])) (YPick.turned OrdC.turned) (ZPick.turned OrdC.turned (by simp)) (fun _ W W' h hl u => OrdC.turned _ W W' h hl u) ?_ (fun x => [(5, .pointer (some ⟨bk2, 0, none⟩)), (6, .pointer (some ⟨bk7, 0, none⟩)), (7, .pointer (some ⟨bk12, 0, none⟩)), (8, .pointer (some ⟨bk17, 0, none⟩)), (10, .pointer (some ⟨bk52, 0, none⟩)), (11, .pointer (some ⟨bk120, 0, none⟩)), (12, .slice x.ao x.xs.length x.cap)]) ?_ ?_ ?_)
    ·
     intro l D R W hD hl hsz hE1 hH hR
     subst hD hl
     refine (orders1_c vs.length _ _ bn1 (fun i => i = bk7 ∨ i = bk12 ∨ i = bk17 ∨ i = bk120 ∨ i = (w132.heap.size + 1)) (OrdC (vs.map HVoy.v) ns most bk7 bk12 bk17 bk120 w132) R W (fun p W W' h u => OrdC.ext p W W' h u) hH (hBn1.keep hE1 id) rfl (by omega) (by omega) (show ¬ (bn1 = bk7 ∨ bn1 = bk12 ∨ bn1 = bk17 ∨ bn1 = bk120 ∨ bn1 = (w132.heap.size + 1)) by omega) (fun i hi => show ¬ (i = bk7 ∨ i = bk12 ∨ i = bk17 ∨ i = bk120 ∨ i = (w132.heap.size + 1)) by omega) hR ?_).mono fun _ _ h => h
     exact ⟨(Ext.to hE1), false, [], [], 0, none, 0, 0, none, 0, 0, B136.keep hE1 id, B137.keep hE1 id, B138.keep hE1 id, B139.keep hE1 id, Sl.nil _ _ _ _ _ _, Sl.nil _ _ _ _ _ _, (fun h => absurd h (Nat.lt_irrefl _)), (fun h => absurd h (Nat.lt_irrefl _)), .inl ⟨rfl, rfl, rfl, rfl, rfl⟩, by decide⟩
    ·
     intro l x W K142 hI hK142
     change WC _ _ _ _ _ _ [(40, .slice x.ao x.xs.length x.cap), (5, .pointer (some ⟨bk2, 0, none⟩)), (6, .pointer (some ⟨bk7, 0, none⟩)), (7, .pointer (some ⟨bk12, 0, none⟩)), (8, .pointer (some ⟨bk17, 0, none⟩)), (10, .pointer (some ⟨bk52, 0, none⟩)), (11, .pointer (some ⟨bk120, 0, none⟩)), (39, .func (.func 104) #[] #[.pointer (some ⟨bn1, 0, none⟩)])] _
     refine c_region (t_assign rfl rfl rfl (t_nil' ?_))
     exact hK142 _ ⟨rfl, rfl, rfl, rfl, rfl, rfl, rfl, trivial⟩
    ·
     intro l x w143 hY
     obtain ⟨hC, hpk, ⟨hok, hpl, hpc, hpb⟩, hDW, hux⟩ := hY
     have hok2 : okPick (vs.map HVoy.v).length x.xs := by rw [List.length_map]; exact hok
     have hpl2 : x.xs.length = (vs.map HVoy.v).length := by rw [List.length_map]; exact hpl
     obtain ⟨u144, fd, ord, lsB, tot, aoO, bO, cO, aoH, bH, cH, O145, O146, O147, O148, hsO, hsH, hlO, hlH, hbm, htot⟩ := hC
     have zu144 := u144.size
     change WC _ _ _ _ _ _ [(5, .pointer (some ⟨bk2, 0, none⟩)), (6, .pointer (some ⟨bk7, 0, none⟩)), (7, .pointer (some ⟨bk12, 0, none⟩)), (8, .pointer (some ⟨bk17, 0, none⟩)), (10, .pointer (some ⟨bk52, 0, none⟩)), (11, .pointer (some ⟨bk120, 0, none⟩)), (12, .slice x.ao x.xs.length x.cap)] _
     have hcellsR := ((O145).cellsIn.or ((O146).cellsIn.or ((O147).cellsIn.or (O148).cellsIn)))
     refine c_block (c_seq fun K150 hK150 => (c_region ?_))
     have B151 := (B141.keep u144 (show ¬ (bk52 = bk7 ∨ bk52 = bk12 ∨ bk52 = bk17 ∨ bk52 = bk120 ∨ bk52 = (w132.heap.size + 1)) by first | omega | assumption))
     refine t_load Try.isAgg124 rfl rfl rfl (B151.get rfl) (t_move rfl rfl rfl ?_)
     have B152 := (B140.keep u144 (show ¬ (bk2 = bk7 ∨ bk2 = bk12 ∨ bk2 = bk17 ∨ bk2 = bk120 ∨ bk2 = (w132.heap.size + 1)) by first | omega | assumption))
     refine t_load Try.isAgg3 rfl rfl rfl (B152.get rfl) ?_
     have D153 := ((((((((htr.keep u55 (fun _ _ h => h)).keepT u58 (htr.offB hfT hs.lt hn.lt (fun i (h : i = bk52) => by omega))).keep u90 (fun _ _ h => h)).keep u94 (fun _ _ h => h)).keep u123 (fun _ _ h => h)).keepT u126 (htr.offB hfT hs.lt hn.lt (fun i (h : i = bk120) => by omega))).keep u133 (fun _ _ h => h)).keepT u144 (htr.offB hfT hs.lt hn.lt (fun i (h : i = bk7 ∨ i = bk12 ∨ i = bk17 ∨ i = bk120 ∨ i = (w132.heap.size + 1)) => by omega)))
     refine t_call (vs := [.pointer (some ⟨t, 0, none⟩), .slice x.ao x.xs.length x.cap, .int .i64 most]) own63 rfl rfl rfl rfl (holds_c lim t vs ns rows av an ar bv ov bn on br cv cn cr x.xs x.ao x.b 0 x.cap most _ D153 hpk hok.1 hok.2 (by omega) hpc hmost) (fun v154 w155 r157 => ?_)
     rcases r157 with ⟨⟨bL, ls, rfl, hBL, hll, hseq, hlsr, hbL⟩ | ⟨q, ls, hh, rfl, hq, hll, hseq, hhr1, hmh⟩, u156⟩
     ·
      have zu156 := u156.size
      have hfe := feas_some (holdsP_full htr.eq hok.1 hseq)
      have hll2 : ls.length = (vs.map HVoy.v).length := by rw [List.length_map]; exact hll
      have hlbL := hBL.lt
      refine t_move rfl rfl rfl (t_extract (vs := [.slice (some ⟨bL, 0, none⟩) vs.length vs.length, .int .i64 0, .bool true]) rfl rfl rfl rfl (t_extract (vs := [.slice (some ⟨bL, 0, none⟩) vs.length vs.length, .int .i64 0, .bool true]) rfl rfl rfl rfl (t_extract (vs := [.slice (some ⟨bL, 0, none⟩) vs.length vs.length, .int .i64 0, .bool true]) rfl rfl rfl rfl (t_assign rfl rfl rfl (t_assign rfl rfl rfl (t_assign rfl rfl rfl (t_nil' (hK150 _ _ (c_seq fun K159 hK159 => (c_region (t_assign rfl rfl rfl (t_nil' (hK159 _ _ (c_seq fun K160 hK160 => (c_seq fun K161 hK161 => (c_region (t_move rfl rfl rfl (t_len Try.underlying27 rfl rfl rfl rfl (t_move rfl rfl rfl (t_nil' (hK161 _ _ (c_block (c_loop (γ := Nat) (fun k => [(5, .pointer (some ⟨bk2, 0, none⟩)), (6, .pointer (some ⟨bk7, 0, none⟩)), (7, .pointer (some ⟨bk12, 0, none⟩)), (8, .pointer (some ⟨bk17, 0, none⟩)), (10, .pointer (some ⟨bk52, 0, none⟩)), (11, .pointer (some ⟨bk120, 0, none⟩)), (12, .slice x.ao x.xs.length x.cap), (13, .slice (some ⟨bL, 0, none⟩) vs.length vs.length), (15, .bool true), (16, .int .i64 (sumI (ls.take k))), (41, .tuple #[.slice (some ⟨bL, 0, none⟩) vs.length vs.length, .int .i64 0, .bool true]), (42, .pointer (some ⟨t, 0, none⟩)), (43, .slice x.ao x.xs.length x.cap), (44, .int .i64 most), (45, .tuple #[.slice (some ⟨bL, 0, none⟩) vs.length vs.length, .int .i64 0, .bool true]), (46, .slice (some ⟨bL, 0, none⟩) vs.length vs.length), (47, .int .i64 0), (48, .bool true), (49, .slice (some ⟨bL, 0, none⟩) vs.length vs.length), (50, .int .i64 (vs.length : Int)), (51, .int .i64 (k : Int))]) (fun k w => Upd (fun _ => False) w155 w ∧ (k ≤ vs.length)) (fun k => vs.length - k) 0 ⟨rfl, rfl, rfl, rfl, rfl, rfl, rfl, rfl, rfl, rfl, rfl, rfl, rfl, rfl, rfl, rfl, rfl, rfl, rfl, rfl, rfl, trivial⟩ ⟨Upd.refl _ _, (Nat.zero_le _)⟩ ?_)))))))))))))))))))))))
      intro k w163 hW K162 hK162
      obtain ⟨u164, I165⟩ := hW
      have zu164 := u164.size
      have hk := I165; clear I165
      have hsr := sumI_take_rng hlsr k (by omega)
      refine c_seq fun K167 hK167 => (c_region (t_cmp rfl rfl rfl rfl rfl (t_nil' (hK167 _ _ (c_seq fun K168 hK168 => (c_condp rfl (fun g52 => ?_) (fun g52 => ?_)))))))
      ·
       refine c_skip (hK168 _ _ (c_seq fun K169 hK169 => (c_block (c_seq fun K170 hK170 => (c_region ?_)))))
       have B171 := (hBL.keep u164 (fun h => h))
       have i172 : k < ls.length := (by omega)
       refine t_index (j := k) Try.underlying27 Try.sizeOf3 rfl rfl rfl rfl ((SlI.own B171).addr (by omega)) rfl (by omega) (t_load Try.isAgg3 rfl rfl rfl (((SlI.own B171).at_ k (by omega)) 0 _ rfl) ?_)
       have hnr := hlsr _ (nth_mem (xs := ls) (i := k) (by omega))
       refine t_assign rfl rfl rfl (t_nil' (hK170 _ _ (c_region (t_move rfl rfl rfl (t_move rfl rfl rfl (t_ari rfl rfl rfl rfl rfl (by omega) (t_assign rfl rfl rfl (t_nil' (hK169 _ _ (c_region (t_ari rfl rfl rfl rfl rfl (by omega) (t_move rfl rfl rfl (t_nil' ?_)))))))))))))
       exact hK162 (k + 1) _ _ (by omega) ⟨rfl, rfl, rfl, rfl, rfl, rfl, rfl, rfl, rfl, (congrArg some (congrArg (Value.int .i64) (by show sumI (ls.take k) + nth ls k = sumI (ls.take (k + 1)); rw [take_nth (by omega), sumI_snoc]))), rfl, rfl, rfl, rfl, rfl, rfl, rfl, rfl, rfl, rfl, rfl, trivial⟩ ⟨u164, (by omega)⟩
      ·
       have hk1 : k = vs.length := by omega
       have hkl : ls.take k = ls := List.take_of_length_le (by omega)
       refine c_same 16 (v := .int .i64 (sumI ls)) rfl (by rw [hkl]) ?_
       have hsr := sumI_take_rng hlsr k (by omega)
       rw [hkl] at hsr
       refine c_exit (hK160 _ _ (c_seq fun K173 hK173 => (c_region (t_move rfl rfl rfl (t_move rfl rfl rfl ?_)))))
       have B174 := ((O148.keep u156 (fun h => h)).keep u164 (fun h => h))
       refine t_load Try.isAgg4 rfl rfl rfl (B174.get rfl) (t_not rfl rfl rfl (t_move rfl rfl rfl (t_split 63 rfl (fun g63 => ?_) (fun g63 => ?_))))
       ·
        refine t_skip rfl rfl rfl (t_skip rfl rfl rfl (t_skip rfl rfl rfl (t_pick_t rfl rfl rfl rfl (t_pick_t rfl rfl rfl rfl (t_nil' (hK173 _ _ (c_cond_t rfl (c_region (t_move rfl rfl rfl (t_move rfl rfl rfl (t_move rfl rfl rfl ?_)))))))))))
        have B175 := ((O145.keep u156 (fun h => h)).keep u164 (fun h => h))
        refine t_store (vs := [.slice x.ao x.xs.length x.cap]) Try.sizeOf27 rfl rfl rfl B175 rfl rfl (Nat.le_of_ble_eq_true rfl) (by simp [Value.oneCell']) (fun w176 sw176 B178 u177 => ?_)
        have zu177 := u177.size
        have B178 : Blk w176 bk7 27 [.slice x.ao x.xs.length x.cap] := B178
        have B180 := (((O146.keep u156 (fun h => h)).keep u164 (fun h => h)).keep u177 (show ¬ (bk12 = bk7) by first | omega | assumption))
        refine t_store (vs := [.slice (some ⟨bL, 0, none⟩) vs.length vs.length]) Try.sizeOf27 rfl rfl rfl B180 rfl rfl (Nat.le_of_ble_eq_true rfl) (by simp [Value.oneCell']) (fun w181 sw181 B183 u182 => ?_)
        have zu182 := u182.size
        have B183 : Blk w181 bk12 27 [.slice (some ⟨bL, 0, none⟩) vs.length vs.length] := B183
        have B185 := ((((O147.keep u156 (fun h => h)).keep u164 (fun h => h)).keep u177 (show ¬ (bk17 = bk7) by first | omega | assumption)).keep u182 (show ¬ (bk17 = bk12) by first | omega | assumption))
        refine t_store (vs := [.int .i64 (sumI ls)]) Try.sizeOf3 rfl rfl rfl B185 rfl rfl (Nat.le_of_ble_eq_true rfl) (by simp [Value.oneCell']) (fun w186 sw186 B188 u187 => ?_)
        have zu187 := u187.size
        have B188 : Blk w186 bk17 3 [.int .i64 (sumI ls)] := B188
        have B190 := (((B174.keep u177 (show ¬ (bk120 = bk7) by first | omega | assumption)).keep u182 (show ¬ (bk120 = bk12) by first | omega | assumption)).keep u187 (show ¬ (bk120 = bk17) by first | omega | assumption))
        refine t_store (vs := [.bool true]) Try.sizeOf4 rfl rfl rfl B190 rfl rfl (Nat.le_of_ble_eq_true rfl) (by simp [Value.oneCell']) (fun w191 sw191 B193 u192 => ?_)
        have zu192 := u192.size
        have B193 : Blk w191 bk120 4 [.bool true] := B193
        refine t_nil' ?_
        have hUr := (((((((Upd.refl (fun i => i = bk7 ∨ i = bk12 ∨ i = bk17 ∨ i = bk120) w143).next u156 (fun _ _ h => h.elim)).next u164 (fun _ _ h => h.elim)).next u177 (fun i hi (h : i = bk7) => show i = bk7 ∨ i = bk12 ∨ i = bk17 ∨ i = bk120 by first | omega | assumption)).next u182 (fun i hi (h : i = bk12) => show i = bk7 ∨ i = bk12 ∨ i = bk17 ∨ i = bk120 by first | omega | assumption)).next u187 (fun i hi (h : i = bk17) => show i = bk7 ∨ i = bk12 ∨ i = bk17 ∨ i = bk120 by first | omega | assumption)).next u192 (fun i hi (h : i = bk120) => show i = bk7 ∨ i = bk12 ∨ i = bk17 ∨ i = bk120 by first | omega | assumption))
        have B195 := (((B178.keep u182 (show ¬ (bk7 = bk12) by first | omega | assumption)).keep u187 (show ¬ (bk7 = bk17) by first | omega | assumption)).keep u192 (show ¬ (bk7 = bk120) by first | omega | assumption))
        have B196 := ((B183.keep u187 (show ¬ (bk12 = bk17) by first | omega | assumption)).keep u192 (show ¬ (bk12 = bk120) by first | omega | assumption))
        have B197 := (B188.keep u192 (show ¬ (bk17 = bk120) by first | omega | assumption))
        have D198 := ((((((hpk.keep u156 (fun _ h => h)).keep u164 (fun _ h => h)).keep u177 (fun hp => by have hb_ := hpb hp; show ¬ (x.b = bk7); omega)).keep u182 (fun hp => by have hb_ := hpb hp; show ¬ (x.b = bk12); omega)).keep u187 (fun hp => by have hb_ := hpb hp; show ¬ (x.b = bk17); omega)).keep u192 (fun hp => by have hb_ := hpb hp; show ¬ (x.b = bk120); omega))
        have B199 := (((((hBL.keep u164 (fun h => h)).keep u177 (show ¬ (bL = bk7) by first | omega | assumption)).keep u182 (show ¬ (bL = bk12) by first | omega | assumption)).keep u187 (show ¬ (bL = bk17) by first | omega | assumption)).keep u192 (show ¬ (bL = bk120) by first | omega | assumption))
        exact fun a ha => ⟨KeepsFrom.of_upd hUr hcellsR, ⟨⟨((((((u144.next u156 (fun _ _ h => h.elim)).next u164 (fun _ _ h => h.elim)).next u177 (fun i hi (h : i = bk7) => show i = bk7 ∨ i = bk12 ∨ i = bk17 ∨ i = bk120 ∨ i = (w132.heap.size + 1) by first | omega | assumption)).next u182 (fun i hi (h : i = bk12) => show i = bk7 ∨ i = bk12 ∨ i = bk17 ∨ i = bk120 ∨ i = (w132.heap.size + 1) by first | omega | assumption)).next u187 (fun i hi (h : i = bk17) => show i = bk7 ∨ i = bk12 ∨ i = bk17 ∨ i = bk120 ∨ i = (w132.heap.size + 1) by first | omega | assumption)).next u192 (fun i hi (h : i = bk120) => show i = bk7 ∨ i = bk12 ∨ i = bk17 ∨ i = bk120 ∨ i = (w132.heap.size + 1) by first | omega | assumption)), true, x.xs, ls, (sumI ls), x.ao, x.b, x.cap, some ⟨bL, 0, none⟩, bL, vs.length, B195, (by rw [hll]; exact B196), B197, B193, D198, (Sl.ofBlk (enc := encI) (fun _ => rfl) (by rw [flat_int]; exact B199)), hpb, (fun _ => by omega), hbm.first (by simpa using g63) hfe hok2 hpl2 hll2, (by omega)⟩, ((hux.mono fun i e => .inr (.inr (.inr (.inr e)))).trans (((((((Upd.refl (fun i => i = bk7 ∨ i = bk12 ∨ i = bk17 ∨ i = bk120 ∨ i = (w132.heap.size + 1)) _).next u156 (fun _ _ h => h.elim)).next u164 (fun _ _ h => h.elim)).next u177 (fun i hi (h : i = bk7) => show i = bk7 ∨ i = bk12 ∨ i = bk17 ∨ i = bk120 ∨ i = (w132.heap.size + 1) by first | omega | assumption)).next u182 (fun i hi (h : i = bk12) => show i = bk7 ∨ i = bk12 ∨ i = bk17 ∨ i = bk120 ∨ i = (w132.heap.size + 1) by first | omega | assumption)).next u187 (fun i hi (h : i = bk17) => show i = bk7 ∨ i = bk12 ∨ i = bk17 ∨ i = bk120 ∨ i = (w132.heap.size + 1) by first | omega | assumption)).next u192 (fun i hi (h : i = bk120) => show i = bk7 ∨ i = bk12 ∨ i = bk17 ∨ i = bk120 ∨ i = (w132.heap.size + 1) by first | omega | assumption)))⟩⟩
       ·
        refine t_move rfl rfl rfl ?_
        have B200 := ((O147.keep u156 (fun h => h)).keep u164 (fun h => h))
        refine t_load Try.isAgg3 rfl rfl rfl (B200.get rfl) (t_cmp rfl rfl rfl rfl rfl (t_pick_f rfl rfl rfl rfl (t_pick_t rfl rfl rfl rfl (t_nil' (hK173 _ _ (c_condp rfl (fun g68 => ?_) (fun g68 => ?_)))))))
        ·
         refine c_region (t_move rfl rfl rfl (t_move rfl rfl rfl (t_move rfl rfl rfl ?_)))
         have B201 := ((O145.keep u156 (fun h => h)).keep u164 (fun h => h))
         refine t_store (vs := [.slice x.ao x.xs.length x.cap]) Try.sizeOf27 rfl rfl rfl B201 rfl rfl (Nat.le_of_ble_eq_true rfl) (by simp [Value.oneCell']) (fun w202 sw202 B204 u203 => ?_)
         have zu203 := u203.size
         have B204 : Blk w202 bk7 27 [.slice x.ao x.xs.length x.cap] := B204
         have B206 := (((O146.keep u156 (fun h => h)).keep u164 (fun h => h)).keep u203 (show ¬ (bk12 = bk7) by first | omega | assumption))
         refine t_store (vs := [.slice (some ⟨bL, 0, none⟩) vs.length vs.length]) Try.sizeOf27 rfl rfl rfl B206 rfl rfl (Nat.le_of_ble_eq_true rfl) (by simp [Value.oneCell']) (fun w207 sw207 B209 u208 => ?_)
         have zu208 := u208.size
         have B209 : Blk w207 bk12 27 [.slice (some ⟨bL, 0, none⟩) vs.length vs.length] := B209
         have B211 := ((B200.keep u203 (show ¬ (bk17 = bk7) by first | omega | assumption)).keep u208 (show ¬ (bk17 = bk12) by first | omega | assumption))
         refine t_store (vs := [.int .i64 (sumI ls)]) Try.sizeOf3 rfl rfl rfl B211 rfl rfl (Nat.le_of_ble_eq_true rfl) (by simp [Value.oneCell']) (fun w212 sw212 B214 u213 => ?_)
         have zu213 := u213.size
         have B214 : Blk w212 bk17 3 [.int .i64 (sumI ls)] := B214
         have B216 := (((B174.keep u203 (show ¬ (bk120 = bk7) by first | omega | assumption)).keep u208 (show ¬ (bk120 = bk12) by first | omega | assumption)).keep u213 (show ¬ (bk120 = bk17) by first | omega | assumption))
         refine t_store (vs := [.bool true]) Try.sizeOf4 rfl rfl rfl B216 rfl rfl (Nat.le_of_ble_eq_true rfl) (by simp [Value.oneCell']) (fun w217 sw217 B219 u218 => ?_)
         have zu218 := u218.size
         have B219 : Blk w217 bk120 4 [.bool true] := B219
         refine t_nil' ?_
         have hUr := (((((((Upd.refl (fun i => i = bk7 ∨ i = bk12 ∨ i = bk17 ∨ i = bk120) w143).next u156 (fun _ _ h => h.elim)).next u164 (fun _ _ h => h.elim)).next u203 (fun i hi (h : i = bk7) => show i = bk7 ∨ i = bk12 ∨ i = bk17 ∨ i = bk120 by first | omega | assumption)).next u208 (fun i hi (h : i = bk12) => show i = bk7 ∨ i = bk12 ∨ i = bk17 ∨ i = bk120 by first | omega | assumption)).next u213 (fun i hi (h : i = bk17) => show i = bk7 ∨ i = bk12 ∨ i = bk17 ∨ i = bk120 by first | omega | assumption)).next u218 (fun i hi (h : i = bk120) => show i = bk7 ∨ i = bk12 ∨ i = bk17 ∨ i = bk120 by first | omega | assumption))
         have B221 := (((B204.keep u208 (show ¬ (bk7 = bk12) by first | omega | assumption)).keep u213 (show ¬ (bk7 = bk17) by first | omega | assumption)).keep u218 (show ¬ (bk7 = bk120) by first | omega | assumption))
         have B222 := ((B209.keep u213 (show ¬ (bk12 = bk17) by first | omega | assumption)).keep u218 (show ¬ (bk12 = bk120) by first | omega | assumption))
         have B223 := (B214.keep u218 (show ¬ (bk17 = bk120) by first | omega | assumption))
         have D224 := ((((((hpk.keep u156 (fun _ h => h)).keep u164 (fun _ h => h)).keep u203 (fun hp => by have hb_ := hpb hp; show ¬ (x.b = bk7); omega)).keep u208 (fun hp => by have hb_ := hpb hp; show ¬ (x.b = bk12); omega)).keep u213 (fun hp => by have hb_ := hpb hp; show ¬ (x.b = bk17); omega)).keep u218 (fun hp => by have hb_ := hpb hp; show ¬ (x.b = bk120); omega))
         have B225 := (((((hBL.keep u164 (fun h => h)).keep u203 (show ¬ (bL = bk7) by first | omega | assumption)).keep u208 (show ¬ (bL = bk12) by first | omega | assumption)).keep u213 (show ¬ (bL = bk17) by first | omega | assumption)).keep u218 (show ¬ (bL = bk120) by first | omega | assumption))
         exact fun a ha => ⟨KeepsFrom.of_upd hUr hcellsR, ⟨⟨((((((u144.next u156 (fun _ _ h => h.elim)).next u164 (fun _ _ h => h.elim)).next u203 (fun i hi (h : i = bk7) => show i = bk7 ∨ i = bk12 ∨ i = bk17 ∨ i = bk120 ∨ i = (w132.heap.size + 1) by first | omega | assumption)).next u208 (fun i hi (h : i = bk12) => show i = bk7 ∨ i = bk12 ∨ i = bk17 ∨ i = bk120 ∨ i = (w132.heap.size + 1) by first | omega | assumption)).next u213 (fun i hi (h : i = bk17) => show i = bk7 ∨ i = bk12 ∨ i = bk17 ∨ i = bk120 ∨ i = (w132.heap.size + 1) by first | omega | assumption)).next u218 (fun i hi (h : i = bk120) => show i = bk7 ∨ i = bk12 ∨ i = bk17 ∨ i = bk120 ∨ i = (w132.heap.size + 1) by first | omega | assumption)), true, x.xs, ls, (sumI ls), x.ao, x.b, x.cap, some ⟨bL, 0, none⟩, bL, vs.length, B221, (by rw [hll]; exact B222), B223, B219, D224, (Sl.ofBlk (enc := encI) (fun _ => rfl) (by rw [flat_int]; exact B225)), hpb, (fun _ => by omega), hbm.less (by simpa using g63) hfe g68 hok2 hpl2 hll2, (by omega)⟩, ((hux.mono fun i e => .inr (.inr (.inr (.inr e)))).trans (((((((Upd.refl (fun i => i = bk7 ∨ i = bk12 ∨ i = bk17 ∨ i = bk120 ∨ i = (w132.heap.size + 1)) _).next u156 (fun _ _ h => h.elim)).next u164 (fun _ _ h => h.elim)).next u203 (fun i hi (h : i = bk7) => show i = bk7 ∨ i = bk12 ∨ i = bk17 ∨ i = bk120 ∨ i = (w132.heap.size + 1) by first | omega | assumption)).next u208 (fun i hi (h : i = bk12) => show i = bk7 ∨ i = bk12 ∨ i = bk17 ∨ i = bk120 ∨ i = (w132.heap.size + 1) by first | omega | assumption)).next u213 (fun i hi (h : i = bk17) => show i = bk7 ∨ i = bk12 ∨ i = bk17 ∨ i = bk120 ∨ i = (w132.heap.size + 1) by first | omega | assumption)).next u218 (fun i hi (h : i = bk120) => show i = bk7 ∨ i = bk12 ∨ i = bk17 ∨ i = bk120 ∨ i = (w132.heap.size + 1) by first | omega | assumption)))⟩⟩
        ·
         refine c_skip ?_
         have hUr := (((Upd.refl (fun i => i = bk7 ∨ i = bk12 ∨ i = bk17 ∨ i = bk120) w143).next u156 (fun _ _ h => h.elim)).next u164 (fun _ _ h => h.elim))
         have B226 := ((O145.keep u156 (fun h => h)).keep u164 (fun h => h))
         have B227 := ((O146.keep u156 (fun h => h)).keep u164 (fun h => h))
         have D228 := ((hsO.keep u156 (fun _ h => h)).keep u164 (fun _ h => h))
         have D229 := ((hsH.keep u156 (fun _ h => h)).keep u164 (fun _ h => h))
         exact fun a ha => ⟨KeepsFrom.of_upd hUr hcellsR, ⟨⟨((u144.next u156 (fun _ _ h => h.elim)).next u164 (fun _ _ h => h.elim)), fd, ord, lsB, tot, aoO, bO, cO, aoH, bH, cH, B226, B227, B200, B174, D228, D229, hlO, hlH, hbm.more (by simpa using g63) hfe g68 hok2 hpl2 hll2, htot⟩, ((hux.mono fun i e => .inr (.inr (.inr (.inr e)))).trans (((Upd.refl (fun i => i = bk7 ∨ i = bk12 ∨ i = bk17 ∨ i = bk120 ∨ i = (w132.heap.size + 1)) _).next u156 (fun _ _ h => h.elim)).next u164 (fun _ _ h => h.elim)))⟩⟩
     ·
      have zu156 := u156.size
      have hfn := feas_none (holdsP_fail htr.eq hok.1 hq hseq hhr1 hmh)
      refine t_move rfl rfl rfl (t_extract (vs := [.slice none 0 0, .int .i64 (q : Int), .bool false]) rfl rfl rfl rfl (t_extract (vs := [.slice none 0 0, .int .i64 (q : Int), .bool false]) rfl rfl rfl rfl (t_extract (vs := [.slice none 0 0, .int .i64 (q : Int), .bool false]) rfl rfl rfl rfl (t_assign rfl rfl rfl (t_assign rfl rfl rfl (t_assign rfl rfl rfl (t_nil' (hK150 _ _ (c_seq fun K231 hK231 => (c_region (t_assign rfl rfl rfl (t_nil' (hK231 _ _ (c_seq fun K232 hK232 => (c_seq fun K233 hK233 => (c_region (t_move rfl rfl rfl (t_len Try.underlying27 rfl rfl rfl rfl (t_move rfl rfl rfl (t_nil' (hK233 _ _ (c_block (c_rounds 1 ?_)))))))))))))))))))))))
      refine WR.weak [(5, .pointer (some ⟨bk2, 0, none⟩)), (6, .pointer (some ⟨bk7, 0, none⟩)), (7, .pointer (some ⟨bk12, 0, none⟩)), (8, .pointer (some ⟨bk17, 0, none⟩)), (10, .pointer (some ⟨bk52, 0, none⟩)), (11, .pointer (some ⟨bk120, 0, none⟩)), (12, .slice x.ao x.xs.length x.cap), (13, .slice none 0 0), (15, .bool false), (16, .int .i64 0), (41, .tuple #[.slice none 0 0, .int .i64 (q : Int), .bool false]), (42, .pointer (some ⟨t, 0, none⟩)), (43, .slice x.ao x.xs.length x.cap), (44, .int .i64 most), (45, .tuple #[.slice none 0 0, .int .i64 (q : Int), .bool false]), (46, .slice none 0 0), (47, .int .i64 (q : Int)), (48, .bool false), (49, .slice none 0 0), (50, .int .i64 0), (51, .int .i64 0)] ⟨rfl, rfl, rfl, rfl, rfl, rfl, rfl, rfl, rfl, rfl, rfl, rfl, rfl, rfl, rfl, rfl, rfl, rfl, rfl, rfl, rfl, trivial⟩ (r_round fun K234 hK234 => (c_seq fun K235 hK235 => (c_region (t_cmp rfl rfl rfl rfl rfl (t_samehd (v := .bool false) rfl (t_nil' (hK235 _ _ (c_seq fun K236 hK236 => (c_cond_f rfl (c_exit (hK232 _ _ (c_seq fun K237 hK237 => (c_region (t_move rfl rfl rfl (t_move rfl rfl rfl (t_skip rfl rfl rfl (t_skip rfl rfl rfl (t_skip rfl rfl rfl (t_skip rfl rfl rfl (t_skip rfl rfl rfl (t_skip rfl rfl rfl (t_skip rfl rfl rfl (t_pick_f rfl rfl rfl rfl ?_)))))))))))))))))))))))
      refine t_nil' (hK237 _ _ (c_cond_f rfl (c_skip ?_)))
      have hUr := ((Upd.refl (fun i => i = bk7 ∨ i = bk12 ∨ i = bk17 ∨ i = bk120) w143).next u156 (fun _ _ h => h.elim))
      have B238 := (O145.keep u156 (fun h => h))
      have B239 := (O146.keep u156 (fun h => h))
      have B240 := (O147.keep u156 (fun h => h))
      have B241 := (O148.keep u156 (fun h => h))
      have D242 := (hsO.keep u156 (fun _ h => h))
      have D243 := (hsH.keep u156 (fun _ h => h))
      exact fun a ha => ⟨KeepsFrom.of_upd hUr hcellsR, ⟨⟨(u144.next u156 (fun _ _ h => h.elim)), fd, ord, lsB, tot, aoO, bO, cO, aoH, bH, cH, B238, B239, B240, B241, D242, D243, hlO, hlH, hbm.none hfn, htot⟩, ((hux.mono fun i e => .inr (.inr (.inr (.inr e)))).trans ((Upd.refl (fun i => i = bk7 ∨ i = bk12 ∨ i = bk17 ∨ i = bk120 ∨ i = (w132.heap.size + 1)) _).next u156 (fun _ _ h => h.elim)))⟩⟩
    ·
     have D246 := (((((((((((((show Marks w0.heap.size [] w0 from trivial).keep u5 (CellsIn.none _)).keep u10 (CellsIn.none _)).keep u15 (CellsIn.none _)).keep u20 (CellsIn.none _)).keep u49 (CellsIn.none _)).keep u55 (CellsIn.none _)).keep u58 (B54).cellsIn).keep u90 (CellsIn.none _)).keep u94 (CellsIn.none _)).keep u123 (CellsIn.none _)).keep u126 (B122).cellsIn).keep u133 (CellsIn.none _))
     have hmk0 := D246
     have hmc0 := (show CellsIn (fun i => i = bk7 ∨ i = bk12 ∨ i = bk17 ∨ i = bk120 ∨ i = (w132.heap.size + 1)) w132 from fun k hk e => by
       rcases e with rfl | rfl | rfl | rfl | e
       · exact ⟨_, _, _, B136⟩
       · exact ⟨_, _, _, B137⟩
       · exact ⟨_, _, _, B138⟩
       · exact ⟨_, _, _, B139⟩
       · omega)
     intro D245 w244 hD245 hE hdD245
     obtain ⟨u247, fd, ord, lsB, tot, aoO, bO, cO, aoH, bH, cH, O248, O249, O250, O251, hsO, hsH, hlO, hlH, hbm, htot⟩ := hE
     have zu247 := u247.size
     have E252 := E135.next u247 (fun i hi (h : i = bk7 ∨ i = bk12 ∨ i = bk17 ∨ i = bk120 ∨ i = (w132.heap.size + 1)) => show False by first | omega | assumption)
     have mk253 := (hmk0.keep u247 hmc0).push (D := D245) (by omega) hdD245 (fun d hd D' e => Nat.lt_of_lt_of_le (hmk0.lt d hd D' e) hD245)
     refine hK129 _ _ (c_seq fun K254 hK254 => (c_seq fun K255 hK255 => (c_region (t_load Try.isAgg4 rfl rfl rfl (O251.get rfl) (t_not rfl rfl rfl (t_nil' (hK255 _ _ (c_cond rfl (fun g73 => ?_) (fun g73 => ?_)))))))))
     ·
      refine c_seq fun K256 hK256 => (c_region (t_store (vs := [.slice none 0 0]) Try.sizeOf27 rfl rfl rfl O248 rfl rfl (Nat.le_of_ble_eq_true rfl) (by simp [Value.oneCell']) (fun w257 sw257 B259 u258 => ?_)))
      have zu258 := u258.size
      have E260 := E252.next u258 (fun i hi (h : i = bk7) => show False by first | omega | assumption)
      have B259 : Blk w257 bk7 27 [.slice none 0 0] := B259
      have B261 := (O249.keep u258 (show ¬ (bk12 = bk7) by first | omega | assumption))
      refine t_store (vs := [.slice none 0 0]) Try.sizeOf27 rfl rfl rfl B261 rfl rfl (Nat.le_of_ble_eq_true rfl) (by simp [Value.oneCell']) (fun w262 sw262 B264 u263 => ?_)
      have zu263 := u263.size
      have E265 := E260.next u263 (fun i hi (h : i = bk12) => show False by first | omega | assumption)
      have B264 : Blk w262 bk12 27 [.slice none 0 0] := B264
      have B266 := ((O250.keep u258 (show ¬ (bk17 = bk7) by first | omega | assumption)).keep u263 (show ¬ (bk17 = bk12) by first | omega | assumption))
      refine t_store (vs := [.int .i64 0]) Try.sizeOf3 rfl rfl rfl B266 rfl rfl (Nat.le_of_ble_eq_true rfl) (by simp [Value.oneCell']) (fun w267 sw267 B269 u268 => ?_)
      have zu268 := u268.size
      have E270 := E265.next u268 (fun i hi (h : i = bk17) => show False by first | omega | assumption)
      have B269 : Blk w267 bk17 3 [.int .i64 0] := B269
      refine t_assign rfl rfl rfl (t_nil' (hK256 _ _ (c_ret ?_)))
      have B271 := ((B259.keep u263 (show ¬ (bk7 = bk12) by first | omega | assumption)).keep u268 (show ¬ (bk7 = bk17) by first | omega | assumption))
      have B272 := (B264.keep u268 (show ¬ (bk12 = bk17) by first | omega | assumption))
      have D275 := (((mk253.keep u258 (O248).cellsIn).keep u263 (B261).cellsIn).keep u268 (B266).cellsIn)
      have hmkE := D275
      refine f_retMc4 (v1 := .slice none 0 0) (v2 := .slice none 0 0) (v3 := .int .i64 0) (v4 := .int .i64 7) Try.results52 (.cell D275 rfl Try.isAgg27 B271 rfl) (.cell D275 rfl Try.isAgg27 B272 rfl) (.cell D275 rfl Try.isAgg3 B269 rfl) (.tmp rfl) D275 (fun w273 u274 omw273 => ?_)
      have zu274 := u274.size
      have E276 := E270.next u274 (fun i hi (h : w0.heap.size ≤ i) => show False by first | omega | assumption)
      exact ⟨⟨[], [], 0, _, none, 0, 0, none, 0, 0, rfl, Sl.nil _ _ _ _ _ _, Sl.nil _ _ _ _ _ _, .inr (.inr (.inr ⟨by rw [List.length_map]; omega, hE, hmost, fd, (by rcases hbm with ⟨h1, h2, _⟩ | ⟨h1, _⟩; (exact .inl ⟨h1, (by rw [List.length_map]; exact h2), rfl, rfl, rfl⟩); (rw [h1] at g73; cases g73)), (by rw [show fd = false from by simpa using g73]; rfl)⟩))⟩, E276⟩
     ·
      refine c_skip (hK254 _ _ (c_seq fun K277 hK277 => (WC.weak [(6, .pointer (some ⟨bk7, 0, none⟩)), (7, .pointer (some ⟨bk12, 0, none⟩)), (8, .pointer (some ⟨bk17, 0, none⟩))] ⟨rfl, rfl, rfl, trivial⟩ (c_drawn follows 7 [some (74, some (.slice aoO (List.length ord) cO)), some (75, some (.slice aoH (List.length lsB) cH)), some (76, some (.int .i64 tot)), none, none, none, some (9, some (.int .i64 0))] [[],[],[],[0,0],[1,3,0,1,3],[2,4,0,1,2,3,4],[5,0,1,2,3,4,5]] (fun D _ w => Upd (fun i => i = bk7 ∨ i = bk12 ∨ i = bk17) w244 w ∧ Blk w bk7 27 [(bif D 3 then .slice aoO (List.length ord) cO else .slice aoO (List.length ord) cO)] ∧ Blk w bk12 27 [(bif D 4 then .slice aoH (List.length lsB) cH else .slice aoH (List.length lsB) cH)] ∧ Blk w bk17 3 [(bif D 5 then .int .i64 tot else .int .i64 tot)]) rfl rfl rfl (by kernel_rfl) (by kernel_rfl) ⟨(Upd.drew _).to, (O248.keep (Upd.drew _) (fun h => h)), (O249.keep (Upd.drew _) (fun h => h)), (O250.keep (Upd.drew _) (fun h => h))⟩ ⟨?_, ?_, ?_, ?_, ?_, ?_, ?_, trivial⟩ ?_))))
      ·
       intro D ρ w278 hcD hnD hdD hW
       obtain ⟨u279, B280, B281, B282⟩ := hW
       have zu279 := u279.size
       have d3 := hcD.late 3 hnD rfl
       have B284 := B280
       simp only [d3, cond_false] at B284
       have d4 := hcD.late 4 hnD rfl
       have B285 := B281
       simp only [d4, cond_false] at B285
       have d5 := hcD.late 5 hnD rfl
       have B286 := B282
       simp only [d5, cond_false] at B286
       refine ⟨_, kf_fr [6], fun Lr => ?_⟩
       refine t_load Try.isAgg27 rfl rfl rfl (B284.get rfl) ?_
       exact dz rfl ⟨u279, B280, B281, B282⟩
      ·
       intro D ρ w287 hcD hnD hdD hW
       obtain ⟨u288, B289, B290, B291⟩ := hW
       have zu288 := u288.size
       have d4 := hcD.late 4 hnD rfl
       have B293 := B290
       simp only [d4, cond_false] at B293
       have d5 := hcD.late 5 hnD rfl
       have B294 := B291
       simp only [d5, cond_false] at B294
       refine ⟨_, kf_fr [7], fun Lr => ?_⟩
       refine t_load Try.isAgg27 rfl rfl rfl (B293.get rfl) ?_
       exact dz rfl ⟨u288, B289, B290, B291⟩
      ·
       intro D ρ w295 hcD hnD hdD hW
       obtain ⟨u296, B297, B298, B299⟩ := hW
       have zu296 := u296.size
       have d5 := hcD.late 5 hnD rfl
       have B301 := B299
       simp only [d5, cond_false] at B301
       refine ⟨_, kf_fr [8], fun Lr => ?_⟩
       refine t_load Try.isAgg3 rfl rfl rfl (B301.get rfl) ?_
       exact dz rfl ⟨u296, B297, B298, B299⟩
      ·
       intro D ρ w302 hcD hnD hdD hW
       obtain ⟨u303, B304, B305, B306⟩ := hW
       have zu303 := u303.size
       have B308 := B304
       simp only [hnD, cond_false] at B308
       have d4 := hcD.late 4 hnD rfl
       have B309 := B305
       simp only [d4, cond_false] at B309
       have d5 := hcD.late 5 hnD rfl
       have B310 := B306
       simp only [d5, cond_false] at B310
       refine ⟨_, kf_fr [6, 74], fun Lr => ?_⟩
       refine t_store (vs := [.slice aoO (List.length ord) cO]) Try.sizeOf27 rfl rfl rfl B308 rfl rfl (Nat.le_of_ble_eq_true rfl) (by simp [Value.oneCell']) (fun w311 sw311 B313 u312 => ?_)
       have zu312 := u312.size
       have B313 : Blk w311 bk7 27 [.slice aoO (List.length ord) cO] := B313
       exact dz0 rfl ⟨(u303.next u312 (fun i hi (h : i = bk7) => show i = bk7 ∨ i = bk12 ∨ i = bk17 by first | omega | assumption)), (by show Blk w311 bk7 27 [.slice aoO (List.length ord) cO]; exact B313), (B305.keep u312 (show ¬ (bk12 = bk7) by first | omega | assumption)), (B306.keep u312 (show ¬ (bk17 = bk7) by first | omega | assumption))⟩
      ·
       intro D ρ w315 hcD hnD hdD hW
       obtain ⟨u316, B317, B318, B319⟩ := hW
       have zu316 := u316.size
       have d3 := hdD 3 rfl
       have B321 := B317
       simp only [d3, cond_true] at B321
       have B322 := B318
       simp only [hnD, cond_false] at B322
       have d5 := hcD.late 5 hnD rfl
       have B323 := B319
       simp only [d5, cond_false] at B323
       refine ⟨_, kf_fr [7, 75], fun Lr => ?_⟩
       refine t_store (vs := [.slice aoH (List.length lsB) cH]) Try.sizeOf27 rfl rfl rfl B322 rfl rfl (Nat.le_of_ble_eq_true rfl) (by simp [Value.oneCell']) (fun w324 sw324 B326 u325 => ?_)
       have zu325 := u325.size
       have B326 : Blk w324 bk12 27 [.slice aoH (List.length lsB) cH] := B326
       exact dz0 rfl ⟨(u316.next u325 (fun i hi (h : i = bk12) => show i = bk7 ∨ i = bk12 ∨ i = bk17 by first | omega | assumption)), (B317.keep u325 (show ¬ (bk7 = bk12) by first | omega | assumption)), (by show Blk w324 bk12 27 [.slice aoH (List.length lsB) cH]; exact B326), (B319.keep u325 (show ¬ (bk17 = bk12) by first | omega | assumption))⟩
      ·
       intro D ρ w328 hcD hnD hdD hW
       obtain ⟨u329, B330, B331, B332⟩ := hW
       have zu329 := u329.size
       have d3 := hdD 3 rfl
       have B334 := B330
       simp only [d3, cond_true] at B334
       have d4 := hdD 4 rfl
       have B335 := B331
       simp only [d4, cond_true] at B335
       have B336 := B332
       simp only [hnD, cond_false] at B336
       refine ⟨_, kf_fr [8, 76], fun Lr => ?_⟩
       refine t_store (vs := [.int .i64 tot]) Try.sizeOf3 rfl rfl rfl B336 rfl rfl (Nat.le_of_ble_eq_true rfl) (by simp [Value.oneCell']) (fun w337 sw337 B339 u338 => ?_)
       have zu338 := u338.size
       have B339 : Blk w337 bk17 3 [.int .i64 tot] := B339
       exact dz0 rfl ⟨(u329.next u338 (fun i hi (h : i = bk17) => show i = bk7 ∨ i = bk12 ∨ i = bk17 by first | omega | assumption)), (B330.keep u338 (show ¬ (bk7 = bk17) by first | omega | assumption)), (B331.keep u338 (show ¬ (bk12 = bk17) by first | omega | assumption)), (by show Blk w337 bk17 3 [.int .i64 tot]; exact B339)⟩
      · exact pz rfl rfl rfl rfl fun _ _ _ h => h
      intro ρ w341 hW
      obtain ⟨u342, B343, B344, B345⟩ := hW
      have zu342 := u342.size
      have E346 := E252.next u342 (fun i hi (h : i = bk7 ∨ i = bk12 ∨ i = bk17) => show False by first | omega | assumption)
      have B343 : Blk w341 bk7 27 [.slice aoO (List.length ord) cO] := B343
      have B344 : Blk w341 bk12 27 [.slice aoH (List.length lsB) cH] := B344
      have B345 : Blk w341 bk17 3 [.int .i64 tot] := B345
      refine QK.weak [(6, .pointer (some ⟨bk7, 0, none⟩)), (7, .pointer (some ⟨bk12, 0, none⟩)), (8, .pointer (some ⟨bk17, 0, none⟩)), (9, .int .i64 0)] ⟨rfl, rfl, rfl, rfl, trivial⟩ (hK277 _ _ (c_ret ?_))
      have D347 := (hsO.keep u342 (fun hp => by have hb_ := hlO hp; show ¬ (bO = bk7 ∨ bO = bk12 ∨ bO = bk17); omega))
      have D348 := (hsH.keep u342 (fun hp => by have hb_ := hlH hp; show ¬ (bH = bk7 ∨ bH = bk12 ∨ bH = bk17); omega))
      have hslO := D347
      have hslH := D348
      have D351 := (mk253.keep u342 ((O248).cellsIn.or ((O249).cellsIn.or ((O250).cellsIn))))
      have hmkE := D351
      refine f_retMc4 (v1 := .slice aoO (List.length ord) cO) (v2 := .slice aoH (List.length lsB) cH) (v3 := .int .i64 tot) (v4 := .int .i64 0) Try.results52 (.cell D351 rfl Try.isAgg27 B343 rfl) (.cell D351 rfl Try.isAgg27 B344 rfl) (.cell D351 rfl Try.isAgg3 B345 rfl) (.tmp rfl) D351 (fun w349 u350 omw349 => ?_)
      have zu350 := u350.size
      have E352 := E346.next u350 (fun i hi (h : w0.heap.size ≤ i) => show False by first | omega | assumption)
      exact ⟨⟨ord, lsB, tot, 0, aoO, bO, cO, aoH, bH, cH, rfl, (hslO.keep omw349 (fun hp => hmkE.notSl (fun _ => by simp [encI]) hslO hp)), (hslH.keep omw349 (fun hp => hmkE.notSl (fun _ => by simp [encI]) hslH hp)), .inr (.inr (.inr ⟨by rw [List.length_map]; omega, hE, hmost, fd, (by rw [List.length_map]; exact hbm), (by rw [show fd = true from by simpa using g73]; rfl)⟩))⟩, E352⟩

end Go.Proofs.Ytmicjleiheoieaa
