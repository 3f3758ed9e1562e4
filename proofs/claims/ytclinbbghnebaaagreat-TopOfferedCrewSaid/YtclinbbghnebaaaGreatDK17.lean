/-
  Part 17 of the proof: contracts and plain laws. Conditions: none.
-/
import Derived.Test.YtclinbbghnebaaaGreatDK16
namespace Go.Proofs.YtclinbbghnebaaaGreat
open Go Go.RowKit Go.Proofs.Tryz
set_option maxRecDepth 10000

structure H3 where
  ao : Option Addr
  g : Nat
  cp : Nat
instance : Inhabited H3 := ⟨⟨default, default, default⟩⟩
def hulP (xs : List Ew) (p : List Int) : Int := p.foldl (fun h a => min h (nth xs a.toNat).r) 1000
theorem hulP_snoc {xs : List Ew} {p : List Int} {a : Int} : hulP xs (p ++ [a]) = min (hulP xs p) (nth xs a.toNat).r := by unfold hulP; rw [List.foldl_append]; rfl
def xor1 (a : Int) : Int := if a % 2 = 0 then a + 1 else a - 1
def Ew.sr (a : Ew) (r : Int) : Ew := ⟨a.f, a.t, a.c, r⟩
def auA (h : Int) (xs : List Ew) (a : Int) : List Ew := xs.set a.toNat ((nth xs a.toNat).sr ((nth xs a.toNat).r - h))
def auB (h : Int) (xs : List Ew) (a : Int) : List Ew := xs.set (xor1 a).toNat ((nth xs (xor1 a).toNat).sr ((nth xs (xor1 a).toNat).r + h))
def aug1 (h : Int) (xs : List Ew) (a : Int) : List Ew := auB h (auA h xs a) a
def augP (h : Int) (xs : List Ew) (p : List Int) : List Ew := p.foldl (aug1 h) xs
theorem augP_snoc {h : Int} {xs : List Ew} {p : List Int} {a : Int} : augP h xs (p ++ [a]) = aug1 h (augP h xs p) a := by unfold augP; rw [List.foldl_append]; rfl
/-- Arcs with other rooms. -/
structure SamE (xs ys : List Ew) : Prop where
  len : ys.length = xs.length
  eq : ∀ i, i < xs.length → (nth ys i).f = (nth xs i).f ∧ (nth ys i).t = (nth xs i).t ∧ (nth ys i).c = (nth xs i).c
theorem SamE.refl (xs : List Ew) : SamE xs xs := ⟨rfl, fun _ _ => ⟨rfl, rfl, rfl⟩⟩
theorem nth_set9 {α : Type} [Inhabited α] {l : List α} {i j : Nat} {a : α} (h : i < l.length) : nth (l.set i a) j = if j = i then a else nth l j := by
  unfold nth
  rw [List.getD_eq_getElem?_getD, List.getD_eq_getElem?_getD, List.getElem?_set]
  by_cases e : j = i
  · rw [if_pos e, if_pos e.symm, if_pos h]; rfl
  · rw [if_neg e, if_neg (fun q => e q.symm)]
theorem SamE.set {xs ys : List Ew} {i : Nat} {r : Int} (h : SamE xs ys) (hi : i < xs.length) : SamE xs (ys.set i ((nth ys i).sr r)) := by
  refine ⟨by rw [List.length_set]; exact h.len, fun j hj => ?_⟩
  rw [nth_set9 (by rw [h.len]; exact hi)]
  split
  · rename_i e; subst e; exact h.eq j hj
  · exact h.eq j hj
/-- Rooms up to a bound. -/
def RmB (B : Int) (xs : List Ew) : Prop := ∀ i, i < xs.length → -B ≤ (nth xs i).r ∧ (nth xs i).r ≤ B
theorem RmB.set {B : Int} {ys : List Ew} {i : Nat} {r : Int} (hB : RmB B ys) (hi : i < ys.length) (hr : -(B + 1000) ≤ r ∧ r ≤ B + 1000) : RmB (B + 1000) (ys.set i ((nth ys i).sr r)) := fun j hj => by
  rw [List.length_set] at hj
  rw [nth_set9 hi]
  split
  · exact hr
  · have := hB j hj; omega
theorem xor1_rng {a : Int} {n : Nat} (h : 0 ≤ a ∧ a < (n : Int)) (hn : n % 2 = 0) : (0 ≤ xor1 a ∧ xor1 a < (n : Int)) := by unfold xor1; split <;> omega
theorem au_step {h : Int} {xs ys : List Ew} {a : Int} {B : Int} (hh : 0 ≤ h ∧ h ≤ 1000) (hs : SamE xs ys) (hB : RmB B ys) (ha : 0 ≤ a ∧ a < (xs.length : Int)) (he : xs.length % 2 = 0) : (SamE xs (auA h ys a) ∧ RmB (B + 1000) (auA h ys a)) ∧ SamE xs (aug1 h ys a) ∧ RmB (B + 2000) (aug1 h ys a) := by
  have h1 := xor1_rng ha he
  have h2 : SamE xs (auA h ys a) := hs.set (by omega)
  have hl := hs.len
  have b0 := hB a.toNat (by omega)
  have h3 : RmB (B + 1000) (auA h ys a) := RmB.set hB (by omega) (by omega)
  refine ⟨⟨h2, h3⟩, h2.set (by omega), ?_⟩
  have hl2 := h2.len
  have b1 := h3 (xor1 a).toNat (by omega)
  have := RmB.set (r := (nth (auA h ys a) (xor1 a).toNat).r + h) h3 (i := (xor1 a).toNat) (by omega) (by omega)
  rwa [show B + 1000 + 1000 = B + 2000 by omega] at this
theorem augP_ok {h : Int} {xs : List Ew} (hh : 0 ≤ h ∧ h ≤ 1000) (he : xs.length % 2 = 0) (hB : RmB 1000000 xs) : ∀ {n : Nat} {d : List Int}, d.length = n → (∀ a ∈ d, 0 ≤ a ∧ a < (xs.length : Int)) → SamE xs (augP h xs d) ∧ RmB (1000000 + 2000 * (n : Int)) (augP h xs d)
  | 0, d, hn, _ => by
    have e : d = [] := List.eq_nil_of_length_eq_zero hn
    subst e
    exact ⟨SamE.refl _, fun i hi => by have := hB i hi; show -(1000000 + 2000 * ((0 : Nat) : Int)) ≤ (nth xs i).r ∧ (nth xs i).r ≤ 1000000 + 2000 * ((0 : Nat) : Int); omega⟩
  | n + 1, d, hn, ha => by
    obtain ⟨d', a, rfl⟩ : ∃ d' a, d = d' ++ [a] := ⟨d.dropLast, d.getLast (fun e => by rw [e] at hn; cases hn), (List.dropLast_concat_getLast _).symm⟩
    rw [List.length_append, List.length_singleton] at hn
    have ih := augP_ok hh he hB (n := n) (d := d') (by omega) (fun x hx => ha x (List.mem_append_left _ hx))
    rw [augP_snoc]
    have h9 := (au_step hh ih.1 ih.2 (ha a (by simp)) he).2
    rw [show 1000000 + 2000 * (n : Int) + 2000 = 1000000 + 2000 * ((n + 1 : Nat) : Int) by omega] at h9
    exact h9
def okRm (xs : List Ew) : Bool := xs.all fun a => decide (0 ≤ a.r ∧ a.r ≤ 1000000)
theorem okRm_b {xs : List Ew} (h : okRm xs = true) : ∀ i, i < xs.length → 0 ≤ (nth xs i).r ∧ (nth xs i).r ≤ 1000000 := fun i hi => by
  have h1 := List.all_eq_true.1 h _ (nth_mem hi)
  rwa [decide_eq_true_eq] at h1
theorem hulP_rng {xs : List Ew} (h : okRm xs = true) : ∀ {n : Nat} {d : List Int}, d.length = n → (∀ a ∈ d, 0 ≤ a ∧ a < (xs.length : Int)) → 0 ≤ hulP xs d ∧ hulP xs d ≤ 1000
  | 0, d, hn, _ => by
    have e : d = [] := List.eq_nil_of_length_eq_zero hn
    subst e; exact ⟨by show (0 : Int) ≤ 1000; decide, by show (1000 : Int) ≤ 1000; decide⟩
  | n + 1, d, hn, ha => by
    obtain ⟨d', a, rfl⟩ : ∃ d' a, d = d' ++ [a] := ⟨d.dropLast, d.getLast (fun e => by rw [e] at hn; cases hn), (List.dropLast_concat_getLast _).symm⟩
    rw [List.length_append, List.length_singleton] at hn
    have ih := hulP_rng h (n := n) (d := d') (by omega) (fun x hx => ha x (List.mem_append_left _ hx))
    have h1 := ha a (by simp)
    have h2 := okRm_b h a.toNat (by omega)
    rw [hulP_snoc]; omega
/-- Hulls moved, the cheapest ones first. -/
def filP (n F : Nat) : Nat → List Ew → Option (List Ew)
  | 0, _ => none
  | k + 1, xs => match runC xs F (iniC n) with
    | none => none
    | some s => if okRm xs = true then (if nth s.b (n + 1) < 0 then some xs else match pthP n xs s.b F ((n : Int) + 1) with
      | none => none
      | some p => if p.length ≤ 1000 then filP n F k (augP (hulP xs p) xs p) else none) else none
theorem filP_step {n F k : Nat} {xs zs : List Ew} (h : filP n F k xs = some zs) : ∃ k' s, k = k' + 1 ∧ runC xs F (iniC n) = some s ∧ okRm xs = true ∧ (nth s.b (n + 1) < 0 → zs = xs) ∧ (¬ nth s.b (n + 1) < 0 → ∃ p, pthP n xs s.b F ((n : Int) + 1) = some p ∧ p.length ≤ 1000 ∧ filP n F k' (augP (hulP xs p) xs p) = some zs) := by
  cases k with
  | zero => cases h
  | succ k =>
    rw [filP] at h
    split at h
    · cases h
    · rename_i s hs
      by_cases c : okRm xs = true
      · rw [if_pos c] at h
        refine ⟨k, s, rfl, hs, c, fun q => ?_, fun q => ?_⟩
        · rw [if_pos q] at h; exact (Option.some.inj h).symm
        · rw [if_neg q] at h
          split at h
          · cases h
          · rename_i p hp
            split at h
            · rename_i hl; exact ⟨p, hp, hl, h⟩
            · cases h
      · rw [if_neg c] at h; cases h
theorem pthP_mem {n : Nat} {xs : List Ew} {b : List Int} : ∀ {f : Nat} {v : Int} {p : List Int}, pthP n xs b f v = some p → ∀ a ∈ p, 0 ≤ a ∧ a < (xs.length : Int)
  | f, v, p, h, a, ha => by
    obtain ⟨f', hf, h1, h2⟩ := pthP_step h
    by_cases e : v = (n : Int)
    · rw [h1 e] at ha; cases ha
    · obtain ⟨_, h3, p', rfl, h4⟩ := h2 e
      rcases List.mem_cons.1 ha with q | q
      · rw [q]; exact h3
      · exact pthP_mem (f := f') h4 a q
termination_by f => f
decreasing_by omega
theorem iniC_len (n : Nat) : (iniC n).b.length = n + 2 := List.length_replicate
theorem runC_len {xs : List Ew} : ∀ {f : Nat} {s R : Cst}, runC xs f s = some R → R.b.length = s.b.length ∧ R.l.length = s.l.length
  | f, s, R, h => by
    obtain ⟨f', hf, _, h1, h2⟩ := runC_step h
    have hp := pas_len xs s xs.length
    cases hc : (pas xs s xs.length).ag with
    | false => rw [← h2 hc]; exact ⟨hp.2, hp.1⟩
    | true =>
      have ih := runC_len (f := f') (h1 hc)
      exact ⟨ih.1.trans hp.2, ih.2.trans hp.1⟩
termination_by f => f
decreasing_by omega
section
variable {pg p1 p2 n : Nat} {m : Int} {xs : List Ew} {ao : Option Addr} {ga oa ca : Nat} {ab : Option Addr} {gb ob cb : Nat} {b : List Int} {W W' : World}
theorem GrM.keep {S : Nat → Prop} (h : GrM pg p1 p2 n m xs ao ga oa ca ab gb ob cb b W) (u : Upd S W W') (h1 : ¬ S p1) (h2 : ¬ S p2) (h3 : ¬ S gb) (h4 : ¬ S pg) (h5 : ¬ S ga) : GrM pg p1 p2 n m xs ao ga oa ca ab gb ob cb b W' := by
  obtain ⟨ys, a1, a2, a3⟩ := h.sx
  exact ⟨h.b1.keep u h1, h.b2.keep u h2, h.sb.keep u (fun _ => h3), h.gr.keep u h4, ys, a1.keep u (fun _ => h5), a2, a3⟩
theorem GrM.keepA {S : Nat → Prop} {e base : Nat} {ys : List Ew} (h : GrM pg p1 p2 n m xs ao ga 0 ca ab gb ob cb b W) (u : Upd S W W') (h1 : ¬ S p1) (h2 : ¬ S p2) (h3 : ¬ S gb) (h4 : ¬ S pg) (ha : Acc encEw 4 e base W' ao ga ca ys) (hs : SamE xs ys) : GrM pg p1 p2 n m xs ao ga 0 ca ab gb ob cb b W' :=
  ⟨h.b1.keep u h1, h.b2.keep u h2, h.sb.keep u (fun _ => h3), h.gr.keep u h4, ys, ha.sl (fun _ => rfl), hs.len, fun i hi => (hs.eq i hi).1⟩
end
/-- What is known while the least room on the way is sought. -/
def MinC (xs : List Ew) (p : List Int) (t5 : Nat) (wR : World) (r : List Int) (W : World) : Prop := Upd (fun q => q = t5 ∨ q = wR.heap.size + 1) wR W ∧ ∃ d, p = d ++ r ∧ Blk W t5 3 [.int .i64 (hulP xs d)]
theorem MinC.ext {xs : List Ew} {p : List Int} {t5 : Nat} {wR : World} (r : List Int) (W W' : World) (q : MinC xs p t5 wR r W) (u : Ext W W') : MinC xs p t5 wR r W' := by
  obtain ⟨h0, d, h1, h2⟩ := q
  exact ⟨h0.nx u, d, h1, h2.keep u (fun h => h)⟩
theorem MinC.turned {xs : List Ew} {p : List Int} {t5 : Nat} {wR : World} (hb : t5 < wR.heap.size) (r : List Int) (W W' : World) (q : MinC xs p t5 wR r W) (u : Upd (· = wR.heap.size + 1) W W') : MinC xs p t5 wR r W' := by
  obtain ⟨h0, d, h1, h2⟩ := q
  exact ⟨h0.trans (u.mono fun i e => .inr e), d, h1, h2.keep u (by omega)⟩
/-- What is known while hulls are moved along the way. -/
def AugC (h : Int) (xs : List Ew) (p : List Int) (base : Nat) (ao : Option Addr) (ga ca : Nat) (wR : World) (r : List Int) (W : World) : Prop := Upd (fun q => q = ga ∨ q = wR.heap.size + 1) wR W ∧ ∃ d, p = d ++ r ∧ Acc encEw 4 356 base W ao ga ca (augP h xs d)
theorem AugC.ext {h : Int} {xs : List Ew} {p : List Int} {base : Nat} {ao : Option Addr} {ga ca : Nat} {wR : World} (r : List Int) (W W' : World) (q : AugC h xs p base ao ga ca wR r W) (u : Ext W W') : AugC h xs p base ao ga ca wR r W' := by
  obtain ⟨h0, d, h1, h2⟩ := q
  exact ⟨h0.nx u, d, h1, h2.keep u (fun _ h => h)⟩
theorem AugC.turned {h : Int} {xs : List Ew} {p : List Int} {base : Nat} {ao : Option Addr} {ga ca : Nat} {wR : World} (hb : ga < wR.heap.size) (r : List Int) (W W' : World) (q : AugC h xs p base ao ga ca wR r W) (u : Upd (· = wR.heap.size + 1) W W') : AugC h xs p base ao ga ca wR r W' := by
  obtain ⟨h0, d, h1, h2⟩ := q
  exact ⟨h0.trans (u.mono fun i e => .inr e), d, h1, h2.keep u (fun _ => by omega)⟩
def PkY (C : List Int → World → Prop) (x : PkE) (_ : Unit) (W : World) : Prop := C (x.x :: x.r) W ∧ Upd (fun _ => True) x.w W
theorem nxor1 (n : Nat) : n ^^^ 1 = if n % 2 = 0 then n + 1 else n - 1 := by
  have h1 : (n ^^^ 1) / 2 = n / 2 := by rw [Nat.xor_div_two]; simp
  have h2 : (n ^^^ 1) % 2 = (n + 1) % 2 := by
    have h := @Nat.xor_mod_two_pow n 1 1
    simp only [Nat.pow_one] at h
    rcases Nat.mod_two_eq_zero_or_one n with e | e
    · rw [e] at h; have h2 : (0 : Nat) ^^^ 1 % 2 = 1 := by decide
      omega
    · rw [e] at h; have h2 : (1 : Nat) ^^^ 1 % 2 = 0 := by decide
      omega
  split <;> omega
theorem xor1_run {a : Int} (h : 0 ≤ a ∧ a ≤ 1000000) : bits BinOp.xor IntKind.i64 a 1 = xor1 a := by
  obtain ⟨n, rfl⟩ : ∃ n : Nat, a = (n : Int) := ⟨a.toNat, by omega⟩
  have e5 : n % 2 ^ IntKind.i64.bits ^^^ 1 % 2 ^ IntKind.i64.bits = n ^^^ 1 := by
    show n % 18446744073709551616 ^^^ 1 = n ^^^ 1
    rw [Nat.mod_eq_of_lt (by omega)]
  unfold bits
  simp
  rw [e5, nxor1]
  unfold xor1
  have : IntKind.i64.wrap (((if n % 2 = 0 then n + 1 else n - 1 : Nat)) : Int) = ((if n % 2 = 0 then n + 1 else n - 1 : Nat) : Int) := IntWalk.i64_in _ (by split <;> omega)
  rw [this]
  split <;> split <;> omega
section
variable {rd : Option Nat} {P : Program} {ops : Array Oper} {Q : Exit → Act → World → Prop} {N : Nat} {ds : List Deferred} {rest : List Oper} {L : Slots} {w : World}
variable {d : Nat} {ty : TypeId} {pos : String} {aft : Array Edge} {g : Option (Nat × Bool)}
/-- a ^ 1. -/
theorem t_xor1 {xt yt : TypeId} {x y : Operand} {a : Int} (hg : grd ops L g = true) (hN : Nat.blt d N = true) (hx : ev L x = some (.int .i64 a)) (hy : ev L y = some (.int .i64 1)) (ha : 0 ≤ a ∧ a ≤ 1000000)
    (h : WL rd P ops Q N ds rest ((d, .int .i64 (xor1 a)) :: L) w) : WL rd P ops Q N ds (⟨some d, .binOp .xor xt x y yt, ty, pos, aft, g⟩ :: rest) L w :=
  WL.value hg rfl hN (fun ac hk => by
    have e := xor1_run ha
    simp [execOp, hk.ev hx, hk.ev hy, eqGuard, binOp, Op.intBits]
    exact e) h
end
theorem own139 : Own Tryz.prog 139 := ⟨Tryz.f139, func139, by kernel_rfl, by kernel_rfl⟩

theorem eback0_c (pg : Nat) (ab : Option Addr) (lb cb : Nat) (w0 : World) :
    CallsV Tryz.prog 201 [.pointer (some ⟨pg, 0, none⟩), .slice ab lb cb] w0 (fun v w' => (∃ p1 p2, v = .func (.func 245) #[] #[.pointer (some ⟨p1, 0, none⟩), .pointer (some ⟨p2, 0, none⟩)] ∧ w0.heap.size ≤ p1 ∧ w0.heap.size ≤ p2 ∧ p1 ≠ p2 ∧ Blk w' p1 288 [.pointer (some ⟨pg, 0, none⟩)] ∧ Blk w' p2 38 [.slice ab lb cb]) ∧ Ext w0 w') := by
 refine f_n func201 ?_
 refine go ?_
 refine x_b fun bk2 w3 ebk2 sbk2 B4 u5 => ?_
 refine x_b fun bk7 w8 ebk7 sbk7 B9 u10 => ?_
 refine go ?_
 refine t_mkfunc (vs := []) (us := [.pointer (some ⟨bk2, 0, none⟩), .pointer (some ⟨bk7, 0, none⟩)]) rfl rfl rfl rfl ?_
 refine go ?_
 refine f_1 results201 ?_
 have B13 := (B4.kx u10)
 exact ⟨⟨bk2, bk7, rfl, by omega, by omega, by omega, B13, B9⟩, u_d⟩

theorem SamE.trans {a b c : List Ew} (h : SamE a b) (k : SamE b c) : SamE a c := ⟨k.len.trans h.len, fun i hi => by
  have h1 := h.eq i hi
  have h2 := k.eq i (by rw [h.len]; exact hi)
  exact ⟨h2.1.trans h1.1, h2.2.1.trans h1.2.1, h2.2.2.trans h1.2.2⟩⟩
theorem SamE.arc {n : Nat} {a b : List Ew} (h : SamE a b) (ha : ∀ x ∈ a, okArc n x) : ∀ x ∈ b, okArc n x := fun x hx => by
  obtain ⟨i, hi, rfl⟩ := List.mem_iff_getElem.1 hx
  rw [h.len] at hi
  have h1 := h.eq i hi
  have h2 := ha _ (nth_mem hi)
  rw [← nth_eq (by rw [h.len]; exact hi)]
  unfold okArc at h2 ⊢
  rw [h1.1, h1.2.1, h1.2.2]; exact h2
theorem CellsIn.ofAcc {α : Type} {enc : α → List Value} {k : Nat} {e : TypeId} {base : Nat} {w : World} {ao : Option Addr} {g cap : Nat} {xs : List α} (h : Acc enc k e base w ao g cap xs) (hb : base ≤ g) : CellsIn (fun i => i = g) w := fun i hi e9 => h.cellsIn i hi ⟨e9, by omega⟩

set_option maxHeartbeats 4000000 in
theorem fill_c (pg n mw F K base : Nat) (xs zs : List Ew) (ao : Option Addr) (ga ca : Nat) (w0 : World) (hpg : Blk w0 pg 349 [.int .i64 (n : Int), .int .i64 (mw : Int), .slice ao xs.length ca]) (har0 : Acc encEw 4 356 base w0 ao ga ca xs) (hb : pg < base ∧ base ≤ w0.heap.size) (hx : ∀ a ∈ xs, okArc n a) (hxl : 0 < xs.length ∧ xs.length ≤ 10000) (hn : n ≤ 1000) (hev : xs.length % 2 = 0) (hmw : 2 * mw ≤ xs.length) (hF : filP n F K xs = some zs) (hdn : ∀ q, q < (zs.drop (2 * mw)).length → ¬ ((nth (zs.drop (2 * mw)) q).t = (n : Int) + 1 ∧ 0 < (nth (zs.drop (2 * mw)) q).r)) :
    CallsV Tryz.prog 139 [.pointer (some ⟨pg, 0, none⟩)] w0 (fun v w' => v = .bool true ∧ Blk w' pg 349 [.int .i64 (n : Int), .int .i64 (mw : Int), .slice ao xs.length ca] ∧ Acc encEw 4 356 base w' ao ga ca zs ∧ Upd (fun i => i = ga ∧ base ≤ i) w0 w') := by
 have hpgl := hpg.lt
 have hgl0 := har0.lt
 have hge0 := har0.ge hxl.1
 refine f_enterM (N := 94) func139 rfl rfl rfl (q_of ?_)
 refine go ?_
 refine x_b fun bk2 w3 ebk2 sbk2 B4 u5 => ?_
 refine go ?_
 have D8 := (har0.keep u5 (fun _ h => h))
 refine q_loopm (γ := List Ew × Nat × List Deferred) (fun gg => [(1, .pointer (some ⟨bk2, 0, none⟩))]) (fun gg => gg.2.2) (fun gg w => Upd (fun i => (i = ga ∧ base ≤ i)) w3 w ∧ (filP n F gg.2.1 gg.1 = some zs) ∧ (SamE xs gg.1) ∧ (Acc encEw 4 356 base w ao ga ca gg.1) ∧ (Marks w0.heap.size gg.2.2 w)) (fun gg => gg.2.1) (xs, K, []) rfl ⟨rfl, trivial⟩ ⟨Upd.refl _ _, hF, (SamE.refl _), D8, trivial⟩ ?_
 intro gg w10 hW K9 hK9
 obtain ⟨ys, k, dl⟩ := gg
 change WC _ _ _ _ _ _ [(1, .pointer (some ⟨bk2, 0, none⟩))] _
 change Upd (fun i => (i = ga ∧ base ≤ i)) w3 w10 ∧ (filP n F k ys = some zs) ∧ (SamE xs ys) ∧ (Acc encEw 4 356 base w10 ao ga ca ys) ∧ (Marks w0.heap.size dl w10) at hW
 obtain ⟨u11, I12, I13, I14, I15⟩ := hW
 have zu11 := u11.size
 have hfil := I12; clear I12
 have hsm := I13; clear I13
 have har := I14; clear I14
 have hmk := I15; clear I15
 have lt_ga := har.lt
 obtain ⟨k1, s, hk1, hrun9, hrm, hend, hgo⟩ := filP_step hfil
 have hylen := hsm.len
 have hxy : ∀ a ∈ ys, okArc n a := SamE.arc hsm hx
 have hslb : s.b.length = n + 2 := (runC_len hrun9).1.trans (iniC_len n)
 refine st1 ?_
 refine x_k1 (fun _ => False) [1] (fun (e : H3) => [(4, .slice e.ao s.b.length e.cp)]) (fun e w => (Sl encI 1 w e.ao e.g 0 s.b) ∧ (w10.heap.size ≤ e.g ∧ e.g < w.heap.size)) (fun K21 hK21 => ?_) ?_
 ·
  refine c_drawnM follows (fun _ => False) (.look 0 (.look 2 (.act 1 (.act 3 (.act 4 (.look 5 (.act 6 (.look 7 (.look 8 (.look 9 (.look 10 (.look 11 .done))))) .stop)) .stop) .stop) (.act 3 (.act 1 (.act 4 (.look 5 (.act 6 (.look 7 (.look 8 (.look 9 (.look 10 (.look 11 .done))))) .stop)) .stop) .stop) .stop)))) (by kernel_rfl) fun w24 u25 => ?_
  have zu25 := u25.size
  refine go ?_
  refine s_or ?_ ?_
  ·
   refine go ?_
   refine t_makemap rfl rfl (fun bk27 w28 ebk27 sbk27 M29 u30 => ?_)
   have zu30 := u30.size
   refine go ?_
   have B32 := ((((hpg.kx u5).keep u11 (by omega)).kx u25).kx u30)
   refine x_c func198 rfl rfl (source_c pg (n : Int) (mw : Int) ao xs.length ca _ B32) ?_
   rintro _ w34 ⟨rfl, u35⟩ zu35
   refine go ?_
   refine t_insG (a := (n : Int)) (v := (0 : Int)) keyI_ok underlying353 rfl rfl rfl rfl ((MapG.ofMemo (cd := cdI) M29).keep u35 (fun h => h)) (fun w38 sw38 M39 u40 => ?_)
   have zu40 := u40.size
   refine go ?_
   have D43 := ((((har.keep u25 (fun _ h => h)).keep u30 (fun _ h => h)).keep u35 (fun _ h => h)).keep u40 (fun hb => show ¬ (ga = bk27) by first | omega | assumption))
   have B44 := ((B32.kx u35).keep u40 (by omega))
   refine x_c func200 rfl rfl (costs_c pg n F (mw : Int) bk27 ys ao ga 0 ca s _ (by rw [hylen]; exact B44) (D43.sl (fun _ => rfl)) M39 hxy (by omega) (by omega) hrun9) ?_
   rintro _ w46 ⟨⟨alq42, glq42, clq42, abq42, gbq42, cbq42, rfl, halq42, habq42, hnnq42⟩, u47⟩ zu47
   have hsbq42 := habq42.sl (fun _ => rfl)
   have hgbq42 := habq42.ge (by rw [hslb]; omega)
   have hlbq42 := habq42.lt
   refine go ?_
   exact hK21 (⟨abq42, gbq42, cbq42⟩ : H3) ⟨hsbq42, (by show w10.heap.size ≤ gbq42 ∧ gbq42 < _; omega)⟩
  refine go ?_
  have B50 := (((hpg.kx u5).keep u11 (by omega)).kx u25)
  refine x_c func198 rfl rfl (source_c pg (n : Int) (mw : Int) ao xs.length ca _ B50) ?_
  rintro _ w52 ⟨rfl, u53⟩ zu53
  refine go ?_
  refine t_makemap rfl rfl (fun bk56 w57 ebk56 sbk56 M58 u59 => ?_)
  have zu59 := u59.size
  refine go ?_
  refine t_insG (a := (n : Int)) (v := (0 : Int)) keyI_ok underlying353 rfl rfl rfl rfl (MapG.ofMemo (cd := cdI) M58) (fun w61 sw61 M62 u63 => ?_)
  have zu63 := u63.size
  refine go ?_
  have D66 := ((((har.keep u25 (fun _ h => h)).keep u53 (fun _ h => h)).keep u59 (fun _ h => h)).keep u63 (fun hb => show ¬ (ga = bk56) by first | omega | assumption))
  have B67 := (((B50.kx u53).kx u59).keep u63 (by omega))
  refine x_c func200 rfl rfl (costs_c pg n F (mw : Int) bk56 ys ao ga 0 ca s _ (by rw [hylen]; exact B67) (D66.sl (fun _ => rfl)) M62 hxy (by omega) (by omega) hrun9) ?_
  rintro _ w69 ⟨⟨alq65, glq65, clq65, abq65, gbq65, cbq65, rfl, halq65, habq65, hnnq65⟩, u70⟩ zu70
  have hsbq65 := habq65.sl (fun _ => rfl)
  have hgbq65 := habq65.ge (by rw [hslb]; omega)
  have hlbq65 := habq65.lt
  refine go ?_
  exact hK21 (⟨abq65, gbq65, cbq65⟩ : H3) ⟨hsbq65, (by show w10.heap.size ≤ gbq65 ∧ gbq65 < _; omega)⟩
 rintro e w22 ⟨hbye, hbe9⟩ u23 zu23
 refine go ?_
 have B76 := (((hpg.kx u5).keep u11 (by omega)).kx u23)
 refine x_c func199 rfl rfl (sink_c pg (n : Int) (mw : Int) ao xs.length ca _ B76 (by omega)) ?_
 rintro _ w78 ⟨rfl, u79⟩ zu79
 have D82 := (hbye.keep u79 (fun _ h => h))
 refine g_i (n + 1) D82 (fun _ => ?_) (hj := (by omega))
 refine go ?_
 refine q_p (fun g24 => ?_) fun g24 => ?_
 ·
  have D84 := ((har.keep u23 (fun _ h => h)).keep u79 (fun _ h => h))
  have hzy := hend g24
  rw [hzy] at hdn
  have hcap9 : ys.length ≤ ca := (D84).cap_le
  rw [hylen] at hcap9
  have htl9 : (ys.drop (2 * mw)).length = xs.length - 2 * mw := by rw [List.length_drop, hylen]
  refine go ?_
  refine c_drawnM follows (fun _ => False) (OTl [0, 2, 4, 6, 8, 10, 12, 14, 16, 18, 20, 22]) (by kernel_rfl) fun w87 u88 => ?_
  have zu88 := u88.size
  refine go ?_
  refine y_sliceFrom (2 * mw) underlying347 sizeOf356 rfl rfl rfl rfl (by omega) (by omega) hcap9 (y_same 77 (v := .slice (subAddr ao ca (2 * mw) 4) ((ys.drop (2 * mw)).length) (ca - 2 * mw)) rfl (by rw [List.length_drop, hylen]) ?_)
  refine go ?_
  refine x_l1 (fun _ => False) [1, 77, 78] (fun (q : Nat) => [(79, .int .i64 (q : Int))]) (fun q w => (q ≤ (ys.drop (2 * mw)).length)) (fun q => (ys.drop (2 * mw)).length - q) 0 (Nat.zero_le _) ?_
  rintro q w91 hq u92 zu92 K90 hK90
  refine go ?_
  refine q_p (fun g80 => ?_) fun g80 => ?_
  ·
   refine go ?_
   have D98 := ((D84.keep u88 (fun _ h => h)).keep u92 (fun _ h => h))
   refine g_i q (Sl.dropI (cap := ca) (i := 2 * mw) (D98.sl (fun _ => rfl)) (by omega)) (fun _ => ?_)
   refine go ?_
   refine x_n fun bk100 w101 ebk100 sbk100 B102 u103 => ?_
   refine x_s fun w105 sw105 B107 u106 => ?_
   refine go ?_
   refine c_drawnM follows (fun _ => False) (OTl [0, 2, 4, 7, 8, 10, 12, 14, 16, 18]) (by kernel_rfl) fun w110 u111 => ?_
   have zu111 := u111.size
   refine go ?_
   have B113 := ((((((B76.kx u79).kx u88).kx u92).kx u103).keep u106 (by omega)).kx u111)
   refine x_c func199 rfl rfl (sink_c pg (n : Int) (mw : Int) ao xs.length ca _ B113 (by omega)) ?_
   rintro _ w115 ⟨rfl, u116⟩ zu116
   refine go ?_
   refine y_splitp 88 rfl (fun g88 => ?_) (fun g88 => ?_)
   ·
    refine go ?_
    refine q_p (fun g92 => ?_) fun g92 => ?_
    ·
     exact absurd ⟨g88, g92⟩ (hdn q (by omega))
    refine go ?_
    exact hK90 (q + 1) (by omega)
   refine go ?_
   exact hK90 (q + 1) (by omega)
  refine go ?_
  have D120 := ((D84.keep u88 (fun _ h => h)).keep u92 (fun _ h => h))
  have B121 := (((B76.kx u79).kx u88).kx u92)
  have har9 := D120
  have hpg9 := B121
  have hmkE := (hmk.keep (((((Upd.refl (fun _ => False) _).nx u23).nx u79).nx u88).nx u92) (CellsIn.none _))
  refine f_retMc1 (v := .bool true) results139 (.tmp rfl) (hmk.keep (((((Upd.refl (fun _ => False) _).nx u23).nx u79).nx u88).nx u92) (CellsIn.none _)) (fun w122 u123 omw122 => ?_)
  have zu123 := u123.size
  exact ⟨rfl, hpg9.keep omw122 (hmkE.notBlk hpg9), (by rw [hzy]; exact har9.keep omw122 (fun _ => hmkE.notAcc har9 (by rw [hylen]; omega))), ((((((((Upd.refl (fun i => (i = ga ∧ base ≤ i)) w0).nx u5).next u11 (fun i hi h => by omega)).nx u23).nx u79).nx u88).nx u92).next u123 (fun i hi (h : w0.heap.size ≤ i) => show (i = ga ∧ base ≤ i) by first | omega | assumption))⟩
 obtain ⟨p, hpth, hpl, hgo9⟩ := hgo g24
 have hpm := pthP_mem hpth
 have hyev : ys.length % 2 = 0 := by rw [hylen]; exact hev
 have hrmb : RmB 1000000 ys := fun i hi => by have := okRm_b hrm i hi; omega
 have hhul := hulP_rng hrm (d := p) rfl hpm
 refine go ?_
 refine x_n fun bk126 w127 ebk126 sbk126 B128 u129 => ?_
 refine x_s fun w131 sw131 B133 u132 => ?_
 refine go ?_
 refine x_c func201 rfl rfl (eback0_c pg e.ao s.b.length e.cp _) ?_
 rintro _ w139 ⟨⟨p1q137, p2q137, rfl, g1q137, g2q137, n1q137, h1q137, h2q137⟩, u140⟩ zu140
 have l1q137 := h1q137.lt
 have l2q137 := h2q137.lt
 refine go ?_
 have B143 := ((((B76.kx u79).kx u129).keep u132 (by omega)).kx u140)
 have D144 := (((D82.keep u129 (fun _ h => h)).keep u132 (fun _ => show ¬ (e.g = bk126) by omega)).keep u140 (fun _ h => h))
 have D145 := (((((har.keep u23 (fun _ h => h)).keep u79 (fun _ h => h)).keep u129 (fun _ h => h)).keep u132 (fun hb => show ¬ (ga = bk126) by first | omega | assumption)).keep u140 (fun _ h => h))
 have B146 := (B133.kx u140)
 have haR1 := D145
 have h5R1 := B146
 have hga1 := haR1.lt
 have ht51 := h5R1.lt
 have hGR1 : GrM pg p1q137 p2q137 n (mw : Int) ys ao ga 0 ca e.ao e.g 0 e.cp s.b w139 := ⟨h1q137, h2q137, D144, by rw [hylen]; exact B143, ys, haR1.sl (fun _ => rfl), rfl, fun _ _ => rfl⟩
 have hMM1 : ∀ r W, (MinC ys p bk126 w139) r W → GrM pg p1q137 p2q137 n (mw : Int) ys ao ga 0 ca e.ao e.g 0 e.cp s.b W := (fun r W (qq : (MinC ys p bk126 w139) r W) => hGR1.keep qq.1 (show ¬ (p1q137 = bk126 ∨ p1q137 = (w139.heap.size + 1)) by omega) (show ¬ (p2q137 = bk126 ∨ p2q137 = (w139.heap.size + 1)) by omega) (show ¬ (e.g = bk126 ∨ e.g = (w139.heap.size + 1)) by omega) (show ¬ (pg = bk126 ∨ pg = (w139.heap.size + 1)) by omega) (show ¬ (ga = bk126 ∨ ga = (w139.heap.size + 1)) by omega))
 refine WC.weak [(1, .pointer (some ⟨bk2, 0, none⟩)), (4, .slice e.ao s.b.length e.cp), (5, .pointer (some ⟨bk126, 0, none⟩)), (27, .func (.func 245) #[] #[.pointer (some ⟨p1q137, 0, none⟩), .pointer (some ⟨p2q137, 0, none⟩)])] ⟨rfl, rfl, rfl, rfl, trivial⟩ (c_rangeZ (γ := PkE) (δ := Unit) (lb := [.pointer (some ⟨p1q137, 0, none⟩), .pointer (some ⟨p2q137, 0, none⟩)]) (enc := (fun x : PkE => .int .i64 x.x)) own245 rfl rfl (YPk w139.heap.size (MinC ys p bk126 w139)) (ZPk (MinC ys p bk126 w139)) ((MinC ys p bk126 w139) []) (fun x W W' qq hl u => ⟨MinC.turned ht51 _ _ _ qq.1 u, qq.2.trans (u.mono fun _ _ => trivial)⟩) (fun _ W W' qq hl u => MinC.turned ht51 _ _ _ qq u) ?_ (fun x d => [(1, .pointer (some ⟨bk2, 0, none⟩)), (4, .slice e.ao s.b.length e.cp), (5, .pointer (some ⟨bk126, 0, none⟩)), (6, .int .i64 x.x)]) (PkY (MinC ys p bk126 w139)) (fun d x W W' qq hl u => ⟨MinC.turned ht51 _ _ _ qq.1 u, qq.2.trans (u.mono fun _ _ => trivial)⟩) ?_ ?_ ?_)
 ·
  intro l1 D R W hD hl9 hsz hE1 hH hR
  subst hD hl9
  refine (eback_c pg p1q137 p2q137 n (mw : Int) ys ao ga 0 ca e.ao e.g 0 e.cp s.b F p _ _ (MinC ys p bk126 w139) R W (fun r W W' qq u => MinC.ext r W W' qq u) hMM1 hH hpth ?_ hR (by omega) (by omega) (by omega)).mono fun _ _ qq => qq
  exact ⟨Ext.to hE1, [], rfl, h5R1.keep hE1 (fun h => h)⟩
 ·
  intro lq x W K147 hI hK147
  change WC _ _ _ _ _ _ [(28, .int .i64 x.x), (1, .pointer (some ⟨bk2, 0, none⟩)), (4, .slice e.ao s.b.length e.cp), (5, .pointer (some ⟨bk126, 0, none⟩)), (27, .func (.func 245) #[] #[.pointer (some ⟨p1q137, 0, none⟩), .pointer (some ⟨p2q137, 0, none⟩)])] _
  refine (q_of ?_)
  have E000 := Sc.mk (Upd.refl (fun _ => False) W)
  obtain ⟨hC1, hD1, hU1⟩ := hI
  refine go ?_
  exact hK147 () _ _ ⟨rfl, rfl, rfl, rfl, trivial⟩ E000.u ⟨MinC.ext _ _ _ hC1 E000.u, hU1.trans (Ext.to E000.u)⟩
 ·
  intro lq x d w148 hY
  obtain ⟨hC1, hU1⟩ := hY
  obtain ⟨u149, dv150, hpdv150, hXv150⟩ := hC1
  have zu149 := u149.size
  have hxm9 := hpm x.x (by rw [hpdv150]; simp)
  have hrm9 := okRm_b hrm x.x.toNat (by omega)
  change WC _ _ _ _ _ _ [(1, .pointer (some ⟨bk2, 0, none⟩)), (4, .slice e.ao s.b.length e.cp), (5, .pointer (some ⟨bk126, 0, none⟩)), (6, .int .i64 x.x)] _
  refine (q_of ?_)
  have hcellsR := (hXv150).cellsIn
  refine go ?_
  refine c_drawnM follows (fun i => i = bk126) (OTl [2, 4, 6, 8, 10, 12, 14, 16, 1, 18, 21]) (by kernel_rfl) fun w152 u153 => ?_
  have zu153 := u153.size
  refine go ?_
  have D155 := ((D145.keep u149 (fun hb => show ¬ (ga = bk126 ∨ ga = (w139.heap.size + 1)) by first | omega | assumption)).keep u153 (fun _ h => h))
  refine y_i x.x.toNat (D155.sl (fun _ => rfl)) (fun _ => ?_) (hj := (by omega))
  refine go ?_
  refine y_min rfl rfl rfl rfl ?_
  refine go ?_
  refine x_s fun w158 sw158 B160 u159 => ?_
  refine go ?_
  have hUr := (((Upd.refl (fun i => i = bk126) w148).nx u153).next u159 (fun i hi h => by omega))
  exact ⟨fun a ha => ⟨KeepsFrom.of_upd hUr hcellsR, ⟨⟨((u149.nx u153).next u159 (fun i hi (h : i = bk126) => show i = bk126 ∨ i = (w139.heap.size + 1) by first | omega | assumption)), dv150 ++ [x.x], by rw [hpdv150, List.append_assoc]; rfl, (by rw [hulP_snoc]; exact B160)⟩, hU1.trans (hUr.mono fun _ _ => trivial)⟩⟩⟩
 ·
  have D164 := (((((hmk.keep u23 (CellsIn.none _)).keep u79 (CellsIn.none _)).keep u129 (CellsIn.none _)).keep u132 (B128).cellsIn).keep u140 (CellsIn.none _))
  have hmk0 := D164
  have hmc0 := (show CellsIn (fun i => i = bk126 ∨ i = (w139.heap.size + 1)) w139 from fun k hk e => by
    rcases e with e | e
    · exact h5R1.cellsIn k hk e
    · omega)
  intro D163 w162 hD163 hE hdD163
  obtain ⟨u165, dv166, hpdv166, hXv166⟩ := hE
  have zu165 := u165.size
  have hdev166 : dv166 = p := by rw [hpdv166, List.append_nil]
  rw [hdev166] at hXv166
  have mk168 := (hmk0.keep u165 hmc0).push (D := D163) (by omega) hdD163 (fun d hd D' e => Nat.lt_of_lt_of_le (hmk0.lt d hd D' e) hD163)
  refine go ?_
  refine x_c func201 rfl rfl (eback0_c pg e.ao s.b.length e.cp _) ?_
  rintro _ w172 ⟨⟨p1q170, p2q170, rfl, g1q170, g2q170, n1q170, h1q170, h2q170⟩, u173⟩ zu173
  have l1q170 := h1q170.lt
  have l2q170 := h2q170.lt
  refine go ?_
  have B176 := ((B143.keep u165 (by omega)).kx u173)
  have D177 := ((D144.keep u165 (fun _ => show ¬ (e.g = bk126 ∨ e.g = (w139.heap.size + 1)) by omega)).keep u173 (fun _ h => h))
  have D178 := ((D145.keep u165 (fun hb => show ¬ (ga = bk126 ∨ ga = (w139.heap.size + 1)) by first | omega | assumption)).keep u173 (fun _ h => h))
  have B179 := (hXv166.kx u173)
  have haR2 := D178
  have h5R2 := B179
  have hga2 := haR2.lt
  have ht52 := h5R2.lt
  have hGR2 : GrM pg p1q170 p2q170 n (mw : Int) ys ao ga 0 ca e.ao e.g 0 e.cp s.b w172 := ⟨h1q170, h2q170, D177, by rw [hylen]; exact B176, ys, haR2.sl (fun _ => rfl), rfl, fun _ _ => rfl⟩
  have hMM2 : ∀ r W, (AugC (hulP ys p) ys p base ao ga ca w172) r W → GrM pg p1q170 p2q170 n (mw : Int) ys ao ga 0 ca e.ao e.g 0 e.cp s.b W := (fun r W (qq : (AugC (hulP ys p) ys p base ao ga ca w172) r W) => by
      obtain ⟨u9, d9, hd9, hA9⟩ := qq
      exact hGR2.keepA u9 (show ¬ (p1q170 = ga ∨ p1q170 = (w172.heap.size + 1)) by omega) (show ¬ (p2q170 = ga ∨ p2q170 = (w172.heap.size + 1)) by omega) (show ¬ (e.g = ga ∨ e.g = (w172.heap.size + 1)) by omega) (show ¬ (pg = ga ∨ pg = (w172.heap.size + 1)) by omega) hA9 (augP_ok hhul hyev hrmb rfl (fun a ha => hpm a (by rw [hd9]; exact List.mem_append_left _ ha))).1)
  refine WC.weak [(1, .pointer (some ⟨bk2, 0, none⟩)), (5, .pointer (some ⟨bk126, 0, none⟩)), (41, .func (.func 245) #[] #[.pointer (some ⟨p1q170, 0, none⟩), .pointer (some ⟨p2q170, 0, none⟩)])] ⟨rfl, rfl, rfl, trivial⟩ (c_rangeZ (γ := PkE) (δ := Unit) (lb := [.pointer (some ⟨p1q170, 0, none⟩), .pointer (some ⟨p2q170, 0, none⟩)]) (enc := (fun x : PkE => .int .i64 x.x)) own245 rfl rfl (YPk w172.heap.size (AugC (hulP ys p) ys p base ao ga ca w172)) (ZPk (AugC (hulP ys p) ys p base ao ga ca w172)) ((AugC (hulP ys p) ys p base ao ga ca w172) []) (fun x W W' qq hl u => ⟨AugC.turned hga2 _ _ _ qq.1 u, qq.2.trans (u.mono fun _ _ => trivial)⟩) (fun _ W W' qq hl u => AugC.turned hga2 _ _ _ qq u) ?_ (fun x d => [(1, .pointer (some ⟨bk2, 0, none⟩)), (5, .pointer (some ⟨bk126, 0, none⟩)), (7, .int .i64 x.x)]) (PkY (AugC (hulP ys p) ys p base ao ga ca w172)) (fun d x W W' qq hl u => ⟨AugC.turned hga2 _ _ _ qq.1 u, qq.2.trans (u.mono fun _ _ => trivial)⟩) ?_ ?_ ?_)
  ·
   intro l1 D R W hD hl9 hsz hE1 hH hR
   subst hD hl9
   refine (eback_c pg p1q170 p2q170 n (mw : Int) ys ao ga 0 ca e.ao e.g 0 e.cp s.b F p _ _ (AugC (hulP ys p) ys p base ao ga ca w172) R W (fun r W W' qq u => AugC.ext r W W' qq u) hMM2 hH hpth ?_ hR (by omega) (by omega) (by omega)).mono fun _ _ qq => qq
   exact ⟨Ext.to hE1, [], rfl, haR2.keep hE1 (fun _ h => h)⟩
  ·
   intro lq x W K180 hI hK180
   change WC _ _ _ _ _ _ [(42, .int .i64 x.x), (1, .pointer (some ⟨bk2, 0, none⟩)), (5, .pointer (some ⟨bk126, 0, none⟩)), (41, .func (.func 245) #[] #[.pointer (some ⟨p1q170, 0, none⟩), .pointer (some ⟨p2q170, 0, none⟩)])] _
   refine (q_of ?_)
   have E000 := Sc.mk (Upd.refl (fun _ => False) W)
   obtain ⟨hC1, hD1, hU1⟩ := hI
   refine go ?_
   exact hK180 () _ _ ⟨rfl, rfl, rfl, trivial⟩ E000.u ⟨AugC.ext _ _ _ hC1 E000.u, hU1.trans (Ext.to E000.u)⟩
  ·
   intro lq x d w181 hY
   obtain ⟨hC1, hU1⟩ := hY
   obtain ⟨u182, dv183, hpdv183, hXv183⟩ := hC1
   have zu182 := u182.size
   have lt_ga := hXv183.lt
   have hxm9 := hpm x.x (by rw [hpdv183]; simp)
   have hdl9 : dv183.length ≤ 1000 := by have h9 := congrArg List.length hpdv183; rw [List.length_append] at h9; omega
   obtain ⟨hsv, hbv⟩ := augP_ok hhul hyev hrmb (n := dv183.length) (d := dv183) rfl (fun a ha => hpm a (by rw [hpdv183]; exact List.mem_append_left _ ha))
   have hslv := hsv.len
   obtain ⟨⟨hsa, hba⟩, hsb9, hbb9⟩ := au_step hhul hsv hbv hxm9 hyev
   have hsal := hsa.len
   have hxo := xor1_rng hxm9 hyev
   have hr1 := hbv x.x.toNat (by omega)
   have hr2 := hba (xor1 x.x).toNat (by omega)
   change WC _ _ _ _ _ _ [(1, .pointer (some ⟨bk2, 0, none⟩)), (5, .pointer (some ⟨bk126, 0, none⟩)), (7, .int .i64 x.x)] _
   refine (q_of ?_)
   have hcellsR := (CellsIn.ofAcc (hXv183) (by omega))
   refine go ?_
   refine c_drawnM follows (fun i => i = ga) (OTl [0, 2, 4, 6, 8, 10, 12, 16, 15, 18, 20, 22, 25]) (by kernel_rfl) fun w186 u187 => ?_
   have zu187 := u187.size
   refine go ?_
   have D189 := (hXv183.keep u187 (fun _ h => h))
   refine y_i x.x.toNat (D189.sl (fun _ => rfl)) (fun _ => ?_) (hj := (by omega))
   refine go ?_
   refine y_i x.x.toNat (D189.sl (fun _ => rfl)) (fun _ => ?_) (hj := (by omega))
   refine go ?_
   refine t_storeA (vs := [.int .i64 (((nth (augP (hulP ys p) ys dv183) x.x.toNat).r) - (hulP ys p))]) (j := x.x.toNat) (o' := 3) (k := 4) ((nth (augP (hulP ys p) ys dv183) x.x.toNat).sr (((nth (augP (hulP ys p) ys dv183) x.x.toNat).r) - (hulP ys p))) (fun _ => rfl) sizeOf3 rfl rfl (by omega) rfl D189 (by first | omega | (simp only [List.length_set]; omega)) rfl rfl (by decide) (by simp [Value.oneCell']) rfl (fun w192 R194 u193 => ?_)
   have zu193 := u193.size
   refine go ?_
   have hl10 : ((augP (hulP ys p) ys dv183).set x.x.toNat ((nth (augP (hulP ys p) ys dv183) x.x.toNat).sr (((nth (augP (hulP ys p) ys dv183) x.x.toNat).r) - (hulP ys p)))).length = ys.length := hsal
   have hr3 : -(1000000 + 2000 * (dv183.length : Int) + 1000) ≤ (nth ((augP (hulP ys p) ys dv183).set x.x.toNat ((nth (augP (hulP ys p) ys dv183) x.x.toNat).sr (((nth (augP (hulP ys p) ys dv183) x.x.toNat).r) - (hulP ys p)))) (xor1 x.x).toNat).r ∧ (nth ((augP (hulP ys p) ys dv183).set x.x.toNat ((nth (augP (hulP ys p) ys dv183) x.x.toNat).sr (((nth (augP (hulP ys p) ys dv183) x.x.toNat).r) - (hulP ys p)))) (xor1 x.x).toNat).r ≤ (1000000 + 2000 * (dv183.length : Int) + 1000) := hr2
   refine c_drawnM follows (fun i => i = ga) (OTl [0, 2, 4, 6, 8, 18, 11, 12, 14, 17, 20, 22, 24, 27]) (by kernel_rfl) fun w196 u197 => ?_
   have zu197 := u197.size
   refine go ?_
   refine t_xor1 rfl rfl rfl rfl (by omega) ?_
   refine go ?_
   have D199 := (R194.keep u197 (fun _ h => h))
   refine y_i ((xor1 x.x).toNat) (D199.sl (fun _ => rfl)) (fun _ => ?_) (hj := (by omega))
   refine go ?_
   refine y_i ((xor1 x.x).toNat) (D199.sl (fun _ => rfl)) (fun _ => ?_) (hj := (by omega))
   refine go ?_
   refine t_storeA (vs := [.int .i64 ((nth ((augP (hulP ys p) ys dv183).set x.x.toNat ((nth (augP (hulP ys p) ys dv183) x.x.toNat).sr (((nth (augP (hulP ys p) ys dv183) x.x.toNat).r) - (hulP ys p)))) ((xor1 x.x).toNat)).r + (hulP ys p))]) (j := (xor1 x.x).toNat) (o' := 3) (k := 4) ((nth ((augP (hulP ys p) ys dv183).set x.x.toNat ((nth (augP (hulP ys p) ys dv183) x.x.toNat).sr (((nth (augP (hulP ys p) ys dv183) x.x.toNat).r) - (hulP ys p)))) (xor1 x.x).toNat).sr ((nth ((augP (hulP ys p) ys dv183).set x.x.toNat ((nth (augP (hulP ys p) ys dv183) x.x.toNat).sr (((nth (augP (hulP ys p) ys dv183) x.x.toNat).r) - (hulP ys p)))) ((xor1 x.x).toNat)).r + (hulP ys p))) (fun _ => rfl) sizeOf3 rfl rfl (by omega) rfl D199 (by first | omega | (simp only [List.length_set]; omega)) rfl rfl (by decide) (by simp [Value.oneCell']) rfl (fun w202 R204 u203 => ?_)
   have zu203 := u203.size
   refine go ?_
   have hUr := (((((Upd.refl (fun i => i = ga) w181).nx u187).next u193 (fun i hi h => by omega)).nx u197).next u203 (fun i hi h => by omega))
   exact ⟨fun a ha => ⟨KeepsFrom.of_upd hUr hcellsR, ⟨⟨((((u182.nx u187).next u193 (fun i hi (h : i = ga) => show i = ga ∨ i = (w172.heap.size + 1) by first | omega | assumption)).nx u197).next u203 (fun i hi (h : i = ga) => show i = ga ∨ i = (w172.heap.size + 1) by first | omega | assumption)), dv183 ++ [x.x], by rw [hpdv183, List.append_assoc]; rfl, (by rw [augP_snoc]; exact R204)⟩, hU1.trans (hUr.mono fun _ _ => trivial)⟩⟩⟩
  ·
   have hmk0 := (mk168.keep ((Upd.refl (fun _ => False) _).nx u173) (CellsIn.none _))
   have hmc0 := (show CellsIn (fun i => i = ga ∨ i = (w172.heap.size + 1)) w172 from fun k hk e => by
     rcases e with e | e
     · exact CellsIn.ofAcc haR2 (by omega) k hk e
     · omega)
   intro D207 w206 hD207 hE hdD207
   obtain ⟨u208, dv209, hpdv209, hXv209⟩ := hE
   have zu208 := u208.size
   have lt_ga := hXv209.lt
   have hdev209 : dv209 = p := by rw [hpdv209, List.append_nil]
   rw [hdev209] at hXv209
   have lt_ga := hXv209.lt
   have hau9 : augP (hulP ys p) ys p = augP (hulP ys p) ys p := rfl
   have hsm9 : SamE xs (augP (hulP ys p) ys p) := hsm.trans (augP_ok hhul hyev hrmb rfl hpm).1
   have mk211 := (hmk0.keep u208 hmc0).push (D := D207) (by omega) hdD207 (fun d hd D' e => Nat.lt_of_lt_of_le (hmk0.lt d hd D' e) hD207)
   exact hK9 (augP (hulP ys p) ys p, k1, (mark D207 :: (mark D163 :: dl))) _ _ (by show k1 < k; omega) ⟨rfl, trivial⟩ ⟨((((((((u11.nx u23).nx u79).nx u129).next u132 (fun i hi h => by omega)).nx u140).next u165 (fun i hi h => by omega)).nx u173).next u208 (fun i hi h => by omega)), hgo9, hsm9, (by rw [← hau9]; exact hXv209), mk211⟩

end Go.Proofs.YtclinbbghnebaaaGreat
namespace Go.Proofs.YtclinbbghnebaaaGreat
open Go Go.RowKit Go.Proofs.Tryz
set_option maxRecDepth 10000

/-- What the moves cost. -/
def cstP (zs ws : List Ew) : Nat → Int
  | 0 => 0
  | k + 1 => cstP zs ws k + (nth zs (2 * k + 1)).r * (nth ws k).c
theorem mulb9 {a b : Int} (ha : 0 ≤ a ∧ a ≤ 1000000) (hb : 0 ≤ b ∧ b ≤ 1000000) : 0 ≤ a * b ∧ a * b ≤ 1000000000000 := by
  have h1 := Int.mul_nonneg ha.1 hb.1
  have h2 := Int.mul_le_mul ha.2 hb.2 hb.1 (by omega)
  omega
theorem cstP_rng {zs ws : List Ew} (hz : okRm zs = true) (hl : 2 * ws.length ≤ zs.length) (hw : ∀ a ∈ ws, 0 ≤ a.c ∧ a.c ≤ 1000000) : ∀ k, k ≤ ws.length → 0 ≤ cstP zs ws k ∧ cstP zs ws k ≤ 1000000000000 * (k : Int)
  | 0, _ => ⟨Int.le_refl _, by show (0 : Int) ≤ _; omega⟩
  | k + 1, hk => by
    have ih := cstP_rng hz hl hw k (by omega)
    have h1 := okRm_b hz (2 * k + 1) (by omega)
    have h2 := hw _ (nth_mem (xs := ws) (i := k) (by omega))
    have h3 := mulb9 h1 h2
    show 0 ≤ cstP zs ws k + _ ∧ cstP zs ws k + _ ≤ _
    omega
theorem filP_same {n F : Nat} : ∀ {k : Nat} {xs zs : List Ew}, xs.length % 2 = 0 → filP n F k xs = some zs → SamE xs zs ∧ okRm zs = true
  | k, xs, zs, he, h => by
    obtain ⟨k', s, hk, hr, hrm, h1, h2⟩ := filP_step h
    by_cases c : nth s.b (n + 1) < 0
    · rw [h1 c]; exact ⟨SamE.refl _, hrm⟩
    · obtain ⟨p, hp, _, h3⟩ := h2 c
      have hpm := pthP_mem hp
      have h4 := (augP_ok (hulP_rng hrm (d := p) rfl hpm) he (fun i hi => by have := okRm_b hrm i hi; omega) (d := p) rfl hpm).1
      have ih := filP_same (k := k') (by rw [h4.len]; exact he) h3
      exact ⟨h4.trans ih.1, ih.2⟩
termination_by k => k
decreasing_by omega
section
variable {rd : Option Nat} {P : Program} {ops : Array Oper} {Q : Exit → Act → World → Prop} {N : Nat} {ds : List Deferred} {rest : List Oper} {L : Slots} {w : World}
variable {d : Nat} {ty : TypeId} {pos : String} {aft : Array Edge} {g : Option (Nat × Bool)}
/-- len(m) of an empty map. -/
theorem t_lenM0 {α β : Type} {cd : Cod α β} {t K E : TypeId} {x : Operand} {r : Nat} (hu : P.underlying t = some (.map K E)) (hg : grd ops L g = true) (hN : Nat.blt d N = true) (hx : ev L x = some (.map (some r))) (hm : MapG cd [] w r)
    (h : WL rd P ops Q N ds rest ((d, .int .i64 0) :: L) w) : WL rd P ops Q N ds (⟨some d, .call ⟨.builtin .len, #[x], #[t]⟩, ty, pos, aft, g⟩ :: rest) L w := by
  obtain ⟨es, c, h1, h2, _⟩ := hm
  have he : es.size = 0 := by
    have h3 := congrArg List.length h2
    simpa using h3
  have hgo : (getObj r).run P w = .ok (.map es c) w := by simp [getObj, Sem.run, h1]
  refine WL.value hg rfl hN (fun a hk => ?_) h
  simp only [execOp, resolve, invoke, builtin]
  simp [hk.ev hx, Builtin.len_, run_underlying hu, hgo, he, goInt]
end
-- the document's example
def enP : List Prt := [⟨5, 0⟩, ⟨2, 1⟩, ⟨0, 4⟩]
def enW : List Ew := [⟨0, 1, 100, 3⟩, ⟨1, 2, 50, 9⟩, ⟨0, 2, 200, 9⟩]
def enZ : List Ew := (filP 3 50 50 (opnG enP enW)).getD []
theorem en_ok : okNet enP enW = true := by kernel_rfl
theorem en_fil : filP 3 50 50 (opnG enP enW) = some enZ := by kernel_rfl
def enR : Cst := (runC enZ 50 (iniC 3)).getD default
theorem en_run : runC enZ 50 (iniC 3) = some enR := by kernel_rfl
theorem en_dn : ∀ q, q < (enZ.drop 6).length → ¬ ((nth (enZ.drop 6) q).t = ((3 : Nat) : Int) + 1 ∧ 0 < (nth (enZ.drop 6) q).r) := by decide +kernel
theorem en_far : ∀ i, i < 3 → nth enR.l i < 120000000 := by decide +kernel
theorem en_cost : cstP enZ enW 3 = 500 := by kernel_rfl
theorem en_arc : ∀ a ∈ opnG enP enW, okArc 3 a := fun a ha => by
  have h : ((opnG enP enW).all fun a => decide (((0 ≤ a.f ∧ a.f ≤ 4) ∧ (0 ≤ a.t ∧ a.t ≤ 4) ∧ (-1000000 ≤ a.c ∧ a.c ≤ 1000000)))) = true := by kernel_rfl
  have h1 := List.all_eq_true.1 h a ha
  rw [decide_eq_true_eq] at h1
  unfold okArc
  omega
def ofO : List Off := [⟨0, 100, 0, 600, 50000⟩, ⟨100, 300, 700, 1500, 40000⟩, ⟨0, 300, 0, 1400, 80000⟩]
def ofH : Hul := ⟨10, 0, 5, 100⟩
theorem of_best : bestP ofO ofH = ⟨[1], 31000⟩ ∧ bestE ofO ofH = 0 := ⟨by kernel_rfl, by kernel_rfl⟩
theorem prices_c (pg n mw F : Nat) (xs : List Ew) (ao : Option Addr) (ga oa ca : Nat) (s : Cst) (w0 : World) (hpg : Blk w0 pg 349 [.int .i64 (n : Int), .int .i64 (mw : Int), .slice ao xs.length ca]) (hxs : Sl encEw 4 w0 ao ga oa xs) (hx : ∀ a ∈ xs, okArc n a) (hxl : xs.length ≤ 10000) (hn : n ≤ 1000) (hrun : runC xs F (iniC n) = some s) (hfar : ∀ i, i < n → nth s.l i < 120000000) :
    CallsV Tryz.prog 141 [.pointer (some ⟨pg, 0, none⟩)] w0 (fun v w' => (∃ a k c, v = .slice a k c) ∧ Ext w0 w') := by
 have hpgl := hpg.lt
 have hsl : s.l.length = n + 2 := (runC_len hrun).2.trans (by show ((List.range (n + 2)).map (srcC n)).length = _; rw [List.length_map, List.length_range])
 refine f_n func141 ?_
 iterate 5 refine st1 ?_
 refine x_k1 (fun _ => False) [0] (fun (e : H3) => [(2, .slice e.ao s.l.length e.cp)]) (fun e w => (Sl encI 1 w e.ao e.g 0 s.l) ∧ (s.l.length ≤ e.cp)) (fun K6 hK6 => ?_) ?_
 ·
  refine go ?_
  refine t_makemap rfl rfl (fun bk9 w10 ebk9 sbk9 M11 u12 => ?_)
  have zu12 := u12.size
  refine go ?_
  have B14 := (hpg.kx u12)
  refine x_c func198 rfl rfl (source_c pg (n : Int) (mw : Int) ao xs.length ca _ B14) ?_
  rintro _ w16 ⟨rfl, u17⟩ zu17
  refine t_insG (a := (n : Int)) (v := (0 : Int)) keyI_ok underlying353 rfl rfl rfl rfl ((MapG.ofMemo (cd := cdI) M11).keep u17 (fun h => h)) (fun w20 sw20 M21 u22 => ?_)
  have zu22 := u22.size
  refine go ?_
  have B25 := ((B14.kx u17).keep u22 (by omega))
  refine x_c func200 rfl rfl (costs_c pg n F (mw : Int) bk9 xs ao ga oa ca s _ B25 (hxs.keep ((((Upd.refl (fun _ => False) w0).nx u12).nx u17).next u22 (fun i hi h => by omega)) (fun _ h => h)) M21 hx (by omega) (by omega) hrun) ?_
  rintro _ w27 ⟨⟨alq24, glq24, clq24, abq24, gbq24, cbq24, rfl, halq24, habq24, hnnq24⟩, u28⟩ zu28
  have hsbq24 := halq24.sl (fun _ => rfl)
  have hgbq24 := halq24.ge (by omega)
  have hlbq24 := halq24.lt
  have hcbq24 := halq24.cap_le
  refine go ?_
  exact hK6 (⟨alq24, glq24, clq24⟩ : H3) ⟨hsbq24, (hcbq24)⟩
 rintro e w7 ⟨hlye, hcpe⟩ u8 zu8
 refine go ?_
 refine t_makemap rfl rfl (fun bk33 w34 ebk33 sbk33 M35 u36 => ?_)
 have zu36 := u36.size
 refine go ?_
 refine x_l1 (fun _ => False) [0, 2, 3, 22] (fun (i : Nat) => [(23, .int .i64 (i : Int))]) (fun i w => (i ≤ n)) (fun i => n - i) 0 (Nat.zero_le _) ?_
 rintro i w41 hi u42 zu42 K40 hK40
 refine go ?_
 refine q_p (fun g24 => ?_) fun g24 => ?_
 ·
  have hf9 := hfar i (by omega)
  refine go ?_
  have D49 := ((hlye.keep u36 (fun _ h => h)).keep u42 (fun _ h => h))
  refine g_i i D49 (fun _ => ?_)
  iterate 2 refine st1 ?_
  refine t_same 30 (v := .bool false) rfl (congrArg Value.bool (decide_eq_false (by omega))) ?_
  refine go ?_
  exact hK40 (i + 1) (by omega)
 refine go ?_
 refine t_lenM0 underlying353 rfl rfl rfl ((MapG.ofMemo (cd := cdI) M35).keep u42 (fun h => h)) ?_
 refine go ?_
 refine t_sliceTo (n) underlying38 sizeOf3 rfl rfl rfl rfl rfl (by omega) ?_
 refine go ?_
 refine f_1 results141 ?_
 exact ⟨⟨_, _, _, rfl⟩, u_d⟩

theorem Move_c (ps : List Prt) (ap : Option Addr) (bp op cp : Nat) (ws : List Ew) (aw : Option Addr) (bw ow cw : Nat) (F K : Nat) (zs : List Ew) (s : Cst) (w0 : World) (hp : Sl encPrt 2 w0 ap bp op ps) (hw : Sl encEw 4 w0 aw bw ow ws) (hok : okNet ps ws = true) (hpos : 0 < w0.heap.size) (hx : ∀ a ∈ opnG ps ws, okArc ps.length a) (hF : filP ps.length F K (opnG ps ws) = some zs) (hdn : ∀ q, q < (zs.drop (2 * ws.length)).length → ¬ ((nth (zs.drop (2 * ws.length)) q).t = (ps.length : Int) + 1 ∧ 0 < (nth (zs.drop (2 * ws.length)) q).r)) (hrun : runC zs F (iniC ps.length) = some s) (hfar : ∀ i, i < ps.length → nth s.l i < 120000000) :
    CallsV Tryz.prog 73 [.agg #[.slice ap ps.length cp, .slice aw ws.length cw]] w0 (fun v w' => (∃ a k c a2 k2 c2, v = .tuple #[.slice a k c, .int .i64 (cstP zs ws ws.length), .slice a2 k2 c2, .int .i64 0]) ∧ Ext w0 w') := by
 obtain ⟨hln, hpn, hwn⟩ := okNet_of hok
 have hol : (opnG ps ws).length = 2 * ws.length + 4 * ps.length := by unfold opnG; rw [List.length_append, opW_len (Nat.le_refl _), opP_len]
 have hev : (opnG ps ws).length % 2 = 0 := by omega
 obtain ⟨hsz, hzr⟩ := filP_same hev hF
 have hzl := hsz.len
 refine f_n func73 ?_
 refine go ?_
 refine x_b fun bk2 w3 ebk2 sbk2 B4 u5 => ?_
 have E6 := Sc.mk ((Upd.refl (fun _ => False) w0).nx u5)
 refine go ?_
 refine x_c func137 rfl rfl (eCheck_c ps ap bp op cp ws aw bw ow cw _ (hp.keep E6.u (fun _ h => h)) (by omega) (hw.keep E6.u (fun _ h => h)) (by omega) hok) ?_
 rintro _ w10 ⟨rfl, u11⟩ zu11
 have E13 := Sc.mk (E6.u.nx u11)
 refine go ?_
 refine x_c func138 rfl rfl (eopen_c ps ap bp op cp ws aw bw ow cw _ (hp.keep E13.u (fun _ h => h)) (by omega) (hw.keep E13.u (fun _ h => h)) (by omega) hok (by omega)) ?_
 rintro _ w17 ⟨⟨go_, ao, ga, ca, base, rfl, hg1, hg2, hg3, hgo, har⟩, u18⟩ zu18
 have hgol := hgo.lt
 have hgal := har.lt
 have hge := har.ge (by omega)
 refine go ?_
 refine t_call own139 rfl rfl rfl rfl (fill_c go_ ps.length ws.length F K base (opnG ps ws) zs ao ga ca _ hgo har (by omega) hx (by omega) (by omega) hev (by omega) hF hdn) (fun v23 w24 r26 => ?_)
 obtain ⟨rfl, hgo2, har2, u25⟩ := r26
 have zu25 := u25.size
 refine go ?_
 refine x_c func140 rfl rfl (moves_c go_ ps.length ws.length zs ao ga 0 ca _ (by rw [hzl]; exact hgo2) (har2.sl (fun _ => rfl)) (by omega) (by omega)) ?_
 rintro _ w30 ⟨⟨am, gm, cm, rfl, hmv⟩, u31⟩ zu31
 have hmvl : ((List.range ws.length).map (fun i => (nth zs (2 * i + 1)).r)).length = ws.length := by rw [List.length_map, List.length_range]
 have hmvs := hmv.sl (fun _ => rfl)
 have hmve := hmv.lt
 refine go ?_
 refine x_l1 (fun _ => False) [2, 7, 23, 24] (fun (k : Nat) => [(3, .int .i64 (cstP zs ws k)), (25, .int .i64 (k : Int))]) (fun k w => (k ≤ ws.length)) (fun k => ws.length - k) 0 (Nat.zero_le _) ?_
 rintro k w37 hk u38 zu38 K36 hK36
 refine go ?_
 refine q_p (fun g26 => ?_) fun g26 => ?_
 ·
  have hz9 := okRm_b hzr (2 * k + 1) (by omega)
  have hw9 := (okNet_w hok (nth_mem (xs := ws) (i := k) (by omega))).2.2.1
  have hc9 := cstP_rng hzr (by omega) (fun a ha => (okNet_w hok ha).2.2.1) k hk
  have hm9 := mulb9 hz9 hw9
  have hn9 : nth ((List.range ws.length).map (fun i => (nth zs (2 * i + 1)).r)) k = (nth zs (2 * k + 1)).r := by rw [nth_eq (by omega)]; simp
  refine go ?_
  refine g_i k (hw.keep ((((E13.u.nx u18).next u25 (fun i hi h => by omega)).nx u31).nx u38) (fun _ h => h)) (fun _ => ?_)
  refine go ?_
  refine x_n fun bk45 w46 ebk45 sbk45 B47 u48 => ?_
  refine go ?_
  refine x_s fun w50 sw50 B52 u51 => ?_
  refine go ?_
  refine c_drawnM follows (fun _ => False) (OTl [0, 2, 4, 6, 8, 10, 12, 14, 16, 18]) (by kernel_rfl) fun w54 u55 => ?_
  have zu55 := u55.size
  refine go ?_
  have D57 := ((((hmvs.keep u38 (fun _ h => h)).keep u48 (fun _ h => h)).keep u51 (fun hb => show ¬ (gm = bk45) by omega)).keep u55 (fun _ h => h))
  refine y_i k D57 (fun _ => ?_)
  refine st1 ?_
  refine y_same 34 (v := .int .i64 ((nth zs (2 * k + 1)).r)) rfl (congrArg (Value.int .i64) hn9) ?_
  refine go ?_
  exact hK36 (k + 1) (by omega)
 refine go ?_
 have B60 := ((hgo2.kx u31).kx u38)
 have D61 := ((har2.keep u31 (fun _ h => h)).keep u38 (fun _ h => h))
 refine x_c func141 rfl rfl (prices_c go_ ps.length ws.length F zs ao ga 0 ca s _ (by rw [hzl]; exact B60) (D61.sl (fun _ => rfl)) (SamE.arc hsz hx) (by omega) (by omega) hrun hfar) ?_
 rintro _ w63 ⟨⟨apr, kpr, cpr, rfl⟩, u64⟩ zu64
 refine go ?_
 refine f_ret4 (v1 := .slice am (((List.range ws.length).map (fun i => (nth zs (2 * i + 1)).r)).length) cm) (v2 := .int .i64 (cstP zs ws k)) (v3 := .slice apr kpr cpr) (v4 := .int .i64 0) results73 rfl rfl rfl rfl ?_
 obtain rfl : k = ws.length := by omega
 exact ⟨⟨_, _, _, _, _, _, rfl⟩, u_d⟩

theorem knownOffers_c  (w0 : World) (hpos : 0 < w0.heap.size) :
    CallsV Tryz.prog 24 [] w0 (fun v w' => v = .bool true ∧ Ext w0 w') := by
 refine f_n func24 ?_
 refine go ?_
 refine x_l fun bk3 w4 ebk3 sbk3 B5 u6 => ?_
 refine x_c func17 rfl rfl (Best_c ofO (some ⟨bk3, 0, none⟩) bk3 0 3 ofH _ (Sl.ofBlk (enc := encOff) (xs := ofO) (fun _ => rfl) B5) (by decide) (by omega)) ?_
 rintro _ w9 ⟨⟨rO, eO, aO, gO, oO, cO, rfl, hAo, hRe, hRo⟩, u10⟩ zu10
 obtain rfl : eO = 0 := hRe.trans of_best.2
 obtain rfl : rO = ⟨[1], 31000⟩ := ((hRo.resolve_left (fun h => h.1 rfl)).2).trans of_best.1
 refine go ?_
 refine x_l fun bk14 w15 ebk14 sbk14 B16 u17 => ?_
 refine go ?_
 refine x_l fun bk19 w20 ebk19 sbk19 B21 u22 => ?_
 refine go ?_
 have B24 := (B16.kx u22)
 refine x_c func73 rfl rfl (Move_c enP (some ⟨bk14, 0, none⟩) bk14 0 3 enW (some ⟨bk19, 0, none⟩) bk19 0 3 50 50 enZ enR _ (Sl.ofBlk (enc := encPrt) (xs := enP) (fun _ => rfl) B24) (Sl.ofBlk (enc := encEw) (xs := enW) (fun _ => rfl) B21) en_ok (by omega) en_arc en_fil en_dn en_run en_far) ?_
 rintro _ w26 ⟨⟨a9, k9, c9, a8, k8, c8, rfl⟩, u27⟩ zu27
 iterate 3 refine st1 ?_
 refine t_same 29 (v := .int .i64 500) rfl (congrArg (Value.int .i64) en_cost) ?_
 refine go ?_
 have D31 := (((hAo.keep u17 (fun _ h => h)).keep u22 (fun _ h => h)).keep u27 (fun _ h => h))
 have i32 : 0 < [(1 : Int)].length := (by decide)
 refine g_i 0 D31 (fun _ => ?_)
 refine st1 ?_
 refine t_same 46 (v := .int .i64 1) rfl rfl ?_
 refine go ?_
 refine f_1 results24 ?_
 exact ⟨rfl, u_d⟩

end Go.Proofs.YtclinbbghnebaaaGreat
