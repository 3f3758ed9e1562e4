/-
  The law FreightCents: the given statement holds. Conditions: none.
-/
import Derived.Test.YtgoajalaomakpaaGreatRows
import Derived.WalkKit
import Derived.ProofKit
import Derived.OpenShut
import Derived.ShutString
import Derived.ChangeOld
import Derived.Below
import Derived.Test.YtgoajalaomakpaaGreatIK18
namespace Go.Proofs.YtgoajalaomakpaaGreat
open Go Go.ChangeShapes Go.WideShapes Go.ChangeAt Go.RowKit
set_option linter.unusedVariables false
theorem rd5 {H : Type} {enc : TypeId × Value → H} {w : World} {cs : List Value} (h : Rd enc Tryz.prog w 5 cs) : ∃ (n0 : Int), cs = [.int .u8 n0] ∧ ((0 ≤ n0 ∧ n0 ≤ 255)) := h.intu8 Tryz.underlying5
theorem rd64 {H : Type} {enc : TypeId × Value → H} {w : World} {cs : List Value} (h : Rd enc Tryz.prog w 64 cs) : ∃ (n0 : Int) (n1 : Int) (n2 : Int), cs = [.int .u8 n0, .int .u8 n1, .int .u8 n2] ∧ ((0 ≤ n0 ∧ n0 ≤ 255)) ∧ ((0 ≤ n1 ∧ n1 ≤ 255)) ∧ ((0 ≤ n2 ∧ n2 ≤ 255)) := by
  have hl : cs.length = 3 := (h.array Tryz.underlying64).1.trans (by kernel_rfl)
  obtain ⟨n0_0, e0, r0_0⟩ := rd5 (h.elt Tryz.underlying64 0 (by decide) (by kernel_rfl : _ = 1))
  obtain ⟨n0_1, e1, r0_1⟩ := rd5 (h.elt Tryz.underlying64 1 (by decide) (by kernel_rfl : _ = 1))
  obtain ⟨n0_2, e2, r0_2⟩ := rd5 (h.elt Tryz.underlying64 2 (by decide) (by kernel_rfl : _ = 1))
  match cs, hl, e0, e1, e2 with
  | [c0, c1, c2], _, e0, e1, e2 =>
    simp at e0 e1 e2
    obtain rfl := e0
    obtain rfl := e1
    obtain rfl := e2
    exact ⟨n0_0, n0_1, n0_2, rfl, r0_0, r0_1, r0_2⟩
theorem rd65 {H : Type} {enc : TypeId × Value → H} {w : World} {cs : List Value} (h : Rd enc Tryz.prog w 65 cs) : ∃ (n0 : Int), cs = [.int .u16 n0] ∧ ((0 ≤ n0 ∧ n0 ≤ 65535)) := h.intu16 Tryz.underlying65
theorem rd66 {H : Type} {enc : TypeId × Value → H} {w : World} {cs : List Value} (h : Rd enc Tryz.prog w 66 cs) : ∃ (n0 : Int) (n1 : Int) (n2 : Int) (n3 : Int) (n4 : Int) (n5 : Int), cs = [.int .u16 n0, .int .u16 n1, .int .u16 n2, .int .u16 n3, .int .u16 n4, .int .u16 n5] ∧ ((0 ≤ n0 ∧ n0 ≤ 65535)) ∧ ((0 ≤ n1 ∧ n1 ≤ 65535)) ∧ ((0 ≤ n2 ∧ n2 ≤ 65535)) ∧ ((0 ≤ n3 ∧ n3 ≤ 65535)) ∧ ((0 ≤ n4 ∧ n4 ≤ 65535)) ∧ ((0 ≤ n5 ∧ n5 ≤ 65535)) := by
  have hl : cs.length = 6 := (h.array Tryz.underlying66).1.trans (by kernel_rfl)
  obtain ⟨n0_0, e0, r0_0⟩ := rd65 (h.elt Tryz.underlying66 0 (by decide) (by kernel_rfl : _ = 1))
  obtain ⟨n0_1, e1, r0_1⟩ := rd65 (h.elt Tryz.underlying66 1 (by decide) (by kernel_rfl : _ = 1))
  obtain ⟨n0_2, e2, r0_2⟩ := rd65 (h.elt Tryz.underlying66 2 (by decide) (by kernel_rfl : _ = 1))
  obtain ⟨n0_3, e3, r0_3⟩ := rd65 (h.elt Tryz.underlying66 3 (by decide) (by kernel_rfl : _ = 1))
  obtain ⟨n0_4, e4, r0_4⟩ := rd65 (h.elt Tryz.underlying66 4 (by decide) (by kernel_rfl : _ = 1))
  obtain ⟨n0_5, e5, r0_5⟩ := rd65 (h.elt Tryz.underlying66 5 (by decide) (by kernel_rfl : _ = 1))
  match cs, hl, e0, e1, e2, e3, e4, e5 with
  | [c0, c1, c2, c3, c4, c5], _, e0, e1, e2, e3, e4, e5 =>
    simp at e0 e1 e2 e3 e4 e5
    obtain rfl := e0
    obtain rfl := e1
    obtain rfl := e2
    obtain rfl := e3
    obtain rfl := e4
    obtain rfl := e5
    exact ⟨n0_0, n0_1, n0_2, n0_3, n0_4, n0_5, rfl, r0_0, r0_1, r0_2, r0_3, r0_4, r0_5⟩
theorem rd86 {H : Type} {enc : TypeId × Value → H} {w : World} {cs : List Value} (h : Rd enc Tryz.prog w 86 cs) : ∃ (n0 : Int) (n1 : Int), cs = [.int .u8 n0, .int .u8 n1] ∧ ((0 ≤ n0 ∧ n0 ≤ 255)) ∧ ((0 ≤ n1 ∧ n1 ≤ 255)) := by
  have hl : cs.length = 2 := (h.array Tryz.underlying86).1.trans (by kernel_rfl)
  obtain ⟨n0_0, e0, r0_0⟩ := rd5 (h.elt Tryz.underlying86 0 (by decide) (by kernel_rfl : _ = 1))
  obtain ⟨n0_1, e1, r0_1⟩ := rd5 (h.elt Tryz.underlying86 1 (by decide) (by kernel_rfl : _ = 1))
  match cs, hl, e0, e1 with
  | [c0, c1], _, e0, e1 =>
    simp at e0 e1
    obtain rfl := e0
    obtain rfl := e1
    exact ⟨n0_0, n0_1, rfl, r0_0, r0_1⟩
theorem rd67 {H : Type} {enc : TypeId × Value → H} {w : World} {cs : List Value} (h : Rd enc Tryz.prog w 67 cs) : ∃ (xs0 : List T2) (ao0 : Option Addr) (b0 : Nat) (o0 : Nat) (cp0 : Nat), cs = [.slice ao0 xs0.length cp0] ∧ (xs0.length ≤ cp0 ∧ cp0 ≤ maxLen ∧ Sl encU2 2 w ao0 b0 o0 xs0 ∧ ∀ x ∈ xs0, okU2 x) := by
  obtain ⟨ao, b, o, cap, xs, h1, h2, h3, h4, h5⟩ := h.sl (enc' := encU2) (R := fun x => okU2 x) (by kernel_rfl : _ = 2) (by decide) Tryz.underlying67 (fun cs hc => by
    obtain ⟨n0, n1, e, r0, r1⟩ := rd86 hc
    exact ⟨⟨n0, n1⟩, e, ⟨r0, r1⟩⟩)
  exact ⟨xs, ao, b, o, cap, h1, h2, h3, h4, h5⟩

theorem rd68 {H : Type} {enc : TypeId × Value → H} {w : World} {cs : List Value} (h : Rd enc Tryz.prog w 68 cs) : ∃ (n0 : Int) (n1 : Int), cs = [.int .u16 n0, .int .u16 n1] ∧ ((0 ≤ n0 ∧ n0 ≤ 65535)) ∧ ((0 ≤ n1 ∧ n1 ≤ 65535)) := by
  have hl : cs.length = 2 := (h.array Tryz.underlying68).1.trans (by kernel_rfl)
  obtain ⟨n0_0, e0, r0_0⟩ := rd65 (h.elt Tryz.underlying68 0 (by decide) (by kernel_rfl : _ = 1))
  obtain ⟨n0_1, e1, r0_1⟩ := rd65 (h.elt Tryz.underlying68 1 (by decide) (by kernel_rfl : _ = 1))
  match cs, hl, e0, e1 with
  | [c0, c1], _, e0, e1 =>
    simp at e0 e1
    obtain rfl := e0
    obtain rfl := e1
    exact ⟨n0_0, n0_1, rfl, r0_0, r0_1⟩
theorem rd70 {H : Type} {enc : TypeId × Value → H} {w : World} {cs : List Value} (h : Rd enc Tryz.prog w 70 cs) : ∃ (n0 : Int) (n1 : Int) (n2 : Int) (n3 : Int) (n4 : Int) (n5 : Int) (n6 : Int) (n7 : Int) (n8 : Int) (n9 : Int) (xs10 : List T2) (ao10 : Option Addr) (b10 : Nat) (o10 : Nat) (cp10 : Nat) (n11 : Int) (n12 : Int) (n13 : Int), cs = [.int .u8 n0, .int .u8 n1, .int .u8 n2, .int .u16 n3, .int .u16 n4, .int .u16 n5, .int .u16 n6, .int .u16 n7, .int .u16 n8, .int .u16 n9, .slice ao10 xs10.length cp10, .int .u16 n11, .int .u16 n12, .int .u16 n13] ∧ ((0 ≤ n0 ∧ n0 ≤ 255)) ∧ ((0 ≤ n1 ∧ n1 ≤ 255)) ∧ ((0 ≤ n2 ∧ n2 ≤ 255)) ∧ ((0 ≤ n3 ∧ n3 ≤ 65535)) ∧ ((0 ≤ n4 ∧ n4 ≤ 65535)) ∧ ((0 ≤ n5 ∧ n5 ≤ 65535)) ∧ ((0 ≤ n6 ∧ n6 ≤ 65535)) ∧ ((0 ≤ n7 ∧ n7 ≤ 65535)) ∧ ((0 ≤ n8 ∧ n8 ≤ 65535)) ∧ ((0 ≤ n9 ∧ n9 ≤ 65535)) ∧ (xs10.length ≤ cp10 ∧ cp10 ≤ maxLen ∧ Sl encU2 2 w ao10 b10 o10 xs10 ∧ ∀ x ∈ xs10, okU2 x) ∧ ((0 ≤ n11 ∧ n11 ≤ 65535)) ∧ ((0 ≤ n12 ∧ n12 ≤ 65535)) ∧ ((0 ≤ n13 ∧ n13 ≤ 65535)) := by
  have hl : cs.length = 14 := (h.struct Tryz.underlying70).1.trans (by kernel_rfl)
  obtain ⟨n0_0, n1_0, n2_0, e0, r0_0, r1_0, r2_0⟩ := rd64 (h.fld Tryz.underlying70 0 rfl rfl rfl (by kernel_rfl : _ = 3))
  obtain ⟨n0_1, n1_1, n2_1, n3_1, n4_1, n5_1, e1, r0_1, r1_1, r2_1, r3_1, r4_1, r5_1⟩ := rd66 (h.fld Tryz.underlying70 1 rfl rfl rfl (by kernel_rfl : _ = 6))
  obtain ⟨n0_2, e2, r0_2⟩ := rd65 (h.fld Tryz.underlying70 2 rfl rfl rfl (by kernel_rfl : _ = 1))
  obtain ⟨xs0_3, ao0_3, b0_3, o0_3, cp0_3, e3, r0_3⟩ := rd67 (h.fld Tryz.underlying70 3 rfl rfl rfl (by kernel_rfl : _ = 1))
  obtain ⟨n0_4, e4, r0_4⟩ := rd65 (h.fld Tryz.underlying70 4 rfl rfl rfl (by kernel_rfl : _ = 1))
  obtain ⟨n0_5, n1_5, e5, r0_5, r1_5⟩ := rd68 (h.fld Tryz.underlying70 5 rfl rfl rfl (by kernel_rfl : _ = 2))
  match cs, hl, e0, e1, e2, e3, e4, e5 with
  | [c0, c1, c2, c3, c4, c5, c6, c7, c8, c9, c10, c11, c12, c13], _, e0, e1, e2, e3, e4, e5 =>
    simp at e0 e1 e2 e3 e4 e5
    obtain ⟨rfl, rfl, rfl⟩ := e0
    obtain ⟨rfl, rfl, rfl, rfl, rfl, rfl⟩ := e1
    obtain rfl := e2
    obtain rfl := e3
    obtain rfl := e4
    obtain ⟨rfl, rfl⟩ := e5
    exact ⟨n0_0, n1_0, n2_0, n0_1, n1_1, n2_1, n3_1, n4_1, n5_1, n0_2, xs0_3, ao0_3, b0_3, o0_3, cp0_3, n0_4, n0_5, n1_5, rfl, r0_0, r1_0, r2_0, r0_1, r1_1, r2_1, r3_1, r4_1, r5_1, r0_2, r0_3, r0_4, r0_5, r1_5⟩
theorem rd50 {H : Type} {enc : TypeId × Value → H} {w : World} {cs : List Value} (h : Rd enc Tryz.prog w 50 cs) : ∃ (xs0 : List HCl) (ao0 : Option Addr) (b0 : Nat) (o0 : Nat) (cp0 : Nat), cs = [.slice ao0 xs0.length cp0] ∧ (xs0.length ≤ cp0 ∧ cp0 ≤ maxLen ∧ Sl encHCl 14 w ao0 b0 o0 xs0 ∧ ∀ x ∈ xs0, Sl encU2 2 w x.ao x.g x.o x.ss ∧ x.ss.length ≤ 9223372036854775807 ∧ okCll x.v ∧ ∀ y ∈ x.ss, okU2 y) := by
  obtain ⟨ao, b, o, cap, xs, h1, h2, h3, h4, h5⟩ := h.sl (enc' := encHCl) (R := fun x => Sl encU2 2 w x.ao x.g x.o x.ss ∧ x.ss.length ≤ 9223372036854775807 ∧ okCll x.v ∧ ∀ y ∈ x.ss, okU2 y) (by kernel_rfl : _ = 14) (by decide) Tryz.underlying50 (fun cs hc => by
    obtain ⟨n0, n1, n2, n3, n4, n5, n6, n7, n8, n9, xs10, ao10, b10, o10, cp10, n11, n12, n13, e, r0, r1, r2, r3, r4, r5, r6, r7, r8, r9, r10, r11, r12, r13⟩ := rd70 hc
    exact ⟨⟨⟨n0, n1, n2, n3, n4, n5, n6, n7, n8, n9, n11, n12, n13⟩, xs10, ao10, b10, o10, cp10⟩, e, r10.2.2.1, Nat.le_trans r10.1 r10.2.1, ⟨r0, r1, r2, r3, r4, r5, r6, r7, r8, r9, r11, r12, r13⟩, r10.2.2.2⟩)
  exact ⟨xs, ao, b, o, cap, h1, h2, h3, h4, h5⟩

theorem rd51 {H : Type} {enc : TypeId × Value → H} {w : World} {cs : List Value} (h : Rd enc Tryz.prog w 51 cs) : ∃ (xs0 : List T2) (ao0 : Option Addr) (b0 : Nat) (o0 : Nat) (cp0 : Nat), cs = [.slice ao0 xs0.length cp0] ∧ (xs0.length ≤ cp0 ∧ cp0 ≤ maxLen ∧ Sl encX2 2 w ao0 b0 o0 xs0 ∧ ∀ x ∈ xs0, okX2 x) := by
  obtain ⟨ao, b, o, cap, xs, h1, h2, h3, h4, h5⟩ := h.sl (enc' := encX2) (R := fun x => okX2 x) (by kernel_rfl : _ = 2) (by decide) Tryz.underlying51 (fun cs hc => by
    obtain ⟨n0, n1, e, r0, r1⟩ := rd68 hc
    exact ⟨⟨n0, n1⟩, e, ⟨r0, r1⟩⟩)
  exact ⟨xs, ao, b, o, cap, h1, h2, h3, h4, h5⟩



theorem ownFreightCents : ownKnob Tryz.prog.godebug = none := by kernel_rfl
theorem laidOutFreightCents : laidOutB Tryz.prog = true := by kernel_rfl
set_option maxHeartbeats 1000000 in
set_option maxRecDepth 100000 in
theorem liftedFreightCents (os : Os) (started : os.Started) (H : Type) (enc : TypeId × Value → H) :
    ReturnsInHanded {} Tryz.checked os 5 .any (Rows.freightCentsSpec.pre6 enc Tryz.prog Tryz.f5 Rows.freightCentsRow.domain false) (Rows.freightCentsSpec.post enc Tryz.prog Tryz.f5 false true false false) := by
  refine returnsInHanded_of_change (C := Tryz.checked) ownFreightCents started (by kernel_rfl) Tryz.func5
    (ChangeSpec.witness6 (enc := enc) (C := Tryz.checked) false ⟨#[], #[.slice none 0 0, .slice none 0 0], []⟩ 8 (by kernel_rfl) (by kernel_rfl) (by kernel_rfl) (by kernel_rfl)) ?_
  intro W base args ds gs before hval0 hW hcnd _
  have hval : ∀ (j : Nat) t v, Tryz.f5.params[j]? = some t → args[j]? = some v → Value.okWide Tryz.prog W .any base t v := hval0
  have hW' := hW
  obtain ⟨p, q, hA0, hV, rfl, hfz, hnd⟩ := hW
  have hA : DataW.TrodAll enc Tryz.prog W 0 (fun _ => true) true Tryz.f5.params.toList args.toList ds p := hA0
  rw [Tryz.params5] at hA hval
  obtain ⟨v0, vs0, d0, ds0, p0, q0, hargs, rfl, rfl, h0, r0⟩ := trodAll_cons hA
  obtain ⟨v1, vs1, d1, ds1, p1, q1, rfl, rfl, rfl, h1, r1⟩ := trodAll_cons r0
  obtain ⟨rfl, rfl, rfl⟩ := trodAll_nil r1
  obtain rfl : args = #[v0, v1] := by cases args; simp_all
  obtain ⟨rfl, rfl⟩ := trodVars_none hV
  have k0 := h0
  have lt0 : ∀ x ∈ p0, x.block < W.heap.size := by obtain ⟨m, hm⟩ := k0; exact DataW.trod_lt m _ _ _ hm
  obtain ⟨aa0, ll0, cc0, rfl⟩ := okWide_slice Tryz.underlying50 (hval 0 50 v0 rfl rfl)
  obtain ⟨xs0_p0, ao0_p0, b0_p0, o0_p0, cp0_p0, ce0, f0_p0⟩ := rd50 (Rd.of h0)
  simp [Value.cells] at ce0
  obtain ⟨cx0, cy0, cz0⟩ := ce0
  subst cy0
  obtain rfl := cx0.symm
  obtain rfl := cz0.symm
  have k1 := h1
  have lt1 : ∀ x ∈ p1, x.block < W.heap.size := by obtain ⟨m, hm⟩ := k1; exact DataW.trod_lt m _ _ _ hm
  obtain ⟨aa1, ll1, cc1, rfl⟩ := okWide_slice Tryz.underlying51 (hval 1 51 v1 rfl rfl)
  obtain ⟨xs0_p1, ao0_p1, b0_p1, o0_p1, cp0_p1, ce1, f0_p1⟩ := rd51 (Rd.of h1)
  simp [Value.cells] at ce1
  obtain ⟨cx1, cy1, cz1⟩ := ce1
  subst cy1
  obtain rfl := cx1.symm
  obtain rfl := cz1.symm
  clear hA0 hval0
  refine Calls.mono (FreightCents_c xs0_p0 ao0_p0 b0_p0 o0_p0 cp0_p0 xs0_p1 ao0_p1 b0_p1 o0_p1 cp0_p1 W f0_p0.2.2.1 (Nat.le_trans f0_p0.1 f0_p0.2.1) f0_p0.2.2.2 f0_p1.2.2.1 (Nat.le_trans f0_p1.1 f0_p1.2.1) f0_p1.2.2.2) fun e W' hv => ?_
  obtain ⟨v, rfl, rfl, ext⟩ := hv
  have bel := Ext.below ext
  exact ⟨_, rfl, _, _, _, [], _, [], hW', trodAll_mk1 (shut_bool Tryz.underlying4 _), (trodAll_cons_mk (Below.trod laidOutFreightCents (by kernel_rfl) (of_decide_eq_true (by kernel_rfl)) k0 bel lt0) (trodAll_cons_mk (Below.trod laidOutFreightCents (by kernel_rfl) (of_decide_eq_true (by kernel_rfl)) k1 bel lt1) trodAll_mk0)), rfl, bel.frame _, fun h => by cases h⟩

theorem overFreightCents : Rows.freightCentsRow.holds Tryz.pinned (OpenSpec.ofChange Rows.freightCentsSpec) :=
  OpenClaim.holds_of_wide 5 Tryz.f5 rfl rfl rfl rfl rfl rfl rfl ⟨rfl, rfl, rfl, rfl, rfl⟩ rfl rfl rfl rfl rfl (by kernel_rfl) Tryz.func5 (by kernel_rfl)
    (of_decide_eq_true (by kernel_rfl)) (by unfold Func.isWrapper; first | (rw [if_pos (by decide +kernel)]; kernel_rfl) | (rw [if_neg (by decide +kernel)]; exact ⟨rfl, rfl⟩))
    (fun os started H enc _ => liftedFreightCents os started H enc)
theorem provedFreightCents : Rows.FreightCentsSaid := overFreightCents
#print axioms provedFreightCents
end Go.Proofs.YtgoajalaomakpaaGreat
