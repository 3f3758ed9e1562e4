/-
  The law FreightNoBetter: the given statement holds. Conditions: none.
-/
import Derived.Test.YtgoajalaomakpaaGreatRows
import Derived.WalkKit
import Derived.ProofKit
import Derived.OpenShut
import Derived.ShutString
import Derived.ChangeOld
import Derived.Below
import Derived.Test.YtgoajalaomakpaaGreatBK17
namespace Go.Proofs.YtgoajalaomakpaaGreat
open Go Go.ChangeShapes Go.WideShapes Go.ChangeAt Go.RowKit
set_option linter.unusedVariables false
theorem rd5 {H : Type} {enc : TypeId × Value → H} {w : World} {cs : List Value} (h : Rd enc Tryz.prog w 5 cs) : ∃ (n0 : Int), cs = [.int .u8 n0] ∧ ((0 ≤ n0 ∧ n0 ≤ 255)) := h.intu8 Tryz.underlying5
theorem rd99 {H : Type} {enc : TypeId × Value → H} {w : World} {cs : List Value} (h : Rd enc Tryz.prog w 99 cs) : ∃ (n0 : Int) (n1 : Int) (n2 : Int) (n3 : Int) (n4 : Int), cs = [.int .u8 n0, .int .u8 n1, .int .u8 n2, .int .u8 n3, .int .u8 n4] ∧ ((0 ≤ n0 ∧ n0 ≤ 255)) ∧ ((0 ≤ n1 ∧ n1 ≤ 255)) ∧ ((0 ≤ n2 ∧ n2 ≤ 255)) ∧ ((0 ≤ n3 ∧ n3 ≤ 255)) ∧ ((0 ≤ n4 ∧ n4 ≤ 255)) := by
  have hl : cs.length = 5 := (h.array Tryz.underlying99).1.trans (by kernel_rfl)
  obtain ⟨n0_0, e0, r0_0⟩ := rd5 (h.elt Tryz.underlying99 0 (by decide) (by kernel_rfl : _ = 1))
  obtain ⟨n0_1, e1, r0_1⟩ := rd5 (h.elt Tryz.underlying99 1 (by decide) (by kernel_rfl : _ = 1))
  obtain ⟨n0_2, e2, r0_2⟩ := rd5 (h.elt Tryz.underlying99 2 (by decide) (by kernel_rfl : _ = 1))
  obtain ⟨n0_3, e3, r0_3⟩ := rd5 (h.elt Tryz.underlying99 3 (by decide) (by kernel_rfl : _ = 1))
  obtain ⟨n0_4, e4, r0_4⟩ := rd5 (h.elt Tryz.underlying99 4 (by decide) (by kernel_rfl : _ = 1))
  match cs, hl, e0, e1, e2, e3, e4 with
  | [c0, c1, c2, c3, c4], _, e0, e1, e2, e3, e4 =>
    simp at e0 e1 e2 e3 e4
    obtain rfl := e0
    obtain rfl := e1
    obtain rfl := e2
    obtain rfl := e3
    obtain rfl := e4
    exact ⟨n0_0, n0_1, n0_2, n0_3, n0_4, rfl, r0_0, r0_1, r0_2, r0_3, r0_4⟩
theorem rd94 {H : Type} {enc : TypeId × Value → H} {w : World} {cs : List Value} (h : Rd enc Tryz.prog w 94 cs) : ∃ (xs0 : List W5) (ao0 : Option Addr) (b0 : Nat) (o0 : Nat) (cp0 : Nat), cs = [.slice ao0 xs0.length cp0] ∧ (xs0.length ≤ cp0 ∧ cp0 ≤ maxLen ∧ Sl encW5 5 w ao0 b0 o0 xs0 ∧ ∀ x ∈ xs0, okW5 x) := by
  obtain ⟨ao, b, o, cap, xs, h1, h2, h3, h4, h5⟩ := h.sl (enc' := encW5) (R := fun x => okW5 x) (by kernel_rfl : _ = 5) (by decide) Tryz.underlying94 (fun cs hc => by
    obtain ⟨n0, n1, n2, n3, n4, e, r0, r1, r2, r3, r4⟩ := rd99 hc
    exact ⟨⟨n0, n1, n2, n3, n4⟩, e, ⟨r0, r1, r2, r3, r4⟩⟩)
  exact ⟨xs, ao, b, o, cap, h1, h2, h3, h4, h5⟩

theorem rd95 {H : Type} {enc : TypeId × Value → H} {w : World} {cs : List Value} (h : Rd enc Tryz.prog w 95 cs) : ∃ (n0 : Int) (n1 : Int) (n2 : Int) (n3 : Int), cs = [.int .u8 n0, .int .u8 n1, .int .u8 n2, .int .u8 n3] ∧ ((0 ≤ n0 ∧ n0 ≤ 255)) ∧ ((0 ≤ n1 ∧ n1 ≤ 255)) ∧ ((0 ≤ n2 ∧ n2 ≤ 255)) ∧ ((0 ≤ n3 ∧ n3 ≤ 255)) := by
  have hl : cs.length = 4 := (h.array Tryz.underlying95).1.trans (by kernel_rfl)
  obtain ⟨n0_0, e0, r0_0⟩ := rd5 (h.elt Tryz.underlying95 0 (by decide) (by kernel_rfl : _ = 1))
  obtain ⟨n0_1, e1, r0_1⟩ := rd5 (h.elt Tryz.underlying95 1 (by decide) (by kernel_rfl : _ = 1))
  obtain ⟨n0_2, e2, r0_2⟩ := rd5 (h.elt Tryz.underlying95 2 (by decide) (by kernel_rfl : _ = 1))
  obtain ⟨n0_3, e3, r0_3⟩ := rd5 (h.elt Tryz.underlying95 3 (by decide) (by kernel_rfl : _ = 1))
  match cs, hl, e0, e1, e2, e3 with
  | [c0, c1, c2, c3], _, e0, e1, e2, e3 =>
    simp at e0 e1 e2 e3
    obtain rfl := e0
    obtain rfl := e1
    obtain rfl := e2
    obtain rfl := e3
    exact ⟨n0_0, n0_1, n0_2, n0_3, rfl, r0_0, r0_1, r0_2, r0_3⟩
theorem rd96 {H : Type} {enc : TypeId × Value → H} {w : World} {cs : List Value} (h : Rd enc Tryz.prog w 96 cs) : ∃ (xs0 : List Int) (ao0 : Option Addr) (b0 : Nat) (o0 : Nat) (cp0 : Nat), cs = [.slice ao0 xs0.length cp0] ∧ (xs0.length ≤ cp0 ∧ cp0 ≤ maxLen ∧ Sl encU8 1 w ao0 b0 o0 xs0 ∧ ∀ x ∈ xs0, (0 ≤ x ∧ x ≤ 255)) := by
  obtain ⟨ao, b, o, cap, xs, h1, h2, h3, h4, h5⟩ := h.sl (enc' := encU8) (R := fun x => (0 ≤ x ∧ x ≤ 255)) (by kernel_rfl : _ = 1) (by decide) Tryz.underlying96 (fun cs hc => by
    obtain ⟨n0, e, r0⟩ := rd5 hc
    exact ⟨n0, e, r0⟩)
  exact ⟨xs, ao, b, o, cap, h1, h2, h3, h4, h5⟩

theorem rd98 {H : Type} {enc : TypeId × Value → H} {w : World} {cs : List Value} (h : Rd enc Tryz.prog w 98 cs) : ∃ (xs0 : List W5) (ao0 : Option Addr) (b0 : Nat) (o0 : Nat) (cp0 : Nat) (n1 : Int) (n2 : Int) (n3 : Int) (n4 : Int) (xs5 : List Int) (ao5 : Option Addr) (b5 : Nat) (o5 : Nat) (cp5 : Nat), cs = [.slice ao0 xs0.length cp0, .int .u8 n1, .int .u8 n2, .int .u8 n3, .int .u8 n4, .slice ao5 xs5.length cp5] ∧ (xs0.length ≤ cp0 ∧ cp0 ≤ maxLen ∧ Sl encW5 5 w ao0 b0 o0 xs0 ∧ ∀ x ∈ xs0, okW5 x) ∧ ((0 ≤ n1 ∧ n1 ≤ 255)) ∧ ((0 ≤ n2 ∧ n2 ≤ 255)) ∧ ((0 ≤ n3 ∧ n3 ≤ 255)) ∧ ((0 ≤ n4 ∧ n4 ≤ 255)) ∧ (xs5.length ≤ cp5 ∧ cp5 ≤ maxLen ∧ Sl encU8 1 w ao5 b5 o5 xs5 ∧ ∀ x ∈ xs5, (0 ≤ x ∧ x ≤ 255)) := by
  have hl : cs.length = 6 := (h.struct Tryz.underlying98).1.trans (by kernel_rfl)
  obtain ⟨xs0_0, ao0_0, b0_0, o0_0, cp0_0, e0, r0_0⟩ := rd94 (h.fld Tryz.underlying98 0 rfl rfl rfl (by kernel_rfl : _ = 1))
  obtain ⟨n0_1, n1_1, n2_1, n3_1, e1, r0_1, r1_1, r2_1, r3_1⟩ := rd95 (h.fld Tryz.underlying98 1 rfl rfl rfl (by kernel_rfl : _ = 4))
  obtain ⟨xs0_2, ao0_2, b0_2, o0_2, cp0_2, e2, r0_2⟩ := rd96 (h.fld Tryz.underlying98 2 rfl rfl rfl (by kernel_rfl : _ = 1))
  match cs, hl, e0, e1, e2 with
  | [c0, c1, c2, c3, c4, c5], _, e0, e1, e2 =>
    simp at e0 e1 e2
    obtain rfl := e0
    obtain ⟨rfl, rfl, rfl, rfl⟩ := e1
    obtain rfl := e2
    exact ⟨xs0_0, ao0_0, b0_0, o0_0, cp0_0, n0_1, n1_1, n2_1, n3_1, xs0_2, ao0_2, b0_2, o0_2, cp0_2, rfl, r0_0, r0_1, r1_1, r2_1, r3_1, r0_2⟩


theorem ownFreightNoBetter : ownKnob Tryz.prog.godebug = none := by kernel_rfl
theorem laidOutFreightNoBetter : laidOutB Tryz.prog = true := by kernel_rfl
set_option maxHeartbeats 1000000 in
set_option maxRecDepth 100000 in
theorem liftedFreightNoBetter (os : Os) (started : os.Started) (H : Type) (enc : TypeId × Value → H) :
    ReturnsInHanded {} Tryz.checked os 8 .any (Rows.freightNoBetterSpec.pre6 enc Tryz.prog Tryz.f8 Rows.freightNoBetterRow.domain false) (Rows.freightNoBetterSpec.post enc Tryz.prog Tryz.f8 false true false false) := by
  refine returnsInHanded_of_change (C := Tryz.checked) ownFreightNoBetter started (by kernel_rfl) Tryz.func8
    (ChangeSpec.witness6 (enc := enc) (C := Tryz.checked) false ⟨#[], #[.agg #[.slice none 0 0, .int .u8 0, .int .u8 0, .int .u8 0, .int .u8 0, .slice none 0 0]], []⟩ 8 (by kernel_rfl) (by kernel_rfl) (by kernel_rfl) (by kernel_rfl)) ?_
  intro W base args ds gs before hval0 hW hcnd _
  have hval : ∀ (j : Nat) t v, Tryz.f8.params[j]? = some t → args[j]? = some v → Value.okWide Tryz.prog W .any base t v := hval0
  have hW' := hW
  obtain ⟨p, q, hA0, hV, rfl, hfz, hnd⟩ := hW
  have hA : DataW.TrodAll enc Tryz.prog W 0 (fun _ => true) true Tryz.f8.params.toList args.toList ds p := hA0
  rw [Tryz.params8] at hA hval
  obtain ⟨v0, vs0, d0, ds0, p0, q0, hargs, rfl, rfl, h0, r0⟩ := trodAll_cons hA
  obtain ⟨rfl, rfl, rfl⟩ := trodAll_nil r0
  obtain rfl : args = #[v0] := by cases args; simp_all
  obtain ⟨rfl, rfl⟩ := trodVars_none hV
  have k0 := h0
  have lt0 : ∀ x ∈ p0, x.block < W.heap.size := by obtain ⟨m, hm⟩ := k0; exact DataW.trod_lt m _ _ _ hm
  obtain ⟨cs0, rfl, -⟩ := okWide_struct Tryz.underlying98 (hval 0 98 v0 rfl rfl)
  obtain ⟨xs0_p0, ao0_p0, b0_p0, o0_p0, cp0_p0, n1_p0, n2_p0, n3_p0, n4_p0, xs5_p0, ao5_p0, b5_p0, o5_p0, cp5_p0, ce0, f0_p0, f1_p0, f2_p0, f3_p0, f4_p0, f5_p0⟩ := rd98 (Rd.of h0)
  obtain rfl : cs0 = #[.slice ao0_p0 xs0_p0.length cp0_p0, .int .u8 n1_p0, .int .u8 n2_p0, .int .u8 n3_p0, .int .u8 n4_p0, .slice ao5_p0 xs5_p0.length cp5_p0] := by cases cs0; simpa [Value.cells] using ce0
  clear hA0 hval0
  refine Calls.mono (FreightNoBetter_c xs0_p0 ao0_p0 b0_p0 o0_p0 cp0_p0 ⟨n1_p0, n2_p0, n3_p0, n4_p0, 0⟩ xs5_p0 ao5_p0 b5_p0 o5_p0 cp5_p0 W f0_p0.2.2.1 (Nat.le_trans f0_p0.1 f0_p0.2.1) f0_p0.2.2.2 ⟨f1_p0, f2_p0, f3_p0, f4_p0⟩ f5_p0.2.2.1 (Nat.le_trans f5_p0.1 f5_p0.2.1) f5_p0.2.2.2) fun e W' hv => ?_
  obtain ⟨v, rfl, rfl, ext⟩ := hv
  have bel := Ext.below ext
  exact ⟨_, rfl, _, _, _, [], _, [], hW', trodAll_mk1 (shut_bool Tryz.underlying4 _), (trodAll_cons_mk (Below.trod laidOutFreightNoBetter (by kernel_rfl) (of_decide_eq_true (by kernel_rfl)) k0 bel lt0) trodAll_mk0), rfl, bel.frame _, fun h => by cases h⟩

theorem overFreightNoBetter : Rows.freightNoBetterRow.holds Tryz.pinned (OpenSpec.ofChange Rows.freightNoBetterSpec) :=
  OpenClaim.holds_of_wide 8 Tryz.f8 rfl rfl rfl rfl rfl rfl rfl ⟨rfl, rfl, rfl, rfl, rfl⟩ rfl rfl rfl rfl rfl (by kernel_rfl) Tryz.func8 (by kernel_rfl)
    (of_decide_eq_true (by kernel_rfl)) (by unfold Func.isWrapper; first | (rw [if_pos (by decide +kernel)]; kernel_rfl) | (rw [if_neg (by decide +kernel)]; exact ⟨rfl, rfl⟩))
    (fun os started H enc _ => liftedFreightNoBetter os started H enc)
theorem provedFreightNoBetter : Rows.FreightNoBetterSaid := overFreightNoBetter
#print axioms provedFreightNoBetter
end Go.Proofs.YtgoajalaomakpaaGreat
