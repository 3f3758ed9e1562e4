/-
  The law TowBrakes: the given statement holds. Conditions: none.
-/
import Derived.Test.YtmicjleiheoieaaRows
import Derived.WalkKit
import Derived.ProofKit
import Derived.OpenShut
import Derived.ShutString
import Derived.ChangeOld
import Derived.Below
import Derived.Test.YtmicjleiheoieaaOpen
import Derived.Test.YtmicjleiheoieaaA18
namespace Go.Proofs.Ytmicjleiheoieaa
open Go Go.ChangeShapes Go.WideShapes Go.ChangeAt Go.RowKit
set_option linter.unusedVariables false
theorem rd57 {H : Type} {enc : TypeId × Value → H} {w : World} {cs : List Value} (h : Rd enc Try.prog w 57 cs) : ∃ (n0 : Int), cs = [.int .u16 n0] ∧ ((0 ≤ n0 ∧ n0 ≤ 65535)) := h.intu16 Try.underlying57
theorem rd5 {H : Type} {enc : TypeId × Value → H} {w : World} {cs : List Value} (h : Rd enc Try.prog w 5 cs) : ∃ (n0 : Int), cs = [.int .u8 n0] ∧ ((0 ≤ n0 ∧ n0 ≤ 255)) := h.intu8 Try.underlying5
theorem rd90 {H : Type} {enc : TypeId × Value → H} {w : World} {cs : List Value} (h : Rd enc Try.prog w 90 cs) : ∃ (n0 : Int) (n1 : Int), cs = [.int .u8 n0, .int .u8 n1] ∧ ((0 ≤ n0 ∧ n0 ≤ 255)) ∧ ((0 ≤ n1 ∧ n1 ≤ 255)) := by
  have hl : cs.length = 2 := (h.array Try.underlying90).1.trans (by kernel_rfl)
  obtain ⟨n0_0, e0, r0_0⟩ := rd5 (h.elt Try.underlying90 0 (by decide) (by kernel_rfl : _ = 1))
  obtain ⟨n0_1, e1, r0_1⟩ := rd5 (h.elt Try.underlying90 1 (by decide) (by kernel_rfl : _ = 1))
  match cs, hl, e0, e1 with
  | [c0, c1], _, e0, e1 =>
    simp at e0 e1
    obtain rfl := e0
    obtain rfl := e1
    exact ⟨n0_0, n0_1, rfl, r0_0, r0_1⟩
theorem rd92 {H : Type} {enc : TypeId × Value → H} {w : World} {cs : List Value} (h : Rd enc Try.prog w 92 cs) : ∃ (n0 : Int) (n1 : Int) (n2 : Int) (n3 : Int) (n4 : Int) (n5 : Int) (n6 : Int), cs = [.int .u16 n0, .int .u16 n1, .int .u8 n2, .int .u8 n3, .int .u8 n4, .int .u8 n5, .int .u16 n6] ∧ ((0 ≤ n0 ∧ n0 ≤ 65535)) ∧ ((0 ≤ n1 ∧ n1 ≤ 65535)) ∧ ((0 ≤ n2 ∧ n2 ≤ 255)) ∧ ((0 ≤ n3 ∧ n3 ≤ 255)) ∧ ((0 ≤ n4 ∧ n4 ≤ 255)) ∧ ((0 ≤ n5 ∧ n5 ≤ 255)) ∧ ((0 ≤ n6 ∧ n6 ≤ 65535)) := by
  have hl : cs.length = 7 := (h.struct Try.underlying92).1.trans (by kernel_rfl)
  obtain ⟨n0_0, e0, r0_0⟩ := rd57 (h.fld Try.underlying92 0 rfl rfl rfl (by kernel_rfl : _ = 1))
  obtain ⟨n0_1, e1, r0_1⟩ := rd57 (h.fld Try.underlying92 1 rfl rfl rfl (by kernel_rfl : _ = 1))
  obtain ⟨n0_2, n1_2, e2, r0_2, r1_2⟩ := rd90 (h.fld Try.underlying92 2 rfl rfl rfl (by kernel_rfl : _ = 2))
  obtain ⟨n0_3, n1_3, e3, r0_3, r1_3⟩ := rd90 (h.fld Try.underlying92 3 rfl rfl rfl (by kernel_rfl : _ = 2))
  obtain ⟨n0_4, e4, r0_4⟩ := rd57 (h.fld Try.underlying92 4 rfl rfl rfl (by kernel_rfl : _ = 1))
  match cs, hl, e0, e1, e2, e3, e4 with
  | [c0, c1, c2, c3, c4, c5, c6], _, e0, e1, e2, e3, e4 =>
    simp at e0 e1 e2 e3 e4
    obtain rfl := e0
    obtain rfl := e1
    obtain ⟨rfl, rfl⟩ := e2
    obtain ⟨rfl, rfl⟩ := e3
    obtain rfl := e4
    exact ⟨n0_0, n0_1, n0_2, n1_2, n0_3, n1_3, n0_4, rfl, r0_0, r0_1, r0_2, r1_2, r0_3, r1_3, r0_4⟩


theorem ownTowBrakes : ownKnob Try.prog.godebug = none := by kernel_rfl
theorem laidOutTowBrakes : laidOutB Try.prog = true := by kernel_rfl
set_option maxRecDepth 100000 in
theorem liftedTowBrakes (os : Os) (started : os.Started) (H : Type) (enc : TypeId × Value → H) :
    ReturnsInHanded {} Try.checked os 11 .any (Rows.towBrakesSpec.pre6 enc Try.prog Try.f11 Rows.towBrakesRow.domain false) (Rows.towBrakesSpec.post enc Try.prog Try.f11 false true false false) := by
  refine returnsInHanded_of_change (C := Try.checked) ownTowBrakes started (by kernel_rfl) Try.func11
    (ChangeSpec.witness6 (enc := enc) (C := Try.checked) false ⟨#[], #[.agg #[.int .u16 0, .int .u16 0, .int .u8 0, .int .u8 0, .int .u8 0, .int .u8 0, .int .u16 0]], []⟩ 8 (by kernel_rfl) (by kernel_rfl) (by kernel_rfl) (by kernel_rfl)) ?_
  intro W base args ds gs before hval0 hW hcnd _
  have hval : ∀ (j : Nat) t v, Try.f11.params[j]? = some t → args[j]? = some v → Value.okWide Try.prog W .any base t v := hval0
  have hW' := hW
  obtain ⟨p, q, hA0, hV, rfl, hfz, hnd⟩ := hW
  have hA : DataW.TrodAll enc Try.prog W 0 (fun _ => true) true Try.f11.params.toList args.toList ds p := hA0
  rw [Try.params11] at hA hval
  obtain ⟨v0, vs0, d0, ds0, p0, q0, hargs, rfl, rfl, h0, r0⟩ := trodAll_cons hA
  obtain ⟨rfl, rfl, rfl⟩ := trodAll_nil r0
  obtain rfl : args = #[v0] := by cases args; simp_all
  obtain ⟨rfl, rfl⟩ := trodVars_none hV
  have k0 := h0
  have lt0 : ∀ x ∈ p0, x.block < W.heap.size := by obtain ⟨m, hm⟩ := k0; exact DataW.trod_lt m _ _ _ hm
  obtain ⟨cs0, rfl, -⟩ := okWide_struct Try.underlying92 (hval 0 92 v0 rfl rfl)
  obtain ⟨n0_p0, n1_p0, n2_p0, n3_p0, n4_p0, n5_p0, n6_p0, ce0, f0_p0, f1_p0, f2_p0, f3_p0, f4_p0, f5_p0, f6_p0⟩ := rd92 (Rd.of h0)
  obtain rfl : cs0 = #[.int .u16 n0_p0, .int .u16 n1_p0, .int .u8 n2_p0, .int .u8 n3_p0, .int .u8 n4_p0, .int .u8 n5_p0, .int .u16 n6_p0] := by cases cs0; simpa [Value.cells] using ce0
  clear hA0 hval0
  refine Calls.mono (TowBrakes_c n0_p0 n1_p0 n2_p0 n3_p0 n4_p0 n5_p0 n6_p0 W f0_p0 f1_p0 f2_p0 f3_p0 f4_p0 f5_p0 f6_p0) fun e W' hv => ?_
  obtain ⟨v, rfl, rfl, ext⟩ := hv
  have bel := Ext.below ext
  exact ⟨_, rfl, _, _, _, [], _, [], hW', trodAll_mk1 (shut_bool Try.underlying4 _), (trodAll_cons_mk (Below.trod laidOutTowBrakes (by kernel_rfl) (of_decide_eq_true (by kernel_rfl)) k0 bel lt0) trodAll_mk0), rfl, bel.frame _, fun h => by cases h⟩

theorem overTowBrakes : Rows.towBrakesRow.holds Try.pinned (OpenSpec.ofChange Rows.towBrakesSpec) :=
  OpenClaim.holds_of_wide 11 Try.f11 rfl rfl rfl rfl rfl rfl rfl ⟨rfl, rfl, rfl, rfl, rfl⟩ rfl rfl rfl rfl rfl (by kernel_rfl) Try.func11 (by kernel_rfl)
    (of_decide_eq_true (by kernel_rfl)) (by unfold Func.isWrapper; first | (rw [if_pos (by decide +kernel)]; kernel_rfl) | (rw [if_neg (by decide +kernel)]; exact ⟨rfl, rfl⟩))
    (fun os started H enc _ => liftedTowBrakes os started H enc)
theorem provedTowBrakes : Rows.TowBrakesSaid := overTowBrakes
#print axioms provedTowBrakes
end Go.Proofs.Ytmicjleiheoieaa
