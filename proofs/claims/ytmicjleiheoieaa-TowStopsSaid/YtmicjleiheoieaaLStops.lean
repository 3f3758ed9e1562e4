/-
  The law TowStops: the given statement holds. Conditions: none.
-/
import Derived.Test.YtmicjleiheoieaaRows
import Derived.WalkKit
import Derived.ProofKit
import Derived.OpenShut
import Derived.ShutString
import Derived.ChangeOld
import Derived.Below
import Derived.Test.YtmicjleiheoieaaOpen
import Derived.Test.YtmicjleiheoieaaA15
namespace Go.Proofs.Ytmicjleiheoieaa
open Go Go.ChangeShapes Go.WideShapes Go.ChangeAt Go.RowKit
set_option linter.unusedVariables false
theorem rd3 {H : Type} {enc : TypeId × Value → H} {w : World} {cs : List Value} (h : Rd enc Try.prog w 3 cs) : ∃ (n0 : Int), cs = [.int .i64 n0] ∧ ((-9223372036854775808 ≤ n0 ∧ n0 ≤ 9223372036854775807)) := h.int Try.underlying3
theorem rd82 {H : Type} {enc : TypeId × Value → H} {w : World} {cs : List Value} (h : Rd enc Try.prog w 82 cs) : ∃ (n0 : Int) (n1 : Int), cs = [.int .i64 n0, .int .i64 n1] ∧ ((-9223372036854775808 ≤ n0 ∧ n0 ≤ 9223372036854775807)) ∧ ((-9223372036854775808 ≤ n1 ∧ n1 ≤ 9223372036854775807)) := by
  have hl : cs.length = 2 := (h.array Try.underlying82).1.trans (by kernel_rfl)
  obtain ⟨n0_0, e0, r0_0⟩ := rd3 (h.elt Try.underlying82 0 (by decide) (by kernel_rfl : _ = 1))
  obtain ⟨n0_1, e1, r0_1⟩ := rd3 (h.elt Try.underlying82 1 (by decide) (by kernel_rfl : _ = 1))
  match cs, hl, e0, e1 with
  | [c0, c1], _, e0, e1 =>
    simp at e0 e1
    obtain rfl := e0
    obtain rfl := e1
    exact ⟨n0_0, n0_1, rfl, r0_0, r0_1⟩
theorem rd45 {H : Type} {enc : TypeId × Value → H} {w : World} {cs : List Value} (h : Rd enc Try.prog w 45 cs) : ∃ (n0 : Int) (n1 : Int), cs = [.int .i64 n0, .int .i64 n1] ∧ ((-9223372036854775808 ≤ n0 ∧ n0 ≤ 9223372036854775807)) ∧ ((-9223372036854775808 ≤ n1 ∧ n1 ≤ 9223372036854775807)) := by
  have hl : cs.length = 2 := (h.struct Try.underlying45).1.trans (by kernel_rfl)
  obtain ⟨n0_0, e0, r0_0⟩ := rd3 (h.fld Try.underlying45 0 rfl rfl rfl (by kernel_rfl : _ = 1))
  obtain ⟨n0_1, e1, r0_1⟩ := rd3 (h.fld Try.underlying45 1 rfl rfl rfl (by kernel_rfl : _ = 1))
  match cs, hl, e0, e1 with
  | [c0, c1], _, e0, e1 =>
    simp at e0 e1
    obtain rfl := e0
    obtain rfl := e1
    exact ⟨n0_0, n0_1, rfl, r0_0, r0_1⟩


theorem ownTowStops : ownKnob Try.prog.godebug = none := by kernel_rfl
theorem laidOutTowStops : laidOutB Try.prog = true := by kernel_rfl
set_option maxRecDepth 100000 in
theorem liftedTowStops (os : Os) (started : os.Started) (H : Type) (enc : TypeId × Value → H) :
    ReturnsInHanded {} Try.checked os 10 .any (Rows.towStopsSpec.pre6 enc Try.prog Try.f10 Rows.towStopsRow.domain false) (Rows.towStopsSpec.post enc Try.prog Try.f10 false true false false) := by
  refine returnsInHanded_of_change (C := Try.checked) ownTowStops started (by kernel_rfl) Try.func10
    (ChangeSpec.witness6 (enc := enc) (C := Try.checked) false ⟨#[], #[.agg #[.int .i64 0, .int .i64 0], .agg #[.int .i64 0, .int .i64 0], .agg #[.int .i64 0, .int .i64 0]], []⟩ 8 (by kernel_rfl) (by kernel_rfl) (by kernel_rfl) (by kernel_rfl)) ?_
  intro W base args ds gs before hval0 hW hcnd _
  have hval : ∀ (j : Nat) t v, Try.f10.params[j]? = some t → args[j]? = some v → Value.okWide Try.prog W .any base t v := hval0
  have hW' := hW
  obtain ⟨p, q, hA0, hV, rfl, hfz, hnd⟩ := hW
  have hA : DataW.TrodAll enc Try.prog W 0 (fun _ => true) true Try.f10.params.toList args.toList ds p := hA0
  rw [Try.params10] at hA hval
  obtain ⟨v0, vs0, d0, ds0, p0, q0, hargs, rfl, rfl, h0, r0⟩ := trodAll_cons hA
  obtain ⟨v1, vs1, d1, ds1, p1, q1, rfl, rfl, rfl, h1, r1⟩ := trodAll_cons r0
  obtain ⟨v2, vs2, d2, ds2, p2, q2, rfl, rfl, rfl, h2, r2⟩ := trodAll_cons r1
  obtain ⟨rfl, rfl, rfl⟩ := trodAll_nil r2
  obtain rfl : args = #[v0, v1, v2] := by cases args; simp_all
  obtain ⟨rfl, rfl⟩ := trodVars_none hV
  have k0 := h0
  have lt0 : ∀ x ∈ p0, x.block < W.heap.size := by obtain ⟨m, hm⟩ := k0; exact DataW.trod_lt m _ _ _ hm
  obtain ⟨cs0, rfl, -⟩ := okWide_array Try.underlying82 (hval 0 82 v0 rfl rfl)
  obtain ⟨n0_p0, n1_p0, ce0, f0_p0, f1_p0⟩ := rd82 (Rd.of h0)
  obtain rfl : cs0 = #[.int .i64 n0_p0, .int .i64 n1_p0] := by cases cs0; simpa [Value.cells] using ce0
  have k1 := h1
  have lt1 : ∀ x ∈ p1, x.block < W.heap.size := by obtain ⟨m, hm⟩ := k1; exact DataW.trod_lt m _ _ _ hm
  obtain ⟨cs1, rfl, -⟩ := okWide_struct Try.underlying45 (hval 1 45 v1 rfl rfl)
  obtain ⟨n0_p1, n1_p1, ce1, f0_p1, f1_p1⟩ := rd45 (Rd.of h1)
  obtain rfl : cs1 = #[.int .i64 n0_p1, .int .i64 n1_p1] := by cases cs1; simpa [Value.cells] using ce1
  have k2 := h2
  have lt2 : ∀ x ∈ p2, x.block < W.heap.size := by obtain ⟨m, hm⟩ := k2; exact DataW.trod_lt m _ _ _ hm
  obtain ⟨cs2, rfl, -⟩ := okWide_array Try.underlying82 (hval 2 82 v2 rfl rfl)
  obtain ⟨n0_p2, n1_p2, ce2, f0_p2, f1_p2⟩ := rd82 (Rd.of h2)
  obtain rfl : cs2 = #[.int .i64 n0_p2, .int .i64 n1_p2] := by cases cs2; simpa [Value.cells] using ce2
  clear hA0 hval0
  refine Calls.mono (TowStops_c n0_p0 n1_p0 n0_p1 n1_p1 n0_p2 n1_p2 W) fun e W' hv => ?_
  obtain ⟨v, rfl, rfl, ext⟩ := hv
  have bel := Ext.below ext
  exact ⟨_, rfl, _, _, _, [], _, [], hW', trodAll_mk1 (shut_bool Try.underlying4 _), (trodAll_cons_mk (Below.trod laidOutTowStops (by kernel_rfl) (of_decide_eq_true (by kernel_rfl)) k0 bel lt0) (trodAll_cons_mk (Below.trod laidOutTowStops (by kernel_rfl) (of_decide_eq_true (by kernel_rfl)) k1 bel lt1) (trodAll_cons_mk (Below.trod laidOutTowStops (by kernel_rfl) (of_decide_eq_true (by kernel_rfl)) k2 bel lt2) trodAll_mk0))), rfl, bel.frame _, fun h => by cases h⟩

theorem overTowStops : Rows.towStopsRow.holds Try.pinned (OpenSpec.ofChange Rows.towStopsSpec) :=
  OpenClaim.holds_of_wide 10 Try.f10 rfl rfl rfl rfl rfl rfl rfl ⟨rfl, rfl, rfl, rfl, rfl⟩ rfl rfl rfl rfl rfl (by kernel_rfl) Try.func10 (by kernel_rfl)
    (of_decide_eq_true (by kernel_rfl)) (by unfold Func.isWrapper; first | (rw [if_pos (by decide +kernel)]; kernel_rfl) | (rw [if_neg (by decide +kernel)]; exact ⟨rfl, rfl⟩))
    (fun os started H enc _ => liftedTowStops os started H enc)
theorem provedTowStops : Rows.TowStopsSaid := overTowStops
#print axioms provedTowStops
end Go.Proofs.Ytmicjleiheoieaa
