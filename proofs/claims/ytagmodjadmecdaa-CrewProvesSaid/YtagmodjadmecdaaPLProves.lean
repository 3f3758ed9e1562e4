/-
  The law CrewProves: the given statement holds. Conditions: none.
-/
import Derived.Test.YtagmodjadmecdaaRows
import Derived.WalkKit
import Derived.ProofKit
import Derived.OpenShut
import Derived.ShutString
import Derived.ChangeOld
import Derived.Below
import Derived.Test.YtagmodjadmecdaaPOpen
import Derived.Test.YtagmodjadmecdaaPA30
namespace Go.Proofs.Ytagmodjadmecdaa
open Go Go.ChangeShapes Go.WideShapes Go.ChangeAt Go.RowKit
set_option linter.unusedVariables false
theorem rd5 {H : Type} {enc : TypeId × Value → H} {w : World} {cs : List Value} (h : Rd enc Try.prog w 5 cs) : ∃ (n0 : Int), cs = [.int .u8 n0] ∧ ((0 ≤ n0 ∧ n0 ≤ 255)) := h.intu8 Try.underlying5
theorem rd22 {H : Type} {enc : TypeId × Value → H} {w : World} {cs : List Value} (h : Rd enc Try.prog w 22 cs) : ∃ (n0 : Int) (n1 : Int) (n2 : Int) (n3 : Int) (n4 : Int), cs = [.int .u8 n0, .int .u8 n1, .int .u8 n2, .int .u8 n3, .int .u8 n4] ∧ ((0 ≤ n0 ∧ n0 ≤ 255)) ∧ ((0 ≤ n1 ∧ n1 ≤ 255)) ∧ ((0 ≤ n2 ∧ n2 ≤ 255)) ∧ ((0 ≤ n3 ∧ n3 ≤ 255)) ∧ ((0 ≤ n4 ∧ n4 ≤ 255)) := by
  have hl : cs.length = 5 := (h.array Try.underlying22).1.trans (by kernel_rfl)
  obtain ⟨n0_0, e0, r0_0⟩ := rd5 (h.elt Try.underlying22 0 (by decide) (by kernel_rfl : _ = 1))
  obtain ⟨n0_1, e1, r0_1⟩ := rd5 (h.elt Try.underlying22 1 (by decide) (by kernel_rfl : _ = 1))
  obtain ⟨n0_2, e2, r0_2⟩ := rd5 (h.elt Try.underlying22 2 (by decide) (by kernel_rfl : _ = 1))
  obtain ⟨n0_3, e3, r0_3⟩ := rd5 (h.elt Try.underlying22 3 (by decide) (by kernel_rfl : _ = 1))
  obtain ⟨n0_4, e4, r0_4⟩ := rd5 (h.elt Try.underlying22 4 (by decide) (by kernel_rfl : _ = 1))
  match cs, hl, e0, e1, e2, e3, e4 with
  | [c0, c1, c2, c3, c4], _, e0, e1, e2, e3, e4 =>
    simp at e0 e1 e2 e3 e4
    obtain rfl := e0
    obtain rfl := e1
    obtain rfl := e2
    obtain rfl := e3
    obtain rfl := e4
    exact ⟨n0_0, n0_1, n0_2, n0_3, n0_4, rfl, r0_0, r0_1, r0_2, r0_3, r0_4⟩
theorem rd59 {H : Type} {enc : TypeId × Value → H} {w : World} {cs : List Value} (h : Rd enc Try.prog w 59 cs) : ∃ (xs0 : List U5) (ao0 : Option Addr) (b0 : Nat) (o0 : Nat) (cp0 : Nat), cs = [.slice ao0 xs0.length cp0] ∧ (xs0.length ≤ cp0 ∧ cp0 ≤ maxLen ∧ Sl encU5 5 w ao0 b0 o0 xs0 ∧ ∀ x ∈ xs0, okU5 x) := by
  obtain ⟨ao, b, o, cap, xs, h1, h2, h3, h4, h5⟩ := h.sl (enc' := encU5) (R := fun x => okU5 x) (by kernel_rfl : _ = 5) (by decide) Try.underlying59 (fun cs hc => by
    obtain ⟨n0, n1, n2, n3, n4, e, r0, r1, r2, r3, r4⟩ := rd22 hc
    exact ⟨⟨n0, n1, n2, n3, n4⟩, e, ⟨r0, r1, r2, r3, r4⟩⟩)
  exact ⟨xs, ao, b, o, cap, h1, h2, h3, h4, h5⟩

theorem rd61 {H : Type} {enc : TypeId × Value → H} {w : World} {cs : List Value} (h : Rd enc Try.prog w 61 cs) : ∃ (n0 : Int) (n1 : Int) (n2 : Int) (n3 : Int) (n4 : Int) (xs5 : List U5) (ao5 : Option Addr) (b5 : Nat) (o5 : Nat) (cp5 : Nat) (xs6 : List U5) (ao6 : Option Addr) (b6 : Nat) (o6 : Nat) (cp6 : Nat), cs = [.int .u8 n0, .int .u8 n1, .int .u8 n2, .int .u8 n3, .int .u8 n4, .slice ao5 xs5.length cp5, .slice ao6 xs6.length cp6] ∧ ((0 ≤ n0 ∧ n0 ≤ 255)) ∧ ((0 ≤ n1 ∧ n1 ≤ 255)) ∧ ((0 ≤ n2 ∧ n2 ≤ 255)) ∧ ((0 ≤ n3 ∧ n3 ≤ 255)) ∧ ((0 ≤ n4 ∧ n4 ≤ 255)) ∧ (xs5.length ≤ cp5 ∧ cp5 ≤ maxLen ∧ Sl encU5 5 w ao5 b5 o5 xs5 ∧ ∀ x ∈ xs5, okU5 x) ∧ (xs6.length ≤ cp6 ∧ cp6 ≤ maxLen ∧ Sl encU5 5 w ao6 b6 o6 xs6 ∧ ∀ x ∈ xs6, okU5 x) := by
  have hl : cs.length = 7 := (h.struct Try.underlying61).1.trans (by kernel_rfl)
  obtain ⟨n0_0, n1_0, n2_0, n3_0, n4_0, e0, r0_0, r1_0, r2_0, r3_0, r4_0⟩ := rd22 (h.fld Try.underlying61 0 rfl rfl rfl (by kernel_rfl : _ = 5))
  obtain ⟨xs0_1, ao0_1, b0_1, o0_1, cp0_1, e1, r0_1⟩ := rd59 (h.fld Try.underlying61 1 rfl rfl rfl (by kernel_rfl : _ = 1))
  obtain ⟨xs0_2, ao0_2, b0_2, o0_2, cp0_2, e2, r0_2⟩ := rd59 (h.fld Try.underlying61 2 rfl rfl rfl (by kernel_rfl : _ = 1))
  match cs, hl, e0, e1, e2 with
  | [c0, c1, c2, c3, c4, c5, c6], _, e0, e1, e2 =>
    simp at e0 e1 e2
    obtain ⟨rfl, rfl, rfl, rfl, rfl⟩ := e0
    obtain rfl := e1
    obtain rfl := e2
    exact ⟨n0_0, n1_0, n2_0, n3_0, n4_0, xs0_1, ao0_1, b0_1, o0_1, cp0_1, xs0_2, ao0_2, b0_2, o0_2, cp0_2, rfl, r0_0, r1_0, r2_0, r3_0, r4_0, r0_1, r0_2⟩


theorem ownCrewProves : ownKnob Try.prog.godebug = none := by kernel_rfl
theorem laidOutCrewProves : laidOutB Try.prog = true := by kernel_rfl
set_option maxHeartbeats 1000000 in
set_option maxRecDepth 100000 in
theorem liftedCrewProves (os : Os) (started : os.Started) (H : Type) (enc : TypeId × Value → H) :
    ReturnsInHanded {} Try.checked os 7 .any (Rows.crewProvesSpec.pre6 enc Try.prog Try.f7 Rows.crewProvesRow.domain false) (Rows.crewProvesSpec.post enc Try.prog Try.f7 false true false false) := by
  refine returnsInHanded_of_change (C := Try.checked) ownCrewProves started (by kernel_rfl) Try.func7
    (ChangeSpec.witness6 (enc := enc) (C := Try.checked) false ⟨#[], #[.agg #[.int .u8 0, .int .u8 0, .int .u8 0, .int .u8 0, .int .u8 0, .slice none 0 0, .slice none 0 0], .agg #[.int .u8 0, .int .u8 0, .int .u8 0, .int .u8 0, .int .u8 0], .int .u8 0], []⟩ 8 (by kernel_rfl) (by kernel_rfl) (by kernel_rfl) (by kernel_rfl)) ?_
  intro W base args ds gs before hval0 hW hcnd _
  have hval : ∀ (j : Nat) t v, Try.f7.params[j]? = some t → args[j]? = some v → Value.okWide Try.prog W .any base t v := hval0
  have hW' := hW
  obtain ⟨p, q, hA0, hV, rfl, hfz, hnd⟩ := hW
  have hA : DataW.TrodAll enc Try.prog W 0 (fun _ => true) true Try.f7.params.toList args.toList ds p := hA0
  rw [Try.params7] at hA hval
  obtain ⟨v0, vs0, d0, ds0, p0, q0, hargs, rfl, rfl, h0, r0⟩ := trodAll_cons hA
  obtain ⟨v1, vs1, d1, ds1, p1, q1, rfl, rfl, rfl, h1, r1⟩ := trodAll_cons r0
  obtain ⟨v2, vs2, d2, ds2, p2, q2, rfl, rfl, rfl, h2, r2⟩ := trodAll_cons r1
  obtain ⟨rfl, rfl, rfl⟩ := trodAll_nil r2
  obtain rfl : args = #[v0, v1, v2] := by cases args; simp_all
  obtain ⟨rfl, rfl⟩ := trodVars_none hV
  have k0 := h0
  have lt0 : ∀ x ∈ p0, x.block < W.heap.size := by obtain ⟨m, hm⟩ := k0; exact DataW.trod_lt m _ _ _ hm
  obtain ⟨cs0, rfl, -⟩ := okWide_struct Try.underlying61 (hval 0 61 v0 rfl rfl)
  obtain ⟨n0_p0, n1_p0, n2_p0, n3_p0, n4_p0, xs5_p0, ao5_p0, b5_p0, o5_p0, cp5_p0, xs6_p0, ao6_p0, b6_p0, o6_p0, cp6_p0, ce0, f0_p0, f1_p0, f2_p0, f3_p0, f4_p0, f5_p0, f6_p0⟩ := rd61 (Rd.of h0)
  obtain rfl : cs0 = #[.int .u8 n0_p0, .int .u8 n1_p0, .int .u8 n2_p0, .int .u8 n3_p0, .int .u8 n4_p0, .slice ao5_p0 xs5_p0.length cp5_p0, .slice ao6_p0 xs6_p0.length cp6_p0] := by cases cs0; simpa [Value.cells] using ce0
  have k1 := h1
  have lt1 : ∀ x ∈ p1, x.block < W.heap.size := by obtain ⟨m, hm⟩ := k1; exact DataW.trod_lt m _ _ _ hm
  obtain ⟨cs1, rfl, -⟩ := okWide_array Try.underlying22 (hval 1 22 v1 rfl rfl)
  obtain ⟨n0_p1, n1_p1, n2_p1, n3_p1, n4_p1, ce1, f0_p1, f1_p1, f2_p1, f3_p1, f4_p1⟩ := rd22 (Rd.of h1)
  obtain rfl : cs1 = #[.int .u8 n0_p1, .int .u8 n1_p1, .int .u8 n2_p1, .int .u8 n3_p1, .int .u8 n4_p1] := by cases cs1; simpa [Value.cells] using ce1
  have k2 := h2
  have lt2 : ∀ x ∈ p2, x.block < W.heap.size := by obtain ⟨m, hm⟩ := k2; exact DataW.trod_lt m _ _ _ hm
  obtain ⟨nn2, rfl⟩ := okWide_int Try.underlying5 (hval 2 5 v2 rfl rfl)
  obtain ⟨n0_p2, ce2, f0_p2⟩ := rd5 (Rd.of h2)
  simp [Value.cells] at ce2
  obtain rfl := ce2.symm
  clear hA0 hval0
  refine Calls.mono (CrewProves_c ⟨n0_p0, n1_p0, n2_p0, n3_p0, n4_p0⟩ xs5_p0 ao5_p0 b5_p0 o5_p0 cp5_p0 xs6_p0 ao6_p0 b6_p0 o6_p0 cp6_p0 ⟨n0_p1, n1_p1, n2_p1, n3_p1, n4_p1⟩ n0_p2 W ⟨f0_p0, f1_p0, f2_p0, f3_p0, f4_p0⟩ f5_p0.2.2.1 (Nat.le_trans f5_p0.1 f5_p0.2.1) f5_p0.2.2.2 f6_p0.2.2.1 (Nat.le_trans f6_p0.1 f6_p0.2.1) f6_p0.2.2.2 ⟨f0_p1, f1_p1, f2_p1, f3_p1, f4_p1⟩ f0_p2) fun e W' hv => ?_
  obtain ⟨v, rfl, rfl, ext⟩ := hv
  have bel := Ext.below ext
  exact ⟨_, rfl, _, _, _, [], _, [], hW', trodAll_mk1 (shut_bool Try.underlying4 _), (trodAll_cons_mk (Below.trod laidOutCrewProves (by kernel_rfl) (of_decide_eq_true (by kernel_rfl)) k0 bel lt0) (trodAll_cons_mk (Below.trod laidOutCrewProves (by kernel_rfl) (of_decide_eq_true (by kernel_rfl)) k1 bel lt1) (trodAll_cons_mk (Below.trod laidOutCrewProves (by kernel_rfl) (of_decide_eq_true (by kernel_rfl)) k2 bel lt2) trodAll_mk0))), rfl, bel.frame _, fun h => by cases h⟩

theorem overCrewProves : Rows.crewProvesRow.holds Try.pinned (OpenSpec.ofChange Rows.crewProvesSpec) :=
  OpenClaim.holds_of_wide 7 Try.f7 rfl rfl rfl rfl rfl rfl rfl ⟨rfl, rfl, rfl, rfl, rfl⟩ rfl rfl rfl rfl rfl (by kernel_rfl) Try.func7 (by kernel_rfl)
    (of_decide_eq_true (by kernel_rfl)) (by unfold Func.isWrapper; first | (rw [if_pos (by decide +kernel)]; kernel_rfl) | (rw [if_neg (by decide +kernel)]; exact ⟨rfl, rfl⟩))
    (fun os started H enc _ => liftedCrewProves os started H enc)
theorem provedCrewProves : Rows.CrewProvesSaid := overCrewProves
#print axioms provedCrewProves
end Go.Proofs.Ytagmodjadmecdaa
