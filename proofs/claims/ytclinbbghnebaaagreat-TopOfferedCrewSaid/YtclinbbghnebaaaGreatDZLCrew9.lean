/-
  The law TopOfferedCrew: the given statement holds. Conditions: none.
-/
import Derived.Test.YtclinbbghnebaaaGreatRows
import Derived.WalkKit
import Derived.ProofKit
import Derived.OpenShut
import Derived.ShutString
import Derived.ChangeOld
import Derived.Below
import Derived.Test.YtclinbbghnebaaaGreatDK18
namespace Go.Proofs.YtclinbbghnebaaaGreat
open Go Go.ChangeShapes Go.WideShapes Go.ChangeAt Go.RowKit
set_option linter.unusedVariables false
theorem rd3 {H : Type} {enc : TypeId × Value → H} {w : World} {cs : List Value} (h : Rd enc Tryz.prog w 3 cs) : ∃ (n0 : Int), cs = [.int .i64 n0] ∧ ((-9223372036854775808 ≤ n0 ∧ n0 ≤ 9223372036854775807)) := h.int Tryz.underlying3
theorem rd68 {H : Type} {enc : TypeId × Value → H} {w : World} {cs : List Value} (h : Rd enc Tryz.prog w 68 cs) : ∃ (n0 : Int) (n1 : Int) (n2 : Int) (n3 : Int) (n4 : Int), cs = [.int .i64 n0, .int .i64 n1, .int .i64 n2, .int .i64 n3, .int .i64 n4] ∧ ((-9223372036854775808 ≤ n0 ∧ n0 ≤ 9223372036854775807)) ∧ ((-9223372036854775808 ≤ n1 ∧ n1 ≤ 9223372036854775807)) ∧ ((-9223372036854775808 ≤ n2 ∧ n2 ≤ 9223372036854775807)) ∧ ((-9223372036854775808 ≤ n3 ∧ n3 ≤ 9223372036854775807)) ∧ ((-9223372036854775808 ≤ n4 ∧ n4 ≤ 9223372036854775807)) := by
  have hl : cs.length = 5 := (h.struct Tryz.underlying68).1.trans (by kernel_rfl)
  obtain ⟨n0_0, e0, r0_0⟩ := rd3 (h.fld Tryz.underlying68 0 rfl rfl rfl (by kernel_rfl : _ = 1))
  obtain ⟨n0_1, e1, r0_1⟩ := rd3 (h.fld Tryz.underlying68 1 rfl rfl rfl (by kernel_rfl : _ = 1))
  obtain ⟨n0_2, e2, r0_2⟩ := rd3 (h.fld Tryz.underlying68 2 rfl rfl rfl (by kernel_rfl : _ = 1))
  obtain ⟨n0_3, e3, r0_3⟩ := rd3 (h.fld Tryz.underlying68 3 rfl rfl rfl (by kernel_rfl : _ = 1))
  obtain ⟨n0_4, e4, r0_4⟩ := rd3 (h.fld Tryz.underlying68 4 rfl rfl rfl (by kernel_rfl : _ = 1))
  match cs, hl, e0, e1, e2, e3, e4 with
  | [c0, c1, c2, c3, c4], _, e0, e1, e2, e3, e4 =>
    simp at e0 e1 e2 e3 e4
    obtain rfl := e0
    obtain rfl := e1
    obtain rfl := e2
    obtain rfl := e3
    obtain rfl := e4
    exact ⟨n0_0, n0_1, n0_2, n0_3, n0_4, rfl, r0_0, r0_1, r0_2, r0_3, r0_4⟩
theorem rd66 {H : Type} {enc : TypeId × Value → H} {w : World} {cs : List Value} (h : Rd enc Tryz.prog w 66 cs) : ∃ (xs0 : List Off) (ao0 : Option Addr) (b0 : Nat) (o0 : Nat) (cp0 : Nat), cs = [.slice ao0 xs0.length cp0] ∧ (xs0.length ≤ cp0 ∧ cp0 ≤ maxLen ∧ Sl encOff 5 w ao0 b0 o0 xs0 ∧ ∀ x ∈ xs0, True) := by
  obtain ⟨ao, b, o, cap, xs, h1, h2, h3, h4, h5⟩ := h.sl (enc' := encOff) (R := fun x => True) (by kernel_rfl : _ = 5) (by decide) Tryz.underlying66 (fun cs hc => by
    obtain ⟨n0, n1, n2, n3, n4, e, r0, r1, r2, r3, r4⟩ := rd68 hc
    exact ⟨⟨n0, n1, n2, n3, n4⟩, e, trivial⟩)
  exact ⟨xs, ao, b, o, cap, h1, h2, h3, h4, h5⟩

theorem rd95 {H : Type} {enc : TypeId × Value → H} {w : World} {cs : List Value} (h : Rd enc Tryz.prog w 95 cs) : ∃ (n0 : Int) (n1 : Int) (n2 : Int) (n3 : Int), cs = [.int .i64 n0, .int .i64 n1, .int .i64 n2, .int .i64 n3] ∧ ((-9223372036854775808 ≤ n0 ∧ n0 ≤ 9223372036854775807)) ∧ ((-9223372036854775808 ≤ n1 ∧ n1 ≤ 9223372036854775807)) ∧ ((-9223372036854775808 ≤ n2 ∧ n2 ≤ 9223372036854775807)) ∧ ((-9223372036854775808 ≤ n3 ∧ n3 ≤ 9223372036854775807)) := by
  have hl : cs.length = 4 := (h.array Tryz.underlying95).1.trans (by kernel_rfl)
  obtain ⟨n0_0, e0, r0_0⟩ := rd3 (h.elt Tryz.underlying95 0 (by decide) (by kernel_rfl : _ = 1))
  obtain ⟨n0_1, e1, r0_1⟩ := rd3 (h.elt Tryz.underlying95 1 (by decide) (by kernel_rfl : _ = 1))
  obtain ⟨n0_2, e2, r0_2⟩ := rd3 (h.elt Tryz.underlying95 2 (by decide) (by kernel_rfl : _ = 1))
  obtain ⟨n0_3, e3, r0_3⟩ := rd3 (h.elt Tryz.underlying95 3 (by decide) (by kernel_rfl : _ = 1))
  match cs, hl, e0, e1, e2, e3 with
  | [c0, c1, c2, c3], _, e0, e1, e2, e3 =>
    simp at e0 e1 e2 e3
    obtain rfl := e0
    obtain rfl := e1
    obtain rfl := e2
    obtain rfl := e3
    exact ⟨n0_0, n0_1, n0_2, n0_3, rfl, r0_0, r0_1, r0_2, r0_3⟩


theorem ownTopOfferedCrew : ownKnob Tryz.prog.godebug = none := by kernel_rfl
theorem laidOutTopOfferedCrew : laidOutB Tryz.prog = true := by kernel_rfl
set_option maxHeartbeats 1000000 in
set_option maxRecDepth 100000 in
theorem liftedTopOfferedCrew (os : Os) (started : os.Started) (H : Type) (enc : TypeId × Value → H) :
    ReturnsInHanded {} Tryz.checked os 6 .any (Rows.topOfferedCrewSpec.pre6 enc Tryz.prog Tryz.f6 Rows.topOfferedCrewRow.domain false) (Rows.topOfferedCrewSpec.post enc Tryz.prog Tryz.f6 false true false false) := by
  refine returnsInHanded_of_change (C := Tryz.checked) ownTopOfferedCrew started (by kernel_rfl) Tryz.func6
    (ChangeSpec.witness6 (enc := enc) (C := Tryz.checked) false ⟨#[], #[.slice none 0 0, .agg #[.int .i64 0, .int .i64 0, .int .i64 0, .int .i64 0]], []⟩ 8 (by kernel_rfl) (by kernel_rfl) (by kernel_rfl) (by kernel_rfl)) ?_
  intro W base args ds gs before hval0 hW hcnd _
  have hval : ∀ (j : Nat) t v, Tryz.f6.params[j]? = some t → args[j]? = some v → Value.okWide Tryz.prog W .any base t v := hval0
  have hW' := hW
  obtain ⟨p, q, hA0, hV, rfl, hfz, hnd⟩ := hW
  have hA : DataW.TrodAll enc Tryz.prog W 0 (fun _ => true) true Tryz.f6.params.toList args.toList ds p := hA0
  rw [Tryz.params6] at hA hval
  obtain ⟨v0, vs0, d0, ds0, p0, q0, hargs, rfl, rfl, h0, r0⟩ := trodAll_cons hA
  obtain ⟨v1, vs1, d1, ds1, p1, q1, rfl, rfl, rfl, h1, r1⟩ := trodAll_cons r0
  obtain ⟨rfl, rfl, rfl⟩ := trodAll_nil r1
  obtain rfl : args = #[v0, v1] := by cases args; simp_all
  obtain ⟨rfl, rfl⟩ := trodVars_none hV
  have k0 := h0
  have lt0 : ∀ x ∈ p0, x.block < W.heap.size := by obtain ⟨m, hm⟩ := k0; exact DataW.trod_lt m _ _ _ hm
  obtain ⟨aa0, ll0, cc0, rfl⟩ := okWide_slice Tryz.underlying66 (hval 0 66 v0 rfl rfl)
  obtain ⟨xs0_p0, ao0_p0, b0_p0, o0_p0, cp0_p0, ce0, f0_p0⟩ := rd66 (Rd.of h0)
  simp [Value.cells] at ce0
  obtain ⟨cx0, cy0, cz0⟩ := ce0
  subst cy0
  obtain rfl := cx0.symm
  obtain rfl := cz0.symm
  have k1 := h1
  have lt1 : ∀ x ∈ p1, x.block < W.heap.size := by obtain ⟨m, hm⟩ := k1; exact DataW.trod_lt m _ _ _ hm
  obtain ⟨cs1, rfl, -⟩ := okWide_array Tryz.underlying95 (hval 1 95 v1 rfl rfl)
  obtain ⟨n0_p1, n1_p1, n2_p1, n3_p1, ce1, f0_p1, f1_p1, f2_p1, f3_p1⟩ := rd95 (Rd.of h1)
  obtain rfl : cs1 = #[.int .i64 n0_p1, .int .i64 n1_p1, .int .i64 n2_p1, .int .i64 n3_p1] := by cases cs1; simpa [Value.cells] using ce1
  clear hA0 hval0
  refine Calls.mono (TopOfferedCrew_c xs0_p0 ao0_p0 b0_p0 o0_p0 cp0_p0 n0_p1 n1_p1 n2_p1 n3_p1 W f0_p0.2.2.1 (Nat.le_trans f0_p0.1 f0_p0.2.1) ⟨f0_p1, f1_p1, f2_p1, f3_p1⟩) fun e W' hv => ?_
  obtain ⟨v, rfl, rfl, ext⟩ := hv
  have bel := Ext.below ext
  exact ⟨_, rfl, _, _, _, [], _, [], hW', trodAll_mk1 (shut_bool Tryz.underlying4 _), (trodAll_cons_mk (Below.trod laidOutTopOfferedCrew (by kernel_rfl) (of_decide_eq_true (by kernel_rfl)) k0 bel lt0) (trodAll_cons_mk (Below.trod laidOutTopOfferedCrew (by kernel_rfl) (of_decide_eq_true (by kernel_rfl)) k1 bel lt1) trodAll_mk0)), rfl, bel.frame _, fun h => by cases h⟩

theorem overTopOfferedCrew : Rows.topOfferedCrewRow.holds Tryz.pinned (OpenSpec.ofChange Rows.topOfferedCrewSpec) :=
  OpenClaim.holds_of_wide 6 Tryz.f6 rfl rfl rfl rfl rfl rfl rfl ⟨rfl, rfl, rfl, rfl, rfl⟩ rfl rfl rfl rfl rfl (by kernel_rfl) Tryz.func6 (by kernel_rfl)
    (of_decide_eq_true (by kernel_rfl)) (by unfold Func.isWrapper; first | (rw [if_pos (by decide +kernel)]; kernel_rfl) | (rw [if_neg (by decide +kernel)]; exact ⟨rfl, rfl⟩))
    (fun os started H enc _ => liftedTopOfferedCrew os started H enc)
theorem provedTopOfferedCrew : Rows.TopOfferedCrewSaid := overTopOfferedCrew
#print axioms provedTopOfferedCrew
end Go.Proofs.YtclinbbghnebaaaGreat
