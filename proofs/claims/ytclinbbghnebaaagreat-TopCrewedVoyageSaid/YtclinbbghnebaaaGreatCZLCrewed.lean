/-
  The law TopCrewedVoyage: the given statement holds. Conditions: none.
-/
import Derived.Test.YtclinbbghnebaaaGreatRows
import Derived.WalkKit
import Derived.ProofKit
import Derived.OpenShut
import Derived.ShutString
import Derived.ChangeOld
import Derived.Below
import Derived.Test.YtclinbbghnebaaaGreatCK22
namespace Go.Proofs.YtclinbbghnebaaaGreat
open Go Go.ChangeShapes Go.WideShapes Go.ChangeAt Go.RowKit
set_option linter.unusedVariables false
theorem rd5 {H : Type} {enc : TypeId × Value → H} {w : World} {cs : List Value} (h : Rd enc Tryz.prog w 5 cs) : ∃ (n0 : Int), cs = [.int .u8 n0] ∧ ((0 ≤ n0 ∧ n0 ≤ 255)) := h.intu8 Tryz.underlying5
theorem rd22 {H : Type} {enc : TypeId × Value → H} {w : World} {cs : List Value} (h : Rd enc Tryz.prog w 22 cs) : ∃ (n0 : Int) (n1 : Int) (n2 : Int) (n3 : Int) (n4 : Int), cs = [.int .u8 n0, .int .u8 n1, .int .u8 n2, .int .u8 n3, .int .u8 n4] ∧ ((0 ≤ n0 ∧ n0 ≤ 255)) ∧ ((0 ≤ n1 ∧ n1 ≤ 255)) ∧ ((0 ≤ n2 ∧ n2 ≤ 255)) ∧ ((0 ≤ n3 ∧ n3 ≤ 255)) ∧ ((0 ≤ n4 ∧ n4 ≤ 255)) := by
  have hl : cs.length = 5 := (h.array Tryz.underlying22).1.trans (by kernel_rfl)
  obtain ⟨n0_0, e0, r0_0⟩ := rd5 (h.elt Tryz.underlying22 0 (by decide) (by kernel_rfl : _ = 1))
  obtain ⟨n0_1, e1, r0_1⟩ := rd5 (h.elt Tryz.underlying22 1 (by decide) (by kernel_rfl : _ = 1))
  obtain ⟨n0_2, e2, r0_2⟩ := rd5 (h.elt Tryz.underlying22 2 (by decide) (by kernel_rfl : _ = 1))
  obtain ⟨n0_3, e3, r0_3⟩ := rd5 (h.elt Tryz.underlying22 3 (by decide) (by kernel_rfl : _ = 1))
  obtain ⟨n0_4, e4, r0_4⟩ := rd5 (h.elt Tryz.underlying22 4 (by decide) (by kernel_rfl : _ = 1))
  match cs, hl, e0, e1, e2, e3, e4 with
  | [c0, c1, c2, c3, c4], _, e0, e1, e2, e3, e4 =>
    simp at e0 e1 e2 e3 e4
    obtain rfl := e0
    obtain rfl := e1
    obtain rfl := e2
    obtain rfl := e3
    obtain rfl := e4
    exact ⟨n0_0, n0_1, n0_2, n0_3, n0_4, rfl, r0_0, r0_1, r0_2, r0_3, r0_4⟩
theorem rd23 {H : Type} {enc : TypeId × Value → H} {w : World} {cs : List Value} (h : Rd enc Tryz.prog w 23 cs) : ∃ (n0 : Int) (n1 : Int) (n2 : Int), cs = [.int .u8 n0, .int .u8 n1, .int .u8 n2] ∧ ((0 ≤ n0 ∧ n0 ≤ 255)) ∧ ((0 ≤ n1 ∧ n1 ≤ 255)) ∧ ((0 ≤ n2 ∧ n2 ≤ 255)) := by
  have hl : cs.length = 3 := (h.array Tryz.underlying23).1.trans (by kernel_rfl)
  obtain ⟨n0_0, e0, r0_0⟩ := rd5 (h.elt Tryz.underlying23 0 (by decide) (by kernel_rfl : _ = 1))
  obtain ⟨n0_1, e1, r0_1⟩ := rd5 (h.elt Tryz.underlying23 1 (by decide) (by kernel_rfl : _ = 1))
  obtain ⟨n0_2, e2, r0_2⟩ := rd5 (h.elt Tryz.underlying23 2 (by decide) (by kernel_rfl : _ = 1))
  match cs, hl, e0, e1, e2 with
  | [c0, c1, c2], _, e0, e1, e2 =>
    simp at e0 e1 e2
    obtain rfl := e0
    obtain rfl := e1
    obtain rfl := e2
    exact ⟨n0_0, n0_1, n0_2, rfl, r0_0, r0_1, r0_2⟩
theorem rd71 {H : Type} {enc : TypeId × Value → H} {w : World} {cs : List Value} (h : Rd enc Tryz.prog w 71 cs) : ∃ (xs0 : List W3) (ao0 : Option Addr) (b0 : Nat) (o0 : Nat) (cp0 : Nat), cs = [.slice ao0 xs0.length cp0] ∧ (xs0.length ≤ cp0 ∧ cp0 ≤ maxLen ∧ Sl encW3 3 w ao0 b0 o0 xs0 ∧ ∀ x ∈ xs0, okW3 x) := by
  obtain ⟨ao, b, o, cap, xs, h1, h2, h3, h4, h5⟩ := h.sl (enc' := encW3) (R := fun x => okW3 x) (by kernel_rfl : _ = 3) (by decide) Tryz.underlying71 (fun cs hc => by
    obtain ⟨n0, n1, n2, e, r0, r1, r2⟩ := rd23 hc
    exact ⟨⟨n0, n1, n2⟩, e, ⟨r0, r1, r2⟩⟩)
  exact ⟨xs, ao, b, o, cap, h1, h2, h3, h4, h5⟩



theorem ownTopCrewedVoyage : ownKnob Tryz.prog.godebug = none := by kernel_rfl
theorem laidOutTopCrewedVoyage : laidOutB Tryz.prog = true := by kernel_rfl
set_option maxHeartbeats 1000000 in
set_option maxRecDepth 100000 in
theorem liftedTopCrewedVoyage (os : Os) (started : os.Started) (H : Type) (enc : TypeId × Value → H) :
    ReturnsInHanded {} Tryz.checked os 5 .any (Rows.topCrewedVoyageSpec.pre6 enc Tryz.prog Tryz.f5 Rows.topCrewedVoyageRow.domain false) (Rows.topCrewedVoyageSpec.post enc Tryz.prog Tryz.f5 false true false false) := by
  refine returnsInHanded_of_change (C := Tryz.checked) ownTopCrewedVoyage started (by kernel_rfl) Tryz.func5
    (ChangeSpec.witness6 (enc := enc) (C := Tryz.checked) false ⟨#[], #[.agg #[.int .u8 0, .int .u8 0, .int .u8 0, .int .u8 0, .int .u8 0], .slice none 0 0, .int .u8 0], []⟩ 8 (by kernel_rfl) (by kernel_rfl) (by kernel_rfl) (by kernel_rfl)) ?_
  intro W base args ds gs before hval0 hW hcnd _
  have hval : ∀ (j : Nat) t v, Tryz.f5.params[j]? = some t → args[j]? = some v → Value.okWide Tryz.prog W .any base t v := hval0
  have hW' := hW
  obtain ⟨p, q, hA0, hV, rfl, hfz, hnd⟩ := hW
  have hA : DataW.TrodAll enc Tryz.prog W 0 (fun _ => true) true Tryz.f5.params.toList args.toList ds p := hA0
  rw [Tryz.params5] at hA hval
  obtain ⟨v0, vs0, d0, ds0, p0, q0, hargs, rfl, rfl, h0, r0⟩ := trodAll_cons hA
  obtain ⟨v1, vs1, d1, ds1, p1, q1, rfl, rfl, rfl, h1, r1⟩ := trodAll_cons r0
  obtain ⟨v2, vs2, d2, ds2, p2, q2, rfl, rfl, rfl, h2, r2⟩ := trodAll_cons r1
  obtain ⟨rfl, rfl, rfl⟩ := trodAll_nil r2
  obtain rfl : args = #[v0, v1, v2] := by cases args; simp_all
  obtain ⟨rfl, rfl⟩ := trodVars_none hV
  have k0 := h0
  have lt0 : ∀ x ∈ p0, x.block < W.heap.size := by obtain ⟨m, hm⟩ := k0; exact DataW.trod_lt m _ _ _ hm
  obtain ⟨cs0, rfl, -⟩ := okWide_array Tryz.underlying22 (hval 0 22 v0 rfl rfl)
  obtain ⟨n0_p0, n1_p0, n2_p0, n3_p0, n4_p0, ce0, f0_p0, f1_p0, f2_p0, f3_p0, f4_p0⟩ := rd22 (Rd.of h0)
  obtain rfl : cs0 = #[.int .u8 n0_p0, .int .u8 n1_p0, .int .u8 n2_p0, .int .u8 n3_p0, .int .u8 n4_p0] := by cases cs0; simpa [Value.cells] using ce0
  have k1 := h1
  have lt1 : ∀ x ∈ p1, x.block < W.heap.size := by obtain ⟨m, hm⟩ := k1; exact DataW.trod_lt m _ _ _ hm
  obtain ⟨aa1, ll1, cc1, rfl⟩ := okWide_slice Tryz.underlying71 (hval 1 71 v1 rfl rfl)
  obtain ⟨xs0_p1, ao0_p1, b0_p1, o0_p1, cp0_p1, ce1, f0_p1⟩ := rd71 (Rd.of h1)
  simp [Value.cells] at ce1
  obtain ⟨cx1, cy1, cz1⟩ := ce1
  subst cy1
  obtain rfl := cx1.symm
  obtain rfl := cz1.symm
  have k2 := h2
  have lt2 : ∀ x ∈ p2, x.block < W.heap.size := by obtain ⟨m, hm⟩ := k2; exact DataW.trod_lt m _ _ _ hm
  obtain ⟨nn2, rfl⟩ := okWide_int Tryz.underlying5 (hval 2 5 v2 rfl rfl)
  obtain ⟨n0_p2, ce2, f0_p2⟩ := rd5 (Rd.of h2)
  simp [Value.cells] at ce2
  obtain rfl := ce2.symm
  clear hA0 hval0
  refine Calls.mono (TopCrewedVoyage_c xs0_p1 ao0_p1 b0_p1 o0_p1 cp0_p1 n0_p0 n1_p0 n2_p0 n3_p0 n4_p0 n0_p2 W f0_p1.2.2.1 (Nat.le_trans f0_p1.1 f0_p1.2.1) f0_p1.2.2.2 ⟨f0_p0, f1_p0, f2_p0, f3_p0, f4_p0⟩ f0_p2) fun e W' hv => ?_
  obtain ⟨v, rfl, rfl, ext⟩ := hv
  have bel := Ext.below ext
  exact ⟨_, rfl, _, _, _, [], _, [], hW', trodAll_mk1 (shut_bool Tryz.underlying4 _), (trodAll_cons_mk (Below.trod laidOutTopCrewedVoyage (by kernel_rfl) (of_decide_eq_true (by kernel_rfl)) k0 bel lt0) (trodAll_cons_mk (Below.trod laidOutTopCrewedVoyage (by kernel_rfl) (of_decide_eq_true (by kernel_rfl)) k1 bel lt1) (trodAll_cons_mk (Below.trod laidOutTopCrewedVoyage (by kernel_rfl) (of_decide_eq_true (by kernel_rfl)) k2 bel lt2) trodAll_mk0))), rfl, bel.frame _, fun h => by cases h⟩

theorem overTopCrewedVoyage : Rows.topCrewedVoyageRow.holds Tryz.pinned (OpenSpec.ofChange Rows.topCrewedVoyageSpec) :=
  OpenClaim.holds_of_wide 5 Tryz.f5 rfl rfl rfl rfl rfl rfl rfl ⟨rfl, rfl, rfl, rfl, rfl⟩ rfl rfl rfl rfl rfl (by kernel_rfl) Tryz.func5 (by kernel_rfl)
    (of_decide_eq_true (by kernel_rfl)) (by unfold Func.isWrapper; first | (rw [if_pos (by decide +kernel)]; kernel_rfl) | (rw [if_neg (by decide +kernel)]; exact ⟨rfl, rfl⟩))
    (fun os started H enc _ => liftedTopCrewedVoyage os started H enc)
theorem provedTopCrewedVoyage : Rows.TopCrewedVoyageSaid := overTopCrewedVoyage
#print axioms provedTopCrewedVoyage
end Go.Proofs.YtclinbbghnebaaaGreat
