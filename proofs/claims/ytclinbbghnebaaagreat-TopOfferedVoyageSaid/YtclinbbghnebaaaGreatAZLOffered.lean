/-
  The law TopOfferedVoyage: the given statement holds. Conditions: none.
-/
import Derived.Test.YtclinbbghnebaaaGreatRows
import Derived.WalkKit
import Derived.ProofKit
import Derived.OpenShut
import Derived.ShutString
import Derived.ChangeOld
import Derived.Below
import Derived.Test.YtclinbbghnebaaaGreatAK18
namespace Go.Proofs.YtclinbbghnebaaaGreat
open Go Go.ChangeShapes Go.WideShapes Go.ChangeAt Go.RowKit
set_option linter.unusedVariables false
theorem rd5 {H : Type} {enc : TypeId × Value → H} {w : World} {cs : List Value} (h : Rd enc Tryz.prog w 5 cs) : ∃ (n0 : Int), cs = [.int .u8 n0] ∧ ((0 ≤ n0 ∧ n0 ≤ 255)) := h.intu8 Tryz.underlying5
theorem rd22 {H : Type} {enc : TypeId × Value → H} {w : World} {cs : List Value} (h : Rd enc Tryz.prog w 22 cs) : ∃ (n0 : Int) (n1 : Int) (n2 : Int) (n3 : Int) (n4 : Int), cs = [.int .u8 n0, .int .u8 n1, .int .u8 n2, .int .u8 n3, .int .u8 n4] ∧ ((0 ≤ n0 ∧ n0 ≤ 255)) ∧ ((0 ≤ n1 ∧ n1 ≤ 255)) ∧ ((0 ≤ n2 ∧ n2 ≤ 255)) ∧ ((0 ≤ n3 ∧ n3 ≤ 255)) ∧ ((0 ≤ n4 ∧ n4 ≤ 255)) := by
  have hl : cs.length = 5 := (h.array Tryz.underlying22).1.trans (by kernel_rfl)
  obtain ⟨n0_0, e0, r0_0⟩ := rd5 (h.elt Tryz.underlying22 0 (by decide) (by kernel_rfl : _ = 1))
  obtain ⟨n0_1, e1, r0_1⟩ := rd5 (h.elt Tryz.underlying22 1 (by decide) (by kernel_rfl : _ = 1))
  obtain ⟨n0_2, e2, r0_2⟩ := rd5 (h.elt Tryz.underlying22 2 (by decide) (by kernel_rfl : _ = 1))
  obtain ⟨n0_3, e3, r0_3⟩ := rd5 (h.elt Tryz.underlying22 3 (by decide) (by kernel_rfl : _ = 1))
  obtain ⟨n0_4, e4, r0_4⟩ := rd5 (h.elt Tryz.underlying22 4 (by decide) (by kernel_rfl : _ = 1))
  match cs, hl, e0, e1, e2, e3, e4 with
  | [c0, c1, c2, c3, c4], _, e0, e1, e2, e3, e4 =>
    simp at e0 e1 e2 e3 e4
    obtain rfl := e0
    obtain rfl := e1
    obtain rfl := e2
    obtain rfl := e3
    obtain rfl := e4
    exact ⟨n0_0, n0_1, n0_2, n0_3, n0_4, rfl, r0_0, r0_1, r0_2, r0_3, r0_4⟩
theorem rd63 {H : Type} {enc : TypeId × Value → H} {w : World} {cs : List Value} (h : Rd enc Tryz.prog w 63 cs) : ∃ (xs0 : List W5) (ao0 : Option Addr) (b0 : Nat) (o0 : Nat) (cp0 : Nat), cs = [.slice ao0 xs0.length cp0] ∧ (xs0.length ≤ cp0 ∧ cp0 ≤ maxLen ∧ Sl encW5 5 w ao0 b0 o0 xs0 ∧ ∀ x ∈ xs0, okW5 x) := by
  obtain ⟨ao, b, o, cap, xs, h1, h2, h3, h4, h5⟩ := h.sl (enc' := encW5) (R := fun x => okW5 x) (by kernel_rfl : _ = 5) (by decide) Tryz.underlying63 (fun cs hc => by
    obtain ⟨n0, n1, n2, n3, n4, e, r0, r1, r2, r3, r4⟩ := rd22 hc
    exact ⟨⟨n0, n1, n2, n3, n4⟩, e, ⟨r0, r1, r2, r3, r4⟩⟩)
  exact ⟨xs, ao, b, o, cap, h1, h2, h3, h4, h5⟩

theorem rd64 {H : Type} {enc : TypeId × Value → H} {w : World} {cs : List Value} (h : Rd enc Tryz.prog w 64 cs) : ∃ (n0 : Int) (n1 : Int) (n2 : Int) (n3 : Int), cs = [.int .u8 n0, .int .u8 n1, .int .u8 n2, .int .u8 n3] ∧ ((0 ≤ n0 ∧ n0 ≤ 255)) ∧ ((0 ≤ n1 ∧ n1 ≤ 255)) ∧ ((0 ≤ n2 ∧ n2 ≤ 255)) ∧ ((0 ≤ n3 ∧ n3 ≤ 255)) := by
  have hl : cs.length = 4 := (h.array Tryz.underlying64).1.trans (by kernel_rfl)
  obtain ⟨n0_0, e0, r0_0⟩ := rd5 (h.elt Tryz.underlying64 0 (by decide) (by kernel_rfl : _ = 1))
  obtain ⟨n0_1, e1, r0_1⟩ := rd5 (h.elt Tryz.underlying64 1 (by decide) (by kernel_rfl : _ = 1))
  obtain ⟨n0_2, e2, r0_2⟩ := rd5 (h.elt Tryz.underlying64 2 (by decide) (by kernel_rfl : _ = 1))
  obtain ⟨n0_3, e3, r0_3⟩ := rd5 (h.elt Tryz.underlying64 3 (by decide) (by kernel_rfl : _ = 1))
  match cs, hl, e0, e1, e2, e3 with
  | [c0, c1, c2, c3], _, e0, e1, e2, e3 =>
    simp at e0 e1 e2 e3
    obtain rfl := e0
    obtain rfl := e1
    obtain rfl := e2
    obtain rfl := e3
    exact ⟨n0_0, n0_1, n0_2, n0_3, rfl, r0_0, r0_1, r0_2, r0_3⟩


theorem ownTopOfferedVoyage : ownKnob Tryz.prog.godebug = none := by kernel_rfl
theorem laidOutTopOfferedVoyage : laidOutB Tryz.prog = true := by kernel_rfl
set_option maxHeartbeats 1000000 in
set_option maxRecDepth 100000 in
theorem liftedTopOfferedVoyage (os : Os) (started : os.Started) (H : Type) (enc : TypeId × Value → H) :
    ReturnsInHanded {} Tryz.checked os 4 .any (Rows.topOfferedVoyageSpec.pre6 enc Tryz.prog Tryz.f4 Rows.topOfferedVoyageRow.domain false) (Rows.topOfferedVoyageSpec.post enc Tryz.prog Tryz.f4 false true false false) := by
  refine returnsInHanded_of_change (C := Tryz.checked) ownTopOfferedVoyage started (by kernel_rfl) Tryz.func4
    (ChangeSpec.witness6 (enc := enc) (C := Tryz.checked) false ⟨#[], #[.slice none 0 0, .agg #[.int .u8 0, .int .u8 0, .int .u8 0, .int .u8 0]], []⟩ 8 (by kernel_rfl) (by kernel_rfl) (by kernel_rfl) (by kernel_rfl)) ?_
  intro W base args ds gs before hval0 hW hcnd _
  have hval : ∀ (j : Nat) t v, Tryz.f4.params[j]? = some t → args[j]? = some v → Value.okWide Tryz.prog W .any base t v := hval0
  have hW' := hW
  obtain ⟨p, q, hA0, hV, rfl, hfz, hnd⟩ := hW
  have hA : DataW.TrodAll enc Tryz.prog W 0 (fun _ => true) true Tryz.f4.params.toList args.toList ds p := hA0
  rw [Tryz.params4] at hA hval
  obtain ⟨v0, vs0, d0, ds0, p0, q0, hargs, rfl, rfl, h0, r0⟩ := trodAll_cons hA
  obtain ⟨v1, vs1, d1, ds1, p1, q1, rfl, rfl, rfl, h1, r1⟩ := trodAll_cons r0
  obtain ⟨rfl, rfl, rfl⟩ := trodAll_nil r1
  obtain rfl : args = #[v0, v1] := by cases args; simp_all
  obtain ⟨rfl, rfl⟩ := trodVars_none hV
  have k0 := h0
  have lt0 : ∀ x ∈ p0, x.block < W.heap.size := by obtain ⟨m, hm⟩ := k0; exact DataW.trod_lt m _ _ _ hm
  obtain ⟨aa0, ll0, cc0, rfl⟩ := okWide_slice Tryz.underlying63 (hval 0 63 v0 rfl rfl)
  obtain ⟨xs0_p0, ao0_p0, b0_p0, o0_p0, cp0_p0, ce0, f0_p0⟩ := rd63 (Rd.of h0)
  simp [Value.cells] at ce0
  obtain ⟨cx0, cy0, cz0⟩ := ce0
  subst cy0
  obtain rfl := cx0.symm
  obtain rfl := cz0.symm
  have k1 := h1
  have lt1 : ∀ x ∈ p1, x.block < W.heap.size := by obtain ⟨m, hm⟩ := k1; exact DataW.trod_lt m _ _ _ hm
  obtain ⟨cs1, rfl, -⟩ := okWide_array Tryz.underlying64 (hval 1 64 v1 rfl rfl)
  obtain ⟨n0_p1, n1_p1, n2_p1, n3_p1, ce1, f0_p1, f1_p1, f2_p1, f3_p1⟩ := rd64 (Rd.of h1)
  obtain rfl : cs1 = #[.int .u8 n0_p1, .int .u8 n1_p1, .int .u8 n2_p1, .int .u8 n3_p1] := by cases cs1; simpa [Value.cells] using ce1
  clear hA0 hval0
  refine Calls.mono (TopOfferedVoyage_c xs0_p0 ao0_p0 b0_p0 o0_p0 cp0_p0 n0_p1 n1_p1 n2_p1 n3_p1 W f0_p0.2.2.1 (Nat.le_trans f0_p0.1 f0_p0.2.1) f0_p0.2.2.2 ⟨f0_p1, f1_p1, f2_p1, f3_p1⟩) fun e W' hv => ?_
  obtain ⟨v, rfl, rfl, ext⟩ := hv
  have bel := Ext.below ext
  exact ⟨_, rfl, _, _, _, [], _, [], hW', trodAll_mk1 (shut_bool Tryz.underlying4 _), (trodAll_cons_mk (Below.trod laidOutTopOfferedVoyage (by kernel_rfl) (of_decide_eq_true (by kernel_rfl)) k0 bel lt0) (trodAll_cons_mk (Below.trod laidOutTopOfferedVoyage (by kernel_rfl) (of_decide_eq_true (by kernel_rfl)) k1 bel lt1) trodAll_mk0)), rfl, bel.frame _, fun h => by cases h⟩

theorem overTopOfferedVoyage : Rows.topOfferedVoyageRow.holds Tryz.pinned (OpenSpec.ofChange Rows.topOfferedVoyageSpec) :=
  OpenClaim.holds_of_wide 4 Tryz.f4 rfl rfl rfl rfl rfl rfl rfl ⟨rfl, rfl, rfl, rfl, rfl⟩ rfl rfl rfl rfl rfl (by kernel_rfl) Tryz.func4 (by kernel_rfl)
    (of_decide_eq_true (by kernel_rfl)) (by unfold Func.isWrapper; first | (rw [if_pos (by decide +kernel)]; kernel_rfl) | (rw [if_neg (by decide +kernel)]; exact ⟨rfl, rfl⟩))
    (fun os started H enc _ => liftedTopOfferedVoyage os started H enc)
theorem provedTopOfferedVoyage : Rows.TopOfferedVoyageSaid := overTopOfferedVoyage
#print axioms provedTopOfferedVoyage
end Go.Proofs.YtclinbbghnebaaaGreat
