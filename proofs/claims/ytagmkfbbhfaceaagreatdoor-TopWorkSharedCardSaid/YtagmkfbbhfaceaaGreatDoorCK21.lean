/-
  Part 21 of the proof: contracts and plain laws. Conditions: none.
-/
import Derived.Test.YtagmkfbbhfaceaaGreatDoorRows
import Derived.WalkKit
import Derived.ProofKit
import Derived.OpenShut
import Derived.ShutString
import Derived.ChangeOld
import Derived.Below
import Derived.Test.YtagmkfbbhfaceaaGreatDoorCK20
namespace Go.Proofs.YtagmkfbbhfaceaaGreatDoor
open Go Go.ChangeShapes Go.WideShapes Go.ChangeAt Go.RowKit
set_option linter.unusedVariables false
theorem Rd.intu32 {H : Type} {enc : TypeId × Value → H} {P : Program} {w : World} {t : TypeId} {cs : List Value} (ht : P.underlying t = some (.int .u32)) (h : Rd enc P w t cs) : ∃ n : Int, cs = [.int .u32 n] ∧ (0 ≤ n ∧ n ≤ 4294967295) := by
  obtain ⟨fuel, _, hf⟩ := h
  obtain ⟨n, h1, _, h2⟩ := DataW.trod_int ht hf
  refine ⟨n, h1, ?_⟩
  simp [Lit.wf] at h2
  have e : IntKind.u32.min = 0 := rfl
  have e2 : IntKind.u32.max = 4294967295 := rfl
  omega
theorem rd3 {H : Type} {enc : TypeId × Value → H} {w : World} {cs : List Value} (h : Rd enc Tryz.prog w 3 cs) : ∃ (n0 : Int), cs = [.int .i64 n0] ∧ ((-9223372036854775808 ≤ n0 ∧ n0 ≤ 9223372036854775807)) := h.int Tryz.underlying3
theorem rd39 {H : Type} {enc : TypeId × Value → H} {w : World} {cs : List Value} (h : Rd enc Tryz.prog w 39 cs) : ∃ (n0 : Int), cs = [.int .i64 n0] ∧ ((-9223372036854775808 ≤ n0 ∧ n0 ≤ 9223372036854775807)) := h.int Tryz.underlying39
theorem rd41 {H : Type} {enc : TypeId × Value → H} {w : World} {cs : List Value} (h : Rd enc Tryz.prog w 41 cs) : ∃ (n0 : Int) (n1 : Int) (n2 : Int) (n3 : Int) (n4 : Int) (n5 : Int), cs = [.int .i64 n0, .int .i64 n1, .int .i64 n2, .int .i64 n3, .int .i64 n4, .int .i64 n5] ∧ ((-9223372036854775808 ≤ n0 ∧ n0 ≤ 9223372036854775807)) ∧ ((-9223372036854775808 ≤ n1 ∧ n1 ≤ 9223372036854775807)) ∧ ((-9223372036854775808 ≤ n2 ∧ n2 ≤ 9223372036854775807)) ∧ ((-9223372036854775808 ≤ n3 ∧ n3 ≤ 9223372036854775807)) ∧ ((-9223372036854775808 ≤ n4 ∧ n4 ≤ 9223372036854775807)) ∧ ((-9223372036854775808 ≤ n5 ∧ n5 ≤ 9223372036854775807)) := by
  have hl : cs.length = 6 := (h.struct Tryz.underlying41).1.trans (by kernel_rfl)
  obtain ⟨n0_0, e0, r0_0⟩ := rd3 (h.fld Tryz.underlying41 0 rfl rfl rfl (by kernel_rfl : _ = 1))
  obtain ⟨n0_1, e1, r0_1⟩ := rd39 (h.fld Tryz.underlying41 1 rfl rfl rfl (by kernel_rfl : _ = 1))
  obtain ⟨n0_2, e2, r0_2⟩ := rd3 (h.fld Tryz.underlying41 2 rfl rfl rfl (by kernel_rfl : _ = 1))
  obtain ⟨n0_3, e3, r0_3⟩ := rd3 (h.fld Tryz.underlying41 3 rfl rfl rfl (by kernel_rfl : _ = 1))
  obtain ⟨n0_4, e4, r0_4⟩ := rd3 (h.fld Tryz.underlying41 4 rfl rfl rfl (by kernel_rfl : _ = 1))
  obtain ⟨n0_5, e5, r0_5⟩ := rd3 (h.fld Tryz.underlying41 5 rfl rfl rfl (by kernel_rfl : _ = 1))
  match cs, hl, e0, e1, e2, e3, e4, e5 with
  | [c0, c1, c2, c3, c4, c5], _, e0, e1, e2, e3, e4, e5 =>
    simp at e0 e1 e2 e3 e4 e5
    obtain rfl := e0
    obtain rfl := e1
    obtain rfl := e2
    obtain rfl := e3
    obtain rfl := e4
    obtain rfl := e5
    exact ⟨n0_0, n0_1, n0_2, n0_3, n0_4, n0_5, rfl, r0_0, r0_1, r0_2, r0_3, r0_4, r0_5⟩
theorem rd22 {H : Type} {enc : TypeId × Value → H} {w : World} {cs : List Value} (h : Rd enc Tryz.prog w 22 cs) : ∃ (xs0 : List Ent) (ao0 : Option Addr) (b0 : Nat) (o0 : Nat) (cp0 : Nat), cs = [.slice ao0 xs0.length cp0] ∧ (xs0.length ≤ cp0 ∧ cp0 ≤ maxLen ∧ Sl encEnt 6 w ao0 b0 o0 xs0 ∧ ∀ x ∈ xs0, True) := by
  obtain ⟨ao, b, o, cap, xs, h1, h2, h3, h4, h5⟩ := h.sl (enc' := encEnt) (R := fun x => True) (by kernel_rfl : _ = 6) (by decide) Tryz.underlying22 (fun cs hc => by
    obtain ⟨n0, n1, n2, n3, n4, n5, e, r0, r1, r2, r3, r4, r5⟩ := rd41 hc
    exact ⟨⟨n0, n1, n2, n3, n4, n5⟩, e, trivial⟩)
  exact ⟨xs, ao, b, o, cap, h1, h2, h3, h4, h5⟩

theorem rd94 {H : Type} {enc : TypeId × Value → H} {w : World} {cs : List Value} (h : Rd enc Tryz.prog w 94 cs) : ∃ (n0 : Int), cs = [.int .u32 n0] ∧ ((0 ≤ n0 ∧ n0 ≤ 4294967295)) := h.intu32 Tryz.underlying94


theorem ownTopWorkShared : ownKnob Tryz.prog.godebug = none := by kernel_rfl
theorem laidOutTopWorkShared : laidOutB Tryz.prog = true := by kernel_rfl
set_option maxHeartbeats 1000000 in
set_option maxRecDepth 100000 in
theorem liftedTopWorkShared (os : Os) (started : os.Started) (H : Type) (enc : TypeId × Value → H) :
    ReturnsInHanded {} Tryz.checked os 6 .any (fun w args => (Rows.topWorkSharedSpec.pre enc Tryz.prog Tryz.f6 Rows.topWorkSharedRow.domain false w args ∧ laidMet Tryz.prog Rows.topWorkSharedRow.laid w) ∧ sizedMet enc Tryz.prog Tryz.f6 (OpenSpec.ofChange Rows.topWorkSharedSpec) false w args) (Rows.topWorkSharedSpec.post enc Tryz.prog Tryz.f6 false true false false) := by
  refine returnsInHanded_of_change_and (C := Tryz.checked) (X := fun w _ => laidMet Tryz.prog Rows.topWorkSharedRow.laid w) (fun _ _ _ hh h => h.of_heap hh) ownTopWorkShared started (by kernel_rfl) Tryz.func6
    (ChangeSpec.witness_at (enc := enc) (C := Tryz.checked) (os := os) (X := fun w _ => laidMet Tryz.prog Rows.topWorkSharedRow.laid w) false (laidWorld os) #[.slice none 0 0, .int .u32 0] 8 rfl (by kernel_rfl) (by kernel_rfl) (by kernel_rfl) (by kernel_rfl) (by kernel_rfl) (laid_met os _)) ?_
  intro W base args ds gs before hval0 hW hcnd _ hL _
  have hval : ∀ (j : Nat) t v, Tryz.f6.params[j]? = some t → args[j]? = some v → Value.okWide Tryz.prog W .any base t v := hval0
  have hW' := hW
  obtain ⟨p, q, hA0, hV, rfl, hfz, hnd⟩ := hW
  have hA : DataW.TrodAll enc Tryz.prog W 0 (fun _ => true) true Tryz.f6.params.toList args.toList ds p := hA0
  rw [Tryz.params6] at hA hval
  obtain ⟨v0, vs0, d0, ds0, p0, q0, hargs, rfl, rfl, h0, r0⟩ := trodAll_cons hA
  obtain ⟨v1, vs1, d1, ds1, p1, q1, rfl, rfl, rfl, h1, r1⟩ := trodAll_cons r0
  obtain ⟨rfl, rfl, rfl⟩ := trodAll_nil r1
  obtain rfl : args = #[v0, v1] := by cases args; simp_all
  obtain ⟨rfl, rfl⟩ := trodVars_none hV
  have k0 := h0
  have lt0 : ∀ x ∈ p0, x.block < W.heap.size := by obtain ⟨m, hm⟩ := k0; exact DataW.trod_lt m _ _ _ hm
  obtain ⟨aa0, ll0, cc0, rfl⟩ := okWide_slice Tryz.underlying22 (hval 0 22 v0 rfl rfl)
  obtain ⟨xs0_p0, ao0_p0, b0_p0, o0_p0, cp0_p0, ce0, f0_p0⟩ := rd22 (Rd.of h0)
  simp [Value.cells] at ce0
  obtain ⟨cx0, cy0, cz0⟩ := ce0
  subst cy0
  obtain rfl := cx0.symm
  obtain rfl := cz0.symm
  have k1 := h1
  have lt1 : ∀ x ∈ p1, x.block < W.heap.size := by obtain ⟨m, hm⟩ := k1; exact DataW.trod_lt m _ _ _ hm
  obtain ⟨nn1, rfl⟩ := okWide_int Tryz.underlying94 (hval 1 94 v1 rfl rfl)
  obtain ⟨n0_p1, ce1, f0_p1⟩ := rd94 (Rd.of h1)
  simp [Value.cells] at ce1
  obtain rfl := ce1.symm
  clear hA0 hval0
  refine Calls.mono (TopWorkShared_c xs0_p0 ao0_p0 b0_p0 o0_p0 cp0_p0 n0_p1 W f0_p0.2.2.1 (Nat.le_trans f0_p0.1 f0_p0.2.1) f0_p1 (tab_of_laid hL) (tab_pos (tab_of_laid hL))) fun e W' hv => ?_
  obtain ⟨v, rfl, rfl, ext⟩ := hv
  have bel := Ext.below ext
  exact ⟨_, rfl, _, _, _, [], _, [], hW', trodAll_mk1 (shut_bool Tryz.underlying4 _), (trodAll_cons_mk (Below.trod laidOutTopWorkShared (by kernel_rfl) (of_decide_eq_true (by kernel_rfl)) k0 bel lt0) (trodAll_cons_mk (Below.trod laidOutTopWorkShared (by kernel_rfl) (of_decide_eq_true (by kernel_rfl)) k1 bel lt1) trodAll_mk0)), rfl, bel.frame _, fun h => by cases h⟩

theorem overTopWorkShared : Rows.topWorkSharedRow.holds Tryz.pinned (OpenSpec.ofChange Rows.topWorkSharedSpec) :=
  OpenClaim.holds_of_wide 6 Tryz.f6 rfl rfl rfl rfl rfl rfl rfl ⟨rfl, rfl, rfl, rfl, rfl⟩ rfl rfl rfl rfl rfl (by kernel_rfl) Tryz.func6 (by kernel_rfl)
    (of_decide_eq_true (by kernel_rfl)) (by unfold Func.isWrapper; first | (rw [if_pos (by decide +kernel)]; kernel_rfl) | (rw [if_neg (by decide +kernel)]; exact ⟨rfl, rfl⟩))
    (fun os started H enc _ => liftedTopWorkShared os started H enc)
theorem provedTopWorkShared : Rows.TopWorkSharedSaid := overTopWorkShared
#print axioms provedTopWorkShared
end Go.Proofs.YtagmkfbbhfaceaaGreatDoor
