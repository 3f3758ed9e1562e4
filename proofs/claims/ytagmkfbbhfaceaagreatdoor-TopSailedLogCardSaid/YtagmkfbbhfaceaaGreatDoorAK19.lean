/-
  Part 19 of the proof: contracts and plain laws. Conditions: none.
-/
import Derived.Test.YtagmkfbbhfaceaaGreatDoorRows
import Derived.WalkKit
import Derived.ProofKit
import Derived.OpenShut
import Derived.ShutString
import Derived.ChangeOld
import Derived.Below
import Derived.Test.YtagmkfbbhfaceaaGreatDoorAK18
namespace Go.Proofs.YtagmkfbbhfaceaaGreatDoor
open Go Go.ChangeShapes Go.WideShapes Go.ChangeAt Go.RowKit
set_option linter.unusedVariables false
theorem rd3 {H : Type} {enc : TypeId × Value → H} {w : World} {cs : List Value} (h : Rd enc Tryz.prog w 3 cs) : ∃ (n0 : Int), cs = [.int .i64 n0] ∧ ((-9223372036854775808 ≤ n0 ∧ n0 ≤ 9223372036854775807)) := h.int Tryz.underlying3
theorem rd34 {H : Type} {enc : TypeId × Value → H} {w : World} {cs : List Value} (h : Rd enc Tryz.prog w 34 cs) : ∃ (n0 : Int) (n1 : Int), cs = [.int .i64 n0, .int .i64 n1] ∧ ((-9223372036854775808 ≤ n0 ∧ n0 ≤ 9223372036854775807)) ∧ ((-9223372036854775808 ≤ n1 ∧ n1 ≤ 9223372036854775807)) := by
  have hl : cs.length = 2 := (h.struct Tryz.underlying34).1.trans (by kernel_rfl)
  obtain ⟨n0_0, e0, r0_0⟩ := rd3 (h.fld Tryz.underlying34 0 rfl rfl rfl (by kernel_rfl : _ = 1))
  obtain ⟨n0_1, e1, r0_1⟩ := rd3 (h.fld Tryz.underlying34 1 rfl rfl rfl (by kernel_rfl : _ = 1))
  match cs, hl, e0, e1 with
  | [c0, c1], _, e0, e1 =>
    simp at e0 e1
    obtain rfl := e0
    obtain rfl := e1
    exact ⟨n0_0, n0_1, rfl, r0_0, r0_1⟩
theorem rd61 {H : Type} {enc : TypeId × Value → H} {w : World} {cs : List Value} (h : Rd enc Tryz.prog w 61 cs) : ∃ (n0 : Int) (n1 : Int) (n2 : Int) (n3 : Int) (n4 : Int) (n5 : Int), cs = [.int .i64 n0, .int .i64 n1, .int .i64 n2, .int .i64 n3, .int .i64 n4, .int .i64 n5] ∧ ((-9223372036854775808 ≤ n0 ∧ n0 ≤ 9223372036854775807)) ∧ ((-9223372036854775808 ≤ n1 ∧ n1 ≤ 9223372036854775807)) ∧ ((-9223372036854775808 ≤ n2 ∧ n2 ≤ 9223372036854775807)) ∧ ((-9223372036854775808 ≤ n3 ∧ n3 ≤ 9223372036854775807)) ∧ ((-9223372036854775808 ≤ n4 ∧ n4 ≤ 9223372036854775807)) ∧ ((-9223372036854775808 ≤ n5 ∧ n5 ≤ 9223372036854775807)) := by
  have hl : cs.length = 6 := (h.struct Tryz.underlying61).1.trans (by kernel_rfl)
  obtain ⟨n0_0, e0, r0_0⟩ := rd3 (h.fld Tryz.underlying61 0 rfl rfl rfl (by kernel_rfl : _ = 1))
  obtain ⟨n0_1, e1, r0_1⟩ := rd3 (h.fld Tryz.underlying61 1 rfl rfl rfl (by kernel_rfl : _ = 1))
  obtain ⟨n0_2, n1_2, e2, r0_2, r1_2⟩ := rd34 (h.fld Tryz.underlying61 2 rfl rfl rfl (by kernel_rfl : _ = 2))
  obtain ⟨n0_3, n1_3, e3, r0_3, r1_3⟩ := rd34 (h.fld Tryz.underlying61 3 rfl rfl rfl (by kernel_rfl : _ = 2))
  match cs, hl, e0, e1, e2, e3 with
  | [c0, c1, c2, c3, c4, c5], _, e0, e1, e2, e3 =>
    simp at e0 e1 e2 e3
    obtain rfl := e0
    obtain rfl := e1
    obtain ⟨rfl, rfl⟩ := e2
    obtain ⟨rfl, rfl⟩ := e3
    exact ⟨n0_0, n0_1, n0_2, n1_2, n0_3, n1_3, rfl, r0_0, r0_1, r0_2, r1_2, r0_3, r1_3⟩
theorem rd54 {H : Type} {enc : TypeId × Value → H} {w : World} {cs : List Value} (h : Rd enc Tryz.prog w 54 cs) : ∃ (xs0 : List Run) (ao0 : Option Addr) (b0 : Nat) (o0 : Nat) (cp0 : Nat), cs = [.slice ao0 xs0.length cp0] ∧ (xs0.length ≤ cp0 ∧ cp0 ≤ maxLen ∧ Sl encRun 6 w ao0 b0 o0 xs0 ∧ ∀ x ∈ xs0, True) := by
  obtain ⟨ao, b, o, cap, xs, h1, h2, h3, h4, h5⟩ := h.sl (enc' := encRun) (R := fun x => True) (by kernel_rfl : _ = 6) (by decide) Tryz.underlying54 (fun cs hc => by
    obtain ⟨n0, n1, n2, n3, n4, n5, e, r0, r1, r2, r3, r4, r5⟩ := rd61 hc
    exact ⟨⟨n0, n1, ⟨n2, n3⟩, ⟨n4, n5⟩⟩, e, trivial⟩)
  exact ⟨xs, ao, b, o, cap, h1, h2, h3, h4, h5⟩

theorem rd56 {H : Type} {enc : TypeId × Value → H} {w : World} {cs : List Value} (h : Rd enc Tryz.prog w 56 cs) : ∃ (n0 : Int) (n1 : Int) (xs2 : List Run) (ao2 : Option Addr) (b2 : Nat) (o2 : Nat) (cp2 : Nat) (n3 : Int) (n4 : Int), cs = [.int .i64 n0, .int .i64 n1, .slice ao2 xs2.length cp2, .int .i64 n3, .int .i64 n4] ∧ ((-9223372036854775808 ≤ n0 ∧ n0 ≤ 9223372036854775807)) ∧ ((-9223372036854775808 ≤ n1 ∧ n1 ≤ 9223372036854775807)) ∧ (xs2.length ≤ cp2 ∧ cp2 ≤ maxLen ∧ Sl encRun 6 w ao2 b2 o2 xs2 ∧ ∀ x ∈ xs2, True) ∧ ((-9223372036854775808 ≤ n3 ∧ n3 ≤ 9223372036854775807)) ∧ ((-9223372036854775808 ≤ n4 ∧ n4 ≤ 9223372036854775807)) := by
  have hl : cs.length = 5 := (h.struct Tryz.underlying56).1.trans (by kernel_rfl)
  obtain ⟨n0_0, n1_0, e0, r0_0, r1_0⟩ := rd34 (h.fld Tryz.underlying56 0 rfl rfl rfl (by kernel_rfl : _ = 2))
  obtain ⟨xs0_1, ao0_1, b0_1, o0_1, cp0_1, e1, r0_1⟩ := rd54 (h.fld Tryz.underlying56 1 rfl rfl rfl (by kernel_rfl : _ = 1))
  obtain ⟨n0_2, e2, r0_2⟩ := rd3 (h.fld Tryz.underlying56 2 rfl rfl rfl (by kernel_rfl : _ = 1))
  obtain ⟨n0_3, e3, r0_3⟩ := rd3 (h.fld Tryz.underlying56 3 rfl rfl rfl (by kernel_rfl : _ = 1))
  match cs, hl, e0, e1, e2, e3 with
  | [c0, c1, c2, c3, c4], _, e0, e1, e2, e3 =>
    simp at e0 e1 e2 e3
    obtain ⟨rfl, rfl⟩ := e0
    obtain rfl := e1
    obtain rfl := e2
    obtain rfl := e3
    exact ⟨n0_0, n1_0, xs0_1, ao0_1, b0_1, o0_1, cp0_1, n0_2, n0_3, rfl, r0_0, r1_0, r0_1, r0_2, r0_3⟩
theorem rd57 {H : Type} {enc : TypeId × Value → H} {w : World} {cs : List Value} (h : Rd enc Tryz.prog w 57 cs) : ∃ (n0 : Int), cs = [.int .u16 n0] ∧ ((0 ≤ n0 ∧ n0 ≤ 65535)) := h.intu16 Tryz.underlying57
theorem rd5 {H : Type} {enc : TypeId × Value → H} {w : World} {cs : List Value} (h : Rd enc Tryz.prog w 5 cs) : ∃ (n0 : Int), cs = [.int .u8 n0] ∧ ((0 ≤ n0 ∧ n0 ≤ 255)) := h.intu8 Tryz.underlying5


theorem ownTopSailedLog : ownKnob Tryz.prog.godebug = none := by kernel_rfl
theorem laidOutTopSailedLog : laidOutB Tryz.prog = true := by kernel_rfl
set_option maxHeartbeats 1000000 in
set_option maxRecDepth 100000 in
theorem liftedTopSailedLog (os : Os) (started : os.Started) (H : Type) (enc : TypeId × Value → H) :
    ReturnsInHanded {} Tryz.checked os 4 .any (fun w args => (Rows.topSailedLogSpec.pre enc Tryz.prog Tryz.f4 Rows.topSailedLogRow.domain false w args ∧ laidMet Tryz.prog Rows.topSailedLogRow.laid w) ∧ sizedMet enc Tryz.prog Tryz.f4 (OpenSpec.ofChange Rows.topSailedLogSpec) false w args) (Rows.topSailedLogSpec.post enc Tryz.prog Tryz.f4 false true false false) := by
  refine returnsInHanded_of_change_and (C := Tryz.checked) (X := fun w _ => laidMet Tryz.prog Rows.topSailedLogRow.laid w) (fun _ _ _ hh h => h.of_heap hh) ownTopSailedLog started (by kernel_rfl) Tryz.func4
    (ChangeSpec.witness_at (enc := enc) (C := Tryz.checked) (os := os) (X := fun w _ => laidMet Tryz.prog Rows.topSailedLogRow.laid w) false (laidWorld os) #[.agg #[.int .i64 0, .int .i64 0, .slice none 0 0, .int .i64 0, .int .i64 0], .int .u16 0, .int .u8 0] 8 rfl (by kernel_rfl) (by kernel_rfl) (by kernel_rfl) (by kernel_rfl) (by kernel_rfl) (laid_met os _)) ?_
  intro W base args ds gs before hval0 hW hcnd _ hL _
  have hval : ∀ (j : Nat) t v, Tryz.f4.params[j]? = some t → args[j]? = some v → Value.okWide Tryz.prog W .any base t v := hval0
  have hW' := hW
  obtain ⟨p, q, hA0, hV, rfl, hfz, hnd⟩ := hW
  have hA : DataW.TrodAll enc Tryz.prog W 0 (fun _ => true) true Tryz.f4.params.toList args.toList ds p := hA0
  rw [Tryz.params4] at hA hval
  obtain ⟨v0, vs0, d0, ds0, p0, q0, hargs, rfl, rfl, h0, r0⟩ := trodAll_cons hA
  obtain ⟨v1, vs1, d1, ds1, p1, q1, rfl, rfl, rfl, h1, r1⟩ := trodAll_cons r0
  obtain ⟨v2, vs2, d2, ds2, p2, q2, rfl, rfl, rfl, h2, r2⟩ := trodAll_cons r1
  obtain ⟨rfl, rfl, rfl⟩ := trodAll_nil r2
  obtain rfl : args = #[v0, v1, v2] := by cases args; simp_all
  obtain ⟨rfl, rfl⟩ := trodVars_none hV
  have k0 := h0
  have lt0 : ∀ x ∈ p0, x.block < W.heap.size := by obtain ⟨m, hm⟩ := k0; exact DataW.trod_lt m _ _ _ hm
  obtain ⟨cs0, rfl, -⟩ := okWide_struct Tryz.underlying56 (hval 0 56 v0 rfl rfl)
  obtain ⟨n0_p0, n1_p0, xs2_p0, ao2_p0, b2_p0, o2_p0, cp2_p0, n3_p0, n4_p0, ce0, f0_p0, f1_p0, f2_p0, f3_p0, f4_p0⟩ := rd56 (Rd.of h0)
  obtain rfl : cs0 = #[.int .i64 n0_p0, .int .i64 n1_p0, .slice ao2_p0 xs2_p0.length cp2_p0, .int .i64 n3_p0, .int .i64 n4_p0] := by cases cs0; simpa [Value.cells] using ce0
  have k1 := h1
  have lt1 : ∀ x ∈ p1, x.block < W.heap.size := by obtain ⟨m, hm⟩ := k1; exact DataW.trod_lt m _ _ _ hm
  obtain ⟨nn1, rfl⟩ := okWide_int Tryz.underlying57 (hval 1 57 v1 rfl rfl)
  obtain ⟨n0_p1, ce1, f0_p1⟩ := rd57 (Rd.of h1)
  simp [Value.cells] at ce1
  obtain rfl := ce1.symm
  have k2 := h2
  have lt2 : ∀ x ∈ p2, x.block < W.heap.size := by obtain ⟨m, hm⟩ := k2; exact DataW.trod_lt m _ _ _ hm
  obtain ⟨nn2, rfl⟩ := okWide_int Tryz.underlying5 (hval 2 5 v2 rfl rfl)
  obtain ⟨n0_p2, ce2, f0_p2⟩ := rd5 (Rd.of h2)
  simp [Value.cells] at ce2
  obtain rfl := ce2.symm
  clear hA0 hval0
  refine Calls.mono (TopSailedLog_c ⟨⟨n0_p0, n1_p0⟩, xs2_p0, n3_p0, n4_p0⟩ ao2_p0 b2_p0 o2_p0 cp2_p0 n0_p1 n0_p2 W f2_p0.2.2.1 (Nat.le_trans f2_p0.1 f2_p0.2.1) f0_p1 f0_p2 (tab_of_laid hL) (tab_pos (tab_of_laid hL))) fun e W' hv => ?_
  obtain ⟨v, rfl, rfl, ext⟩ := hv
  have bel := Ext.below ext
  exact ⟨_, rfl, _, _, _, [], _, [], hW', trodAll_mk1 (shut_bool Tryz.underlying4 _), (trodAll_cons_mk (Below.trod laidOutTopSailedLog (by kernel_rfl) (of_decide_eq_true (by kernel_rfl)) k0 bel lt0) (trodAll_cons_mk (Below.trod laidOutTopSailedLog (by kernel_rfl) (of_decide_eq_true (by kernel_rfl)) k1 bel lt1) (trodAll_cons_mk (Below.trod laidOutTopSailedLog (by kernel_rfl) (of_decide_eq_true (by kernel_rfl)) k2 bel lt2) trodAll_mk0))), rfl, bel.frame _, fun h => by cases h⟩

theorem overTopSailedLog : Rows.topSailedLogRow.holds Tryz.pinned (OpenSpec.ofChange Rows.topSailedLogSpec) :=
  OpenClaim.holds_of_wide 4 Tryz.f4 rfl rfl rfl rfl rfl rfl rfl ⟨rfl, rfl, rfl, rfl, rfl⟩ rfl rfl rfl rfl rfl (by kernel_rfl) Tryz.func4 (by kernel_rfl)
    (of_decide_eq_true (by kernel_rfl)) (by unfold Func.isWrapper; first | (rw [if_pos (by decide +kernel)]; kernel_rfl) | (rw [if_neg (by decide +kernel)]; exact ⟨rfl, rfl⟩))
    (fun os started H enc _ => liftedTopSailedLog os started H enc)
theorem provedTopSailedLog : Rows.TopSailedLogSaid := overTopSailedLog
#print axioms provedTopSailedLog
end Go.Proofs.YtagmkfbbhfaceaaGreatDoor
