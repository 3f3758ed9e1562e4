/-
  The law TowMeasures: the given statement holds. Conditions: none.
-/
import Derived.Test.YtmicjleiheoieaaRows
import Derived.WalkKit
import Derived.ProofKit
import Derived.OpenShut
import Derived.ShutString
import Derived.ChangeOld
import Derived.Below
import Derived.Test.YtmicjleiheoieaaOpen
import Derived.Test.YtmicjleiheoieaaA24
namespace Go.Proofs.Ytmicjleiheoieaa
open Go Go.ChangeShapes Go.WideShapes Go.ChangeAt Go.RowKit
set_option linter.unusedVariables false
theorem rd3 {H : Type} {enc : TypeId × Value → H} {w : World} {cs : List Value} (h : Rd enc Try.prog w 3 cs) : ∃ (n0 : Int), cs = [.int .i64 n0] ∧ ((-9223372036854775808 ≤ n0 ∧ n0 ≤ 9223372036854775807)) := h.int Try.underlying3
theorem rd23 {H : Type} {enc : TypeId × Value → H} {w : World} {cs : List Value} (h : Rd enc Try.prog w 23 cs) : ∃ (n0 : Int) (n1 : Int) (n2 : Int), cs = [.int .i64 n0, .int .i64 n1, .int .i64 n2] ∧ ((-9223372036854775808 ≤ n0 ∧ n0 ≤ 9223372036854775807)) ∧ ((-9223372036854775808 ≤ n1 ∧ n1 ≤ 9223372036854775807)) ∧ ((-9223372036854775808 ≤ n2 ∧ n2 ≤ 9223372036854775807)) := by
  have hl : cs.length = 3 := (h.struct Try.underlying23).1.trans (by kernel_rfl)
  obtain ⟨n0_0, e0, r0_0⟩ := rd3 (h.fld Try.underlying23 0 rfl rfl rfl (by kernel_rfl : _ = 1))
  obtain ⟨n0_1, e1, r0_1⟩ := rd3 (h.fld Try.underlying23 1 rfl rfl rfl (by kernel_rfl : _ = 1))
  obtain ⟨n0_2, e2, r0_2⟩ := rd3 (h.fld Try.underlying23 2 rfl rfl rfl (by kernel_rfl : _ = 1))
  match cs, hl, e0, e1, e2 with
  | [c0, c1, c2], _, e0, e1, e2 =>
    simp at e0 e1 e2
    obtain rfl := e0
    obtain rfl := e1
    obtain rfl := e2
    exact ⟨n0_0, n0_1, n0_2, rfl, r0_0, r0_1, r0_2⟩
theorem rd24 {H : Type} {enc : TypeId × Value → H} {w : World} {cs : List Value} (h : Rd enc Try.prog w 24 cs) : ∃ (xs0 : List Hull) (ao0 : Option Addr) (b0 : Nat) (o0 : Nat) (cp0 : Nat), cs = [.slice ao0 xs0.length cp0] ∧ (xs0.length ≤ cp0 ∧ cp0 ≤ maxLen ∧ Sl encHull 3 w ao0 b0 o0 xs0 ∧ ∀ x ∈ xs0, True) := by
  obtain ⟨ao, b, o, cap, xs, h1, h2, h3, h4, h5⟩ := h.sl (enc' := encHull) (R := fun x => True) (by kernel_rfl : _ = 3) (by decide) Try.underlying24 (fun cs hc => by
    obtain ⟨n0, n1, n2, e, r0, r1, r2⟩ := rd23 hc
    exact ⟨⟨n0, n1, n2⟩, e, trivial⟩)
  exact ⟨xs, ao, b, o, cap, h1, h2, h3, h4, h5⟩

theorem rd62 {H : Type} {enc : TypeId × Value → H} {w : World} {cs : List Value} (h : Rd enc Try.prog w 62 cs) : ∃ (xs0 : List HRow) (ao0 : Option Addr) (b0 : Nat) (o0 : Nat) (cp0 : Nat), cs = [.slice ao0 xs0.length cp0] ∧ (xs0.length ≤ cp0 ∧ cp0 ≤ maxLen ∧ Sl encHRow 1 w ao0 b0 o0 xs0 ∧ ∀ x ∈ xs0, Sl encHull 3 w x.ao x.b x.o x.xs) := by
  obtain ⟨ao, b, o, cap, xs, h1, h2, h3, h4, h5⟩ := h.sl (enc' := encHRow) (R := fun x => Sl encHull 3 w x.ao x.b x.o x.xs) (by kernel_rfl : _ = 1) (by decide) Try.underlying62 (fun cs hc => by
    obtain ⟨xs0, ao0, b0, o0, cp0, e, r0⟩ := rd24 hc
    exact ⟨⟨ao0, b0, o0, cp0, xs0⟩, e, r0.2.2.1⟩)
  exact ⟨xs, ao, b, o, cap, h1, h2, h3, h4, h5⟩

theorem rd64 {H : Type} {enc : TypeId × Value → H} {w : World} {cs : List Value} (h : Rd enc Try.prog w 64 cs) : ∃ (n0 : Int) (n1 : Int) (n2 : Int) (n3 : Int) (xs4 : List HRow) (ao4 : Option Addr) (b4 : Nat) (o4 : Nat) (cp4 : Nat), cs = [.int .i64 n0, .int .i64 n1, .int .i64 n2, .int .i64 n3, .slice ao4 xs4.length cp4] ∧ ((-9223372036854775808 ≤ n0 ∧ n0 ≤ 9223372036854775807)) ∧ ((-9223372036854775808 ≤ n1 ∧ n1 ≤ 9223372036854775807)) ∧ ((-9223372036854775808 ≤ n2 ∧ n2 ≤ 9223372036854775807)) ∧ ((-9223372036854775808 ≤ n3 ∧ n3 ≤ 9223372036854775807)) ∧ (xs4.length ≤ cp4 ∧ cp4 ≤ maxLen ∧ Sl encHRow 1 w ao4 b4 o4 xs4 ∧ ∀ x ∈ xs4, Sl encHull 3 w x.ao x.b x.o x.xs) := by
  have hl : cs.length = 5 := (h.struct Try.underlying64).1.trans (by kernel_rfl)
  obtain ⟨n0_0, n1_0, n2_0, e0, r0_0, r1_0, r2_0⟩ := rd23 (h.fld Try.underlying64 0 rfl rfl rfl (by kernel_rfl : _ = 3))
  obtain ⟨n0_1, e1, r0_1⟩ := rd3 (h.fld Try.underlying64 1 rfl rfl rfl (by kernel_rfl : _ = 1))
  obtain ⟨xs0_2, ao0_2, b0_2, o0_2, cp0_2, e2, r0_2⟩ := rd62 (h.fld Try.underlying64 2 rfl rfl rfl (by kernel_rfl : _ = 1))
  match cs, hl, e0, e1, e2 with
  | [c0, c1, c2, c3, c4], _, e0, e1, e2 =>
    simp at e0 e1 e2
    obtain ⟨rfl, rfl, rfl⟩ := e0
    obtain rfl := e1
    obtain rfl := e2
    exact ⟨n0_0, n1_0, n2_0, n0_1, xs0_2, ao0_2, b0_2, o0_2, cp0_2, rfl, r0_0, r1_0, r2_0, r0_1, r0_2⟩


theorem ownTowMeasures : ownKnob Try.prog.godebug = none := by kernel_rfl
theorem laidOutTowMeasures : laidOutB Try.prog = true := by kernel_rfl
set_option maxRecDepth 100000 in
theorem liftedTowMeasures (os : Os) (started : os.Started) (H : Type) (enc : TypeId × Value → H) :
    ReturnsInHanded {} Try.checked os 7 .any (Rows.towMeasuresSpec.pre6 enc Try.prog Try.f7 Rows.towMeasuresRow.domain false) (Rows.towMeasuresSpec.post enc Try.prog Try.f7 false true false false) := by
  refine returnsInHanded_of_change (C := Try.checked) ownTowMeasures started (by kernel_rfl) Try.func7
    (ChangeSpec.witness6 (enc := enc) (C := Try.checked) false ⟨#[], #[.agg #[.int .i64 0, .int .i64 0, .int .i64 0, .int .i64 0, .slice none 0 0]], []⟩ 8 (by kernel_rfl) (by kernel_rfl) (by kernel_rfl) (by kernel_rfl)) ?_
  intro W base args ds gs before hval0 hW hcnd _
  have hval : ∀ (j : Nat) t v, Try.f7.params[j]? = some t → args[j]? = some v → Value.okWide Try.prog W .any base t v := hval0
  have hW' := hW
  obtain ⟨p, q, hA0, hV, rfl, hfz, hnd⟩ := hW
  have hA : DataW.TrodAll enc Try.prog W 0 (fun _ => true) true Try.f7.params.toList args.toList ds p := hA0
  rw [Try.params7] at hA hval
  obtain ⟨v0, vs0, d0, ds0, p0, q0, hargs, rfl, rfl, h0, r0⟩ := trodAll_cons hA
  obtain ⟨rfl, rfl, rfl⟩ := trodAll_nil r0
  obtain rfl : args = #[v0] := by cases args; simp_all
  obtain ⟨rfl, rfl⟩ := trodVars_none hV
  have k0 := h0
  have lt0 : ∀ x ∈ p0, x.block < W.heap.size := by obtain ⟨m, hm⟩ := k0; exact DataW.trod_lt m _ _ _ hm
  obtain ⟨cs0, rfl, -⟩ := okWide_struct Try.underlying64 (hval 0 64 v0 rfl rfl)
  obtain ⟨n0_p0, n1_p0, n2_p0, n3_p0, xs4_p0, ao4_p0, b4_p0, o4_p0, cp4_p0, ce0, f0_p0, f1_p0, f2_p0, f3_p0, f4_p0⟩ := rd64 (Rd.of h0)
  obtain rfl : cs0 = #[.int .i64 n0_p0, .int .i64 n1_p0, .int .i64 n2_p0, .int .i64 n3_p0, .slice ao4_p0 xs4_p0.length cp4_p0] := by cases cs0; simpa [Value.cells] using ce0
  clear hA0 hval0
  refine Calls.mono (TowMeasures_c ⟨n0_p0, n1_p0, n2_p0⟩ n3_p0 xs4_p0 ao4_p0 b4_p0 o4_p0 cp4_p0 W f4_p0.2.2.1 f4_p0.2.2.2) fun e W' hv => ?_
  obtain ⟨v, rfl, rfl, ext⟩ := hv
  have bel := Ext.below ext
  exact ⟨_, rfl, _, _, _, [], _, [], hW', trodAll_mk1 (shut_bool Try.underlying4 _), (trodAll_cons_mk (Below.trod laidOutTowMeasures (by kernel_rfl) (of_decide_eq_true (by kernel_rfl)) k0 bel lt0) trodAll_mk0), rfl, bel.frame _, fun h => by cases h⟩

theorem overTowMeasures : Rows.towMeasuresRow.holds Try.pinned (OpenSpec.ofChange Rows.towMeasuresSpec) :=
  OpenClaim.holds_of_wide 7 Try.f7 rfl rfl rfl rfl rfl rfl rfl ⟨rfl, rfl, rfl, rfl, rfl⟩ rfl rfl rfl rfl rfl (by kernel_rfl) Try.func7 (by kernel_rfl)
    (of_decide_eq_true (by kernel_rfl)) (by unfold Func.isWrapper; first | (rw [if_pos (by decide +kernel)]; kernel_rfl) | (rw [if_neg (by decide +kernel)]; exact ⟨rfl, rfl⟩))
    (fun os started H enc _ => liftedTowMeasures os started H enc)
theorem provedTowMeasures : Rows.TowMeasuresSaid := overTowMeasures
#print axioms provedTowMeasures
end Go.Proofs.Ytmicjleiheoieaa
