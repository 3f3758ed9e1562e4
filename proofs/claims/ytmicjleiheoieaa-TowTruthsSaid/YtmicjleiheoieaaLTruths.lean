/-
  The law TowTruths: the given statement holds. Conditions: none.
-/
import Derived.Test.YtmicjleiheoieaaRows
import Derived.WalkKit
import Derived.ProofKit
import Derived.OpenShut
import Derived.ShutString
import Derived.ChangeOld
import Derived.Below
import Derived.Test.YtmicjleiheoieaaOpen
import Derived.Test.YtmicjleiheoieaaA29
namespace Go.Proofs.Ytmicjleiheoieaa
open Go Go.ChangeShapes Go.WideShapes Go.ChangeAt Go.RowKit
set_option linter.unusedVariables false
theorem rd3 {H : Type} {enc : TypeId × Value → H} {w : World} {cs : List Value} (h : Rd enc Try.prog w 3 cs) : ∃ (n0 : Int), cs = [.int .i64 n0] ∧ ((-9223372036854775808 ≤ n0 ∧ n0 ≤ 9223372036854775807)) := h.int Try.underlying3
theorem rd45 {H : Type} {enc : TypeId × Value → H} {w : World} {cs : List Value} (h : Rd enc Try.prog w 45 cs) : ∃ (n0 : Int) (n1 : Int), cs = [.int .i64 n0, .int .i64 n1] ∧ ((-9223372036854775808 ≤ n0 ∧ n0 ≤ 9223372036854775807)) ∧ ((-9223372036854775808 ≤ n1 ∧ n1 ≤ 9223372036854775807)) := by
  have hl : cs.length = 2 := (h.struct Try.underlying45).1.trans (by kernel_rfl)
  obtain ⟨n0_0, e0, r0_0⟩ := rd3 (h.fld Try.underlying45 0 rfl rfl rfl (by kernel_rfl : _ = 1))
  obtain ⟨n0_1, e1, r0_1⟩ := rd3 (h.fld Try.underlying45 1 rfl rfl rfl (by kernel_rfl : _ = 1))
  match cs, hl, e0, e1 with
  | [c0, c1], _, e0, e1 =>
    simp at e0 e1
    obtain rfl := e0
    obtain rfl := e1
    exact ⟨n0_0, n0_1, rfl, r0_0, r0_1⟩
theorem rd59 {H : Type} {enc : TypeId × Value → H} {w : World} {cs : List Value} (h : Rd enc Try.prog w 59 cs) : ∃ (n0 : Int) (n1 : Int) (n2 : Int) (n3 : Int) (n4 : Int) (n5 : Int), cs = [.int .i64 n0, .int .i64 n1, .int .i64 n2, .int .i64 n3, .int .i64 n4, .int .i64 n5] ∧ ((-9223372036854775808 ≤ n0 ∧ n0 ≤ 9223372036854775807)) ∧ ((-9223372036854775808 ≤ n1 ∧ n1 ≤ 9223372036854775807)) ∧ ((-9223372036854775808 ≤ n2 ∧ n2 ≤ 9223372036854775807)) ∧ ((-9223372036854775808 ≤ n3 ∧ n3 ≤ 9223372036854775807)) ∧ ((-9223372036854775808 ≤ n4 ∧ n4 ≤ 9223372036854775807)) ∧ ((-9223372036854775808 ≤ n5 ∧ n5 ≤ 9223372036854775807)) := by
  have hl : cs.length = 6 := (h.struct Try.underlying59).1.trans (by kernel_rfl)
  obtain ⟨n0_0, e0, r0_0⟩ := rd3 (h.fld Try.underlying59 0 rfl rfl rfl (by kernel_rfl : _ = 1))
  obtain ⟨n0_1, e1, r0_1⟩ := rd3 (h.fld Try.underlying59 1 rfl rfl rfl (by kernel_rfl : _ = 1))
  obtain ⟨n0_2, n1_2, e2, r0_2, r1_2⟩ := rd45 (h.fld Try.underlying59 2 rfl rfl rfl (by kernel_rfl : _ = 2))
  obtain ⟨n0_3, n1_3, e3, r0_3, r1_3⟩ := rd45 (h.fld Try.underlying59 3 rfl rfl rfl (by kernel_rfl : _ = 2))
  match cs, hl, e0, e1, e2, e3 with
  | [c0, c1, c2, c3, c4, c5], _, e0, e1, e2, e3 =>
    simp at e0 e1 e2 e3
    obtain rfl := e0
    obtain rfl := e1
    obtain ⟨rfl, rfl⟩ := e2
    obtain ⟨rfl, rfl⟩ := e3
    exact ⟨n0_0, n0_1, n0_2, n1_2, n0_3, n1_3, rfl, r0_0, r0_1, r0_2, r1_2, r0_3, r1_3⟩
theorem rd46 {H : Type} {enc : TypeId × Value → H} {w : World} {cs : List Value} (h : Rd enc Try.prog w 46 cs) : ∃ (xs0 : List Run) (ao0 : Option Addr) (b0 : Nat) (o0 : Nat) (cp0 : Nat), cs = [.slice ao0 xs0.length cp0] ∧ (xs0.length ≤ cp0 ∧ cp0 ≤ maxLen ∧ Sl encRun 6 w ao0 b0 o0 xs0 ∧ ∀ x ∈ xs0, True) := by
  obtain ⟨ao, b, o, cap, xs, h1, h2, h3, h4, h5⟩ := h.sl (enc' := encRun) (R := fun x => True) (by kernel_rfl : _ = 6) (by decide) Try.underlying46 (fun cs hc => by
    obtain ⟨n0, n1, n2, n3, n4, n5, e, r0, r1, r2, r3, r4, r5⟩ := rd59 hc
    exact ⟨⟨n0, n1, ⟨n2, n3⟩, ⟨n4, n5⟩⟩, e, trivial⟩)
  exact ⟨xs, ao, b, o, cap, h1, h2, h3, h4, h5⟩

theorem rd48 {H : Type} {enc : TypeId × Value → H} {w : World} {cs : List Value} (h : Rd enc Try.prog w 48 cs) : ∃ (n0 : Int) (n1 : Int) (xs2 : List Run) (ao2 : Option Addr) (b2 : Nat) (o2 : Nat) (cp2 : Nat) (n3 : Int) (n4 : Int), cs = [.int .i64 n0, .int .i64 n1, .slice ao2 xs2.length cp2, .int .i64 n3, .int .i64 n4] ∧ ((-9223372036854775808 ≤ n0 ∧ n0 ≤ 9223372036854775807)) ∧ ((-9223372036854775808 ≤ n1 ∧ n1 ≤ 9223372036854775807)) ∧ (xs2.length ≤ cp2 ∧ cp2 ≤ maxLen ∧ Sl encRun 6 w ao2 b2 o2 xs2 ∧ ∀ x ∈ xs2, True) ∧ ((-9223372036854775808 ≤ n3 ∧ n3 ≤ 9223372036854775807)) ∧ ((-9223372036854775808 ≤ n4 ∧ n4 ≤ 9223372036854775807)) := by
  have hl : cs.length = 5 := (h.struct Try.underlying48).1.trans (by kernel_rfl)
  obtain ⟨n0_0, n1_0, e0, r0_0, r1_0⟩ := rd45 (h.fld Try.underlying48 0 rfl rfl rfl (by kernel_rfl : _ = 2))
  obtain ⟨xs0_1, ao0_1, b0_1, o0_1, cp0_1, e1, r0_1⟩ := rd46 (h.fld Try.underlying48 1 rfl rfl rfl (by kernel_rfl : _ = 1))
  obtain ⟨n0_2, e2, r0_2⟩ := rd3 (h.fld Try.underlying48 2 rfl rfl rfl (by kernel_rfl : _ = 1))
  obtain ⟨n0_3, e3, r0_3⟩ := rd3 (h.fld Try.underlying48 3 rfl rfl rfl (by kernel_rfl : _ = 1))
  match cs, hl, e0, e1, e2, e3 with
  | [c0, c1, c2, c3, c4], _, e0, e1, e2, e3 =>
    simp at e0 e1 e2 e3
    obtain ⟨rfl, rfl⟩ := e0
    obtain rfl := e1
    obtain rfl := e2
    obtain rfl := e3
    exact ⟨n0_0, n1_0, xs0_1, ao0_1, b0_1, o0_1, cp0_1, n0_2, n0_3, rfl, r0_0, r1_0, r0_1, r0_2, r0_3⟩
theorem rd94 {H : Type} {enc : TypeId × Value → H} {w : World} {cs : List Value} (h : Rd enc Try.prog w 94 cs) : ∃ (n0 : Int) (n1 : Int) (xs2 : List Run) (ao2 : Option Addr) (b2 : Nat) (o2 : Nat) (cp2 : Nat) (n3 : Int) (n4 : Int) (n5 : Int) (n6 : Int) (xs7 : List Run) (ao7 : Option Addr) (b7 : Nat) (o7 : Nat) (cp7 : Nat) (n8 : Int) (n9 : Int), cs = [.int .i64 n0, .int .i64 n1, .slice ao2 xs2.length cp2, .int .i64 n3, .int .i64 n4, .int .i64 n5, .int .i64 n6, .slice ao7 xs7.length cp7, .int .i64 n8, .int .i64 n9] ∧ ((-9223372036854775808 ≤ n0 ∧ n0 ≤ 9223372036854775807)) ∧ ((-9223372036854775808 ≤ n1 ∧ n1 ≤ 9223372036854775807)) ∧ (xs2.length ≤ cp2 ∧ cp2 ≤ maxLen ∧ Sl encRun 6 w ao2 b2 o2 xs2 ∧ ∀ x ∈ xs2, True) ∧ ((-9223372036854775808 ≤ n3 ∧ n3 ≤ 9223372036854775807)) ∧ ((-9223372036854775808 ≤ n4 ∧ n4 ≤ 9223372036854775807)) ∧ ((-9223372036854775808 ≤ n5 ∧ n5 ≤ 9223372036854775807)) ∧ ((-9223372036854775808 ≤ n6 ∧ n6 ≤ 9223372036854775807)) ∧ (xs7.length ≤ cp7 ∧ cp7 ≤ maxLen ∧ Sl encRun 6 w ao7 b7 o7 xs7 ∧ ∀ x ∈ xs7, True) ∧ ((-9223372036854775808 ≤ n8 ∧ n8 ≤ 9223372036854775807)) ∧ ((-9223372036854775808 ≤ n9 ∧ n9 ≤ 9223372036854775807)) := by
  have hl : cs.length = 10 := (h.array Try.underlying94).1.trans (by kernel_rfl)
  obtain ⟨n0_0, n1_0, xs2_0, ao2_0, b2_0, o2_0, cp2_0, n3_0, n4_0, e0, r0_0, r1_0, r2_0, r3_0, r4_0⟩ := rd48 (h.elt Try.underlying94 0 (by decide) (by kernel_rfl : _ = 5))
  obtain ⟨n0_1, n1_1, xs2_1, ao2_1, b2_1, o2_1, cp2_1, n3_1, n4_1, e1, r0_1, r1_1, r2_1, r3_1, r4_1⟩ := rd48 (h.elt Try.underlying94 1 (by decide) (by kernel_rfl : _ = 5))
  match cs, hl, e0, e1 with
  | [c0, c1, c2, c3, c4, c5, c6, c7, c8, c9], _, e0, e1 =>
    simp at e0 e1
    obtain ⟨rfl, rfl, rfl, rfl, rfl⟩ := e0
    obtain ⟨rfl, rfl, rfl, rfl, rfl⟩ := e1
    exact ⟨n0_0, n1_0, xs2_0, ao2_0, b2_0, o2_0, cp2_0, n3_0, n4_0, n0_1, n1_1, xs2_1, ao2_1, b2_1, o2_1, cp2_1, n3_1, n4_1, rfl, r0_0, r1_0, r2_0, r3_0, r4_0, r0_1, r1_1, r2_1, r3_1, r4_1⟩
theorem rd4 {H : Type} {enc : TypeId × Value → H} {w : World} {cs : List Value} (h : Rd enc Try.prog w 4 cs) : ∃ (n0 : Bool), cs = [.bool n0] := by
  obtain ⟨b, e⟩ := h.bool Try.underlying4
  exact ⟨b, e⟩
theorem rd72 {H : Type} {enc : TypeId × Value → H} {w : World} {cs : List Value} (h : Rd enc Try.prog w 72 cs) : ∃ (n0 : Int) (n1 : Int) (n2 : Int) (n3 : Bool), cs = [.int .i64 n0, .int .i64 n1, .int .i64 n2, .bool n3] ∧ ((-9223372036854775808 ≤ n0 ∧ n0 ≤ 9223372036854775807)) ∧ ((-9223372036854775808 ≤ n1 ∧ n1 ≤ 9223372036854775807)) ∧ ((-9223372036854775808 ≤ n2 ∧ n2 ≤ 9223372036854775807)) := by
  have hl : cs.length = 4 := (h.struct Try.underlying72).1.trans (by kernel_rfl)
  obtain ⟨n0_0, e0, r0_0⟩ := rd3 (h.fld Try.underlying72 0 rfl rfl rfl (by kernel_rfl : _ = 1))
  obtain ⟨n0_1, e1, r0_1⟩ := rd3 (h.fld Try.underlying72 1 rfl rfl rfl (by kernel_rfl : _ = 1))
  obtain ⟨n0_2, e2, r0_2⟩ := rd3 (h.fld Try.underlying72 2 rfl rfl rfl (by kernel_rfl : _ = 1))
  obtain ⟨n0_3, e3⟩ := rd4 (h.fld Try.underlying72 3 rfl rfl rfl (by kernel_rfl : _ = 1))
  match cs, hl, e0, e1, e2, e3 with
  | [c0, c1, c2, c3], _, e0, e1, e2, e3 =>
    simp at e0 e1 e2 e3
    obtain rfl := e0
    obtain rfl := e1
    obtain rfl := e2
    obtain rfl := e3
    exact ⟨n0_0, n0_1, n0_2, n0_3, rfl, r0_0, r0_1, r0_2⟩
theorem rd5 {H : Type} {enc : TypeId × Value → H} {w : World} {cs : List Value} (h : Rd enc Try.prog w 5 cs) : ∃ (n0 : Int), cs = [.int .u8 n0] ∧ ((0 ≤ n0 ∧ n0 ≤ 255)) := h.intu8 Try.underlying5
theorem rd79 {H : Type} {enc : TypeId × Value → H} {w : World} {cs : List Value} (h : Rd enc Try.prog w 79 cs) : ∃ (xs0 : List Int) (ao0 : Option Addr) (b0 : Nat) (o0 : Nat) (cp0 : Nat), cs = [.slice ao0 xs0.length cp0] ∧ (xs0.length ≤ cp0 ∧ cp0 ≤ maxLen ∧ Sl encU8 1 w ao0 b0 o0 xs0 ∧ ∀ x ∈ xs0, (0 ≤ x ∧ x ≤ 255)) := by
  obtain ⟨ao, b, o, cap, xs, h1, h2, h3, h4, h5⟩ := h.sl (enc' := encU8) (R := fun x => (0 ≤ x ∧ x ≤ 255)) (by kernel_rfl : _ = 1) (by decide) Try.underlying79 (fun cs hc => by
    obtain ⟨n0, e, r0⟩ := rd5 hc
    exact ⟨n0, e, r0⟩)
  exact ⟨xs, ao, b, o, cap, h1, h2, h3, h4, h5⟩

theorem rd96 {H : Type} {enc : TypeId × Value → H} {w : World} {cs : List Value} (h : Rd enc Try.prog w 96 cs) : ∃ (n0 : Int) (xs1 : List Int) (ao1 : Option Addr) (b1 : Nat) (o1 : Nat) (cp1 : Nat) (xs2 : List Int) (ao2 : Option Addr) (b2 : Nat) (o2 : Nat) (cp2 : Nat), cs = [.int .u8 n0, .slice ao1 xs1.length cp1, .slice ao2 xs2.length cp2] ∧ ((0 ≤ n0 ∧ n0 ≤ 255)) ∧ (xs1.length ≤ cp1 ∧ cp1 ≤ maxLen ∧ Sl encU8 1 w ao1 b1 o1 xs1 ∧ ∀ x ∈ xs1, (0 ≤ x ∧ x ≤ 255)) ∧ (xs2.length ≤ cp2 ∧ cp2 ≤ maxLen ∧ Sl encU8 1 w ao2 b2 o2 xs2 ∧ ∀ x ∈ xs2, (0 ≤ x ∧ x ≤ 255)) := by
  have hl : cs.length = 3 := (h.struct Try.underlying96).1.trans (by kernel_rfl)
  obtain ⟨n0_0, e0, r0_0⟩ := rd5 (h.fld Try.underlying96 0 rfl rfl rfl (by kernel_rfl : _ = 1))
  obtain ⟨xs0_1, ao0_1, b0_1, o0_1, cp0_1, e1, r0_1⟩ := rd79 (h.fld Try.underlying96 1 rfl rfl rfl (by kernel_rfl : _ = 1))
  obtain ⟨xs0_2, ao0_2, b0_2, o0_2, cp0_2, e2, r0_2⟩ := rd79 (h.fld Try.underlying96 2 rfl rfl rfl (by kernel_rfl : _ = 1))
  match cs, hl, e0, e1, e2 with
  | [c0, c1, c2], _, e0, e1, e2 =>
    simp at e0 e1 e2
    obtain rfl := e0
    obtain rfl := e1
    obtain rfl := e2
    exact ⟨n0_0, xs0_1, ao0_1, b0_1, o0_1, cp0_1, xs0_2, ao0_2, b0_2, o0_2, cp0_2, rfl, r0_0, r0_1, r0_2⟩
theorem rd97 {H : Type} {enc : TypeId × Value → H} {w : World} {cs : List Value} (h : Rd enc Try.prog w 97 cs) : ∃ (n0 : Int) (xs1 : List Int) (ao1 : Option Addr) (b1 : Nat) (o1 : Nat) (cp1 : Nat) (xs2 : List Int) (ao2 : Option Addr) (b2 : Nat) (o2 : Nat) (cp2 : Nat) (n3 : Int) (xs4 : List Int) (ao4 : Option Addr) (b4 : Nat) (o4 : Nat) (cp4 : Nat) (xs5 : List Int) (ao5 : Option Addr) (b5 : Nat) (o5 : Nat) (cp5 : Nat), cs = [.int .u8 n0, .slice ao1 xs1.length cp1, .slice ao2 xs2.length cp2, .int .u8 n3, .slice ao4 xs4.length cp4, .slice ao5 xs5.length cp5] ∧ ((0 ≤ n0 ∧ n0 ≤ 255)) ∧ (xs1.length ≤ cp1 ∧ cp1 ≤ maxLen ∧ Sl encU8 1 w ao1 b1 o1 xs1 ∧ ∀ x ∈ xs1, (0 ≤ x ∧ x ≤ 255)) ∧ (xs2.length ≤ cp2 ∧ cp2 ≤ maxLen ∧ Sl encU8 1 w ao2 b2 o2 xs2 ∧ ∀ x ∈ xs2, (0 ≤ x ∧ x ≤ 255)) ∧ ((0 ≤ n3 ∧ n3 ≤ 255)) ∧ (xs4.length ≤ cp4 ∧ cp4 ≤ maxLen ∧ Sl encU8 1 w ao4 b4 o4 xs4 ∧ ∀ x ∈ xs4, (0 ≤ x ∧ x ≤ 255)) ∧ (xs5.length ≤ cp5 ∧ cp5 ≤ maxLen ∧ Sl encU8 1 w ao5 b5 o5 xs5 ∧ ∀ x ∈ xs5, (0 ≤ x ∧ x ≤ 255)) := by
  have hl : cs.length = 6 := (h.array Try.underlying97).1.trans (by kernel_rfl)
  obtain ⟨n0_0, xs1_0, ao1_0, b1_0, o1_0, cp1_0, xs2_0, ao2_0, b2_0, o2_0, cp2_0, e0, r0_0, r1_0, r2_0⟩ := rd96 (h.elt Try.underlying97 0 (by decide) (by kernel_rfl : _ = 3))
  obtain ⟨n0_1, xs1_1, ao1_1, b1_1, o1_1, cp1_1, xs2_1, ao2_1, b2_1, o2_1, cp2_1, e1, r0_1, r1_1, r2_1⟩ := rd96 (h.elt Try.underlying97 1 (by decide) (by kernel_rfl : _ = 3))
  match cs, hl, e0, e1 with
  | [c0, c1, c2, c3, c4, c5], _, e0, e1 =>
    simp at e0 e1
    obtain ⟨rfl, rfl, rfl⟩ := e0
    obtain ⟨rfl, rfl, rfl⟩ := e1
    exact ⟨n0_0, xs1_0, ao1_0, b1_0, o1_0, cp1_0, xs2_0, ao2_0, b2_0, o2_0, cp2_0, n0_1, xs1_1, ao1_1, b1_1, o1_1, cp1_1, xs2_1, ao2_1, b2_1, o2_1, cp2_1, rfl, r0_0, r1_0, r2_0, r0_1, r1_1, r2_1⟩


theorem ownTowTruths : ownKnob Try.prog.godebug = none := by kernel_rfl
theorem laidOutTowTruths : laidOutB Try.prog = true := by kernel_rfl
set_option maxHeartbeats 1000000 in
set_option maxRecDepth 100000 in
theorem liftedTowTruths (os : Os) (started : os.Started) (H : Type) (enc : TypeId × Value → H) :
    ReturnsInHanded {} Try.checked os 12 .any (Rows.towTruthsSpec.pre6 enc Try.prog Try.f12 Rows.towTruthsRow.domain false) (Rows.towTruthsSpec.post enc Try.prog Try.f12 false true false false) := by
  refine returnsInHanded_of_change (C := Try.checked) ownTowTruths started (by kernel_rfl) Try.func12
    (ChangeSpec.witness6 (enc := enc) (C := Try.checked) false ⟨#[], #[.agg #[.int .i64 0, .int .i64 0, .slice none 0 0, .int .i64 0, .int .i64 0, .int .i64 0, .int .i64 0, .slice none 0 0, .int .i64 0, .int .i64 0], .agg #[.int .i64 0, .int .i64 0, .int .i64 0, .bool false], .agg #[.int .u8 0, .slice none 0 0, .slice none 0 0, .int .u8 0, .slice none 0 0, .slice none 0 0]], []⟩ 8 (by kernel_rfl) (by kernel_rfl) (by kernel_rfl) (by kernel_rfl)) ?_
  intro W base args ds gs before hval0 hW hcnd _
  have hval : ∀ (j : Nat) t v, Try.f12.params[j]? = some t → args[j]? = some v → Value.okWide Try.prog W .any base t v := hval0
  have hW' := hW
  obtain ⟨p, q, hA0, hV, rfl, hfz, hnd⟩ := hW
  have hA : DataW.TrodAll enc Try.prog W 0 (fun _ => true) true Try.f12.params.toList args.toList ds p := hA0
  rw [Try.params12] at hA hval
  obtain ⟨v0, vs0, d0, ds0, p0, q0, hargs, rfl, rfl, h0, r0⟩ := trodAll_cons hA
  obtain ⟨v1, vs1, d1, ds1, p1, q1, rfl, rfl, rfl, h1, r1⟩ := trodAll_cons r0
  obtain ⟨v2, vs2, d2, ds2, p2, q2, rfl, rfl, rfl, h2, r2⟩ := trodAll_cons r1
  obtain ⟨rfl, rfl, rfl⟩ := trodAll_nil r2
  obtain rfl : args = #[v0, v1, v2] := by cases args; simp_all
  obtain ⟨rfl, rfl⟩ := trodVars_none hV
  have k0 := h0
  have lt0 : ∀ x ∈ p0, x.block < W.heap.size := by obtain ⟨m, hm⟩ := k0; exact DataW.trod_lt m _ _ _ hm
  obtain ⟨cs0, rfl, -⟩ := okWide_array Try.underlying94 (hval 0 94 v0 rfl rfl)
  obtain ⟨n0_p0, n1_p0, xs2_p0, ao2_p0, b2_p0, o2_p0, cp2_p0, n3_p0, n4_p0, n5_p0, n6_p0, xs7_p0, ao7_p0, b7_p0, o7_p0, cp7_p0, n8_p0, n9_p0, ce0, f0_p0, f1_p0, f2_p0, f3_p0, f4_p0, f5_p0, f6_p0, f7_p0, f8_p0, f9_p0⟩ := rd94 (Rd.of h0)
  obtain rfl : cs0 = #[.int .i64 n0_p0, .int .i64 n1_p0, .slice ao2_p0 xs2_p0.length cp2_p0, .int .i64 n3_p0, .int .i64 n4_p0, .int .i64 n5_p0, .int .i64 n6_p0, .slice ao7_p0 xs7_p0.length cp7_p0, .int .i64 n8_p0, .int .i64 n9_p0] := by cases cs0; simpa [Value.cells] using ce0
  have k1 := h1
  have lt1 : ∀ x ∈ p1, x.block < W.heap.size := by obtain ⟨m, hm⟩ := k1; exact DataW.trod_lt m _ _ _ hm
  obtain ⟨cs1, rfl, -⟩ := okWide_struct Try.underlying72 (hval 1 72 v1 rfl rfl)
  obtain ⟨n0_p1, n1_p1, n2_p1, n3_p1, ce1, f0_p1, f1_p1, f2_p1⟩ := rd72 (Rd.of h1)
  obtain rfl : cs1 = #[.int .i64 n0_p1, .int .i64 n1_p1, .int .i64 n2_p1, .bool n3_p1] := by cases cs1; simpa [Value.cells] using ce1
  have k2 := h2
  have lt2 : ∀ x ∈ p2, x.block < W.heap.size := by obtain ⟨m, hm⟩ := k2; exact DataW.trod_lt m _ _ _ hm
  obtain ⟨cs2, rfl, -⟩ := okWide_array Try.underlying97 (hval 2 97 v2 rfl rfl)
  obtain ⟨n0_p2, xs1_p2, ao1_p2, b1_p2, o1_p2, cp1_p2, xs2_p2, ao2_p2, b2_p2, o2_p2, cp2_p2, n3_p2, xs4_p2, ao4_p2, b4_p2, o4_p2, cp4_p2, xs5_p2, ao5_p2, b5_p2, o5_p2, cp5_p2, ce2, f0_p2, f1_p2, f2_p2, f3_p2, f4_p2, f5_p2⟩ := rd97 (Rd.of h2)
  obtain rfl : cs2 = #[.int .u8 n0_p2, .slice ao1_p2 xs1_p2.length cp1_p2, .slice ao2_p2 xs2_p2.length cp2_p2, .int .u8 n3_p2, .slice ao4_p2 xs4_p2.length cp4_p2, .slice ao5_p2 xs5_p2.length cp5_p2] := by cases cs2; simpa [Value.cells] using ce2
  clear hA0 hval0
  refine Calls.mono (TowTruths_c ⟨⟨n0_p0, n1_p0⟩, xs2_p0, n3_p0, n4_p0⟩ ao2_p0 b2_p0 o2_p0 cp2_p0 ⟨⟨n5_p0, n6_p0⟩, xs7_p0, n8_p0, n9_p0⟩ ao7_p0 b7_p0 o7_p0 cp7_p0 ⟨n0_p1, n1_p1, n2_p1, n3_p1⟩ n0_p2 xs1_p2 xs2_p2 ao1_p2 b1_p2 o1_p2 cp1_p2 ao2_p2 b2_p2 o2_p2 cp2_p2 n3_p2 xs4_p2 xs5_p2 ao4_p2 b4_p2 o4_p2 cp4_p2 ao5_p2 b5_p2 o5_p2 cp5_p2 W f2_p0.2.2.1 f7_p0.2.2.1 f0_p2 f1_p2.2.2.1 f2_p2.2.2.1 ⟨f1_p2.2.2.2, f2_p2.2.2.2⟩ (Nat.le_trans f1_p2.1 f1_p2.2.1) (Nat.le_trans f2_p2.1 f2_p2.2.1) f3_p2 f4_p2.2.2.1 f5_p2.2.2.1 ⟨f4_p2.2.2.2, f5_p2.2.2.2⟩ (Nat.le_trans f4_p2.1 f4_p2.2.1) (Nat.le_trans f5_p2.1 f5_p2.2.1)) fun e W' hv => ?_
  obtain ⟨v, rfl, rfl, ext⟩ := hv
  have bel := Ext.below ext
  exact ⟨_, rfl, _, _, _, [], _, [], hW', trodAll_mk1 (shut_bool Try.underlying4 _), (trodAll_cons_mk (Below.trod laidOutTowTruths (by kernel_rfl) (of_decide_eq_true (by kernel_rfl)) k0 bel lt0) (trodAll_cons_mk (Below.trod laidOutTowTruths (by kernel_rfl) (of_decide_eq_true (by kernel_rfl)) k1 bel lt1) (trodAll_cons_mk (Below.trod laidOutTowTruths (by kernel_rfl) (of_decide_eq_true (by kernel_rfl)) k2 bel lt2) trodAll_mk0))), rfl, bel.frame _, fun h => by cases h⟩

theorem overTowTruths : Rows.towTruthsRow.holds Try.pinned (OpenSpec.ofChange Rows.towTruthsSpec) :=
  OpenClaim.holds_of_wide 12 Try.f12 rfl rfl rfl rfl rfl rfl rfl ⟨rfl, rfl, rfl, rfl, rfl⟩ rfl rfl rfl rfl rfl (by kernel_rfl) Try.func12 (by kernel_rfl)
    (of_decide_eq_true (by kernel_rfl)) (by unfold Func.isWrapper; first | (rw [if_pos (by decide +kernel)]; kernel_rfl) | (rw [if_neg (by decide +kernel)]; exact ⟨rfl, rfl⟩))
    (fun os started H enc _ => liftedTowTruths os started H enc)
theorem provedTowTruths : Rows.TowTruthsSaid := overTowTruths
#print axioms provedTowTruths
end Go.Proofs.Ytmicjleiheoieaa
