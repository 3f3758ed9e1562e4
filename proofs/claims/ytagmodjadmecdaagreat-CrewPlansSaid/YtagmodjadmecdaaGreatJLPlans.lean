/-
  The law CrewPlans: the given statement holds. Conditions: none.
-/
import Derived.Test.YtagmodjadmecdaaGreatRows
import Derived.WalkKit
import Derived.ProofKit
import Derived.OpenShut
import Derived.ShutString
import Derived.ChangeOld
import Derived.Below
import Derived.Test.YtagmodjadmecdaaGreatJK18
namespace Go.Proofs.YtagmodjadmecdaaGreat
open Go Go.ChangeShapes Go.WideShapes Go.ChangeAt Go.RowKit
set_option linter.unusedVariables false
theorem rd3 {H : Type} {enc : TypeId × Value → H} {w : World} {cs : List Value} (h : Rd enc Tryz.prog w 3 cs) : ∃ (n0 : Int), cs = [.int .i64 n0] ∧ ((-9223372036854775808 ≤ n0 ∧ n0 ≤ 9223372036854775807)) := h.int Tryz.underlying3
theorem rd23 {H : Type} {enc : TypeId × Value → H} {w : World} {cs : List Value} (h : Rd enc Tryz.prog w 23 cs) : ∃ (n0 : Int) (n1 : Int) (n2 : Int) (n3 : Int) (n4 : Int), cs = [.int .i64 n0, .int .i64 n1, .int .i64 n2, .int .i64 n3, .int .i64 n4] ∧ ((-9223372036854775808 ≤ n0 ∧ n0 ≤ 9223372036854775807)) ∧ ((-9223372036854775808 ≤ n1 ∧ n1 ≤ 9223372036854775807)) ∧ ((-9223372036854775808 ≤ n2 ∧ n2 ≤ 9223372036854775807)) ∧ ((-9223372036854775808 ≤ n3 ∧ n3 ≤ 9223372036854775807)) ∧ ((-9223372036854775808 ≤ n4 ∧ n4 ≤ 9223372036854775807)) := by
  have hl : cs.length = 5 := (h.struct Tryz.underlying23).1.trans (by kernel_rfl)
  obtain ⟨n0_0, e0, r0_0⟩ := rd3 (h.fld Tryz.underlying23 0 rfl rfl rfl (by kernel_rfl : _ = 1))
  obtain ⟨n0_1, e1, r0_1⟩ := rd3 (h.fld Tryz.underlying23 1 rfl rfl rfl (by kernel_rfl : _ = 1))
  obtain ⟨n0_2, e2, r0_2⟩ := rd3 (h.fld Tryz.underlying23 2 rfl rfl rfl (by kernel_rfl : _ = 1))
  obtain ⟨n0_3, e3, r0_3⟩ := rd3 (h.fld Tryz.underlying23 3 rfl rfl rfl (by kernel_rfl : _ = 1))
  obtain ⟨n0_4, e4, r0_4⟩ := rd3 (h.fld Tryz.underlying23 4 rfl rfl rfl (by kernel_rfl : _ = 1))
  match cs, hl, e0, e1, e2, e3, e4 with
  | [c0, c1, c2, c3, c4], _, e0, e1, e2, e3, e4 =>
    simp at e0 e1 e2 e3 e4
    obtain rfl := e0
    obtain rfl := e1
    obtain rfl := e2
    obtain rfl := e3
    obtain rfl := e4
    exact ⟨n0_0, n0_1, n0_2, n0_3, n0_4, rfl, r0_0, r0_1, r0_2, r0_3, r0_4⟩
theorem rd136 {H : Type} {enc : TypeId × Value → H} {w : World} {cs : List Value} (h : Rd enc Tryz.prog w 136 cs) : ∃ (n0 : Int) (n1 : Int), cs = [.int .i64 n0, .int .i64 n1] ∧ ((-9223372036854775808 ≤ n0 ∧ n0 ≤ 9223372036854775807)) ∧ ((-9223372036854775808 ≤ n1 ∧ n1 ≤ 9223372036854775807)) := by
  have hl : cs.length = 2 := (h.struct Tryz.underlying136).1.trans (by kernel_rfl)
  obtain ⟨n0_0, e0, r0_0⟩ := rd3 (h.fld Tryz.underlying136 0 rfl rfl rfl (by kernel_rfl : _ = 1))
  obtain ⟨n0_1, e1, r0_1⟩ := rd3 (h.fld Tryz.underlying136 1 rfl rfl rfl (by kernel_rfl : _ = 1))
  match cs, hl, e0, e1 with
  | [c0, c1], _, e0, e1 =>
    simp at e0 e1
    obtain rfl := e0
    obtain rfl := e1
    exact ⟨n0_0, n0_1, rfl, r0_0, r0_1⟩
theorem rd77 {H : Type} {enc : TypeId × Value → H} {w : World} {cs : List Value} (h : Rd enc Tryz.prog w 77 cs) : ∃ (xs0 : List Ppr) (ao0 : Option Addr) (b0 : Nat) (o0 : Nat) (cp0 : Nat), cs = [.slice ao0 xs0.length cp0] ∧ (xs0.length ≤ cp0 ∧ cp0 ≤ maxLen ∧ Sl encPpr 2 w ao0 b0 o0 xs0 ∧ ∀ x ∈ xs0, True) := by
  obtain ⟨ao, b, o, cap, xs, h1, h2, h3, h4, h5⟩ := h.sl (enc' := encPpr) (R := fun x => True) (by kernel_rfl : _ = 2) (by decide) Tryz.underlying77 (fun cs hc => by
    obtain ⟨n0, n1, e, r0, r1⟩ := rd136 hc
    exact ⟨⟨n0, n1⟩, e, trivial⟩)
  exact ⟨xs, ao, b, o, cap, h1, h2, h3, h4, h5⟩

theorem rd35 {H : Type} {enc : TypeId × Value → H} {w : World} {cs : List Value} (h : Rd enc Tryz.prog w 35 cs) : ∃ (n0 : Int) (n1 : Int), cs = [.int .i64 n0, .int .i64 n1] ∧ ((-9223372036854775808 ≤ n0 ∧ n0 ≤ 9223372036854775807)) ∧ ((-9223372036854775808 ≤ n1 ∧ n1 ≤ 9223372036854775807)) := by
  have hl : cs.length = 2 := (h.struct Tryz.underlying35).1.trans (by kernel_rfl)
  obtain ⟨n0_0, e0, r0_0⟩ := rd3 (h.fld Tryz.underlying35 0 rfl rfl rfl (by kernel_rfl : _ = 1))
  obtain ⟨n0_1, e1, r0_1⟩ := rd3 (h.fld Tryz.underlying35 1 rfl rfl rfl (by kernel_rfl : _ = 1))
  match cs, hl, e0, e1 with
  | [c0, c1], _, e0, e1 =>
    simp at e0 e1
    obtain rfl := e0
    obtain rfl := e1
    exact ⟨n0_0, n0_1, rfl, r0_0, r0_1⟩
theorem rd37 {H : Type} {enc : TypeId × Value → H} {w : World} {cs : List Value} (h : Rd enc Tryz.prog w 37 cs) : ∃ (n0 : Int) (n1 : Int) (n2 : Int) (n3 : Int), cs = [.int .i64 n0, .int .i64 n1, .int .i64 n2, .int .i64 n3] ∧ ((-9223372036854775808 ≤ n0 ∧ n0 ≤ 9223372036854775807)) ∧ ((-9223372036854775808 ≤ n1 ∧ n1 ≤ 9223372036854775807)) ∧ ((-9223372036854775808 ≤ n2 ∧ n2 ≤ 9223372036854775807)) ∧ ((-9223372036854775808 ≤ n3 ∧ n3 ≤ 9223372036854775807)) := by
  have hl : cs.length = 4 := (h.struct Tryz.underlying37).1.trans (by kernel_rfl)
  obtain ⟨n0_0, n1_0, e0, r0_0, r1_0⟩ := rd35 (h.fld Tryz.underlying37 0 rfl rfl rfl (by kernel_rfl : _ = 2))
  obtain ⟨n0_1, n1_1, e1, r0_1, r1_1⟩ := rd35 (h.fld Tryz.underlying37 1 rfl rfl rfl (by kernel_rfl : _ = 2))
  match cs, hl, e0, e1 with
  | [c0, c1, c2, c3], _, e0, e1 =>
    simp at e0 e1
    obtain ⟨rfl, rfl⟩ := e0
    obtain ⟨rfl, rfl⟩ := e1
    exact ⟨n0_0, n1_0, n0_1, n1_1, rfl, r0_0, r1_0, r0_1, r1_1⟩
theorem rd24 {H : Type} {enc : TypeId × Value → H} {w : World} {cs : List Value} (h : Rd enc Tryz.prog w 24 cs) : ∃ (xs0 : List Dty) (ao0 : Option Addr) (b0 : Nat) (o0 : Nat) (cp0 : Nat), cs = [.slice ao0 xs0.length cp0] ∧ (xs0.length ≤ cp0 ∧ cp0 ≤ maxLen ∧ Sl encDty 4 w ao0 b0 o0 xs0 ∧ ∀ x ∈ xs0, True) := by
  obtain ⟨ao, b, o, cap, xs, h1, h2, h3, h4, h5⟩ := h.sl (enc' := encDty) (R := fun x => True) (by kernel_rfl : _ = 4) (by decide) Tryz.underlying24 (fun cs hc => by
    obtain ⟨n0, n1, n2, n3, e, r0, r1, r2, r3⟩ := rd37 hc
    exact ⟨⟨n0, n1, n2, n3⟩, e, trivial⟩)
  exact ⟨xs, ao, b, o, cap, h1, h2, h3, h4, h5⟩

theorem rd79 {H : Type} {enc : TypeId × Value → H} {w : World} {cs : List Value} (h : Rd enc Tryz.prog w 79 cs) : ∃ (n0 : Int) (n1 : Int) (xs2 : List Ppr) (ao2 : Option Addr) (b2 : Nat) (o2 : Nat) (cp2 : Nat) (xs3 : List Dty) (ao3 : Option Addr) (b3 : Nat) (o3 : Nat) (cp3 : Nat), cs = [.int .i64 n0, .int .i64 n1, .slice ao2 xs2.length cp2, .slice ao3 xs3.length cp3] ∧ ((-9223372036854775808 ≤ n0 ∧ n0 ≤ 9223372036854775807)) ∧ ((-9223372036854775808 ≤ n1 ∧ n1 ≤ 9223372036854775807)) ∧ (xs2.length ≤ cp2 ∧ cp2 ≤ maxLen ∧ Sl encPpr 2 w ao2 b2 o2 xs2 ∧ ∀ x ∈ xs2, True) ∧ (xs3.length ≤ cp3 ∧ cp3 ≤ maxLen ∧ Sl encDty 4 w ao3 b3 o3 xs3 ∧ ∀ x ∈ xs3, True) := by
  have hl : cs.length = 4 := (h.struct Tryz.underlying79).1.trans (by kernel_rfl)
  obtain ⟨n0_0, e0, r0_0⟩ := rd3 (h.fld Tryz.underlying79 0 rfl rfl rfl (by kernel_rfl : _ = 1))
  obtain ⟨n0_1, e1, r0_1⟩ := rd3 (h.fld Tryz.underlying79 1 rfl rfl rfl (by kernel_rfl : _ = 1))
  obtain ⟨xs0_2, ao0_2, b0_2, o0_2, cp0_2, e2, r0_2⟩ := rd77 (h.fld Tryz.underlying79 2 rfl rfl rfl (by kernel_rfl : _ = 1))
  obtain ⟨xs0_3, ao0_3, b0_3, o0_3, cp0_3, e3, r0_3⟩ := rd24 (h.fld Tryz.underlying79 3 rfl rfl rfl (by kernel_rfl : _ = 1))
  match cs, hl, e0, e1, e2, e3 with
  | [c0, c1, c2, c3], _, e0, e1, e2, e3 =>
    simp at e0 e1 e2 e3
    obtain rfl := e0
    obtain rfl := e1
    obtain rfl := e2
    obtain rfl := e3
    exact ⟨n0_0, n0_1, xs0_2, ao0_2, b0_2, o0_2, cp0_2, xs0_3, ao0_3, b0_3, o0_3, cp0_3, rfl, r0_0, r0_1, r0_2, r0_3⟩
theorem rd54 {H : Type} {enc : TypeId × Value → H} {w : World} {cs : List Value} (h : Rd enc Tryz.prog w 54 cs) : ∃ (xs0 : List HS) (ao0 : Option Addr) (b0 : Nat) (o0 : Nat) (cp0 : Nat), cs = [.slice ao0 xs0.length cp0] ∧ (xs0.length ≤ cp0 ∧ cp0 ≤ maxLen ∧ Sl encHS 4 w ao0 b0 o0 xs0 ∧ ∀ x ∈ xs0, Sl encPpr 2 w x.ap x.bp x.op x.ps ∧ x.ps.length ≤ 9223372036854775807 ∧ Sl encDty 4 w x.ad x.bd x.od x.ds ∧ x.ds.length ≤ 9223372036854775807) := by
  obtain ⟨ao, b, o, cap, xs, h1, h2, h3, h4, h5⟩ := h.sl (enc' := encHS) (R := fun x => Sl encPpr 2 w x.ap x.bp x.op x.ps ∧ x.ps.length ≤ 9223372036854775807 ∧ Sl encDty 4 w x.ad x.bd x.od x.ds ∧ x.ds.length ≤ 9223372036854775807) (by kernel_rfl : _ = 4) (by decide) Tryz.underlying54 (fun cs hc => by
    obtain ⟨n0, n1, xs2, ao2, b2, o2, cp2, xs3, ao3, b3, o3, cp3, e, r0, r1, r2, r3⟩ := rd79 hc
    exact ⟨⟨n0, n1, xs2, ao2, b2, o2, cp2, xs3, ao3, b3, o3, cp3⟩, e, r2.2.2.1, Nat.le_trans r2.1 r2.2.1, r3.2.2.1, Nat.le_trans r3.1 r3.2.1⟩)
  exact ⟨xs, ao, b, o, cap, h1, h2, h3, h4, h5⟩

theorem rd68 {H : Type} {enc : TypeId × Value → H} {w : World} {cs : List Value} (h : Rd enc Tryz.prog w 68 cs) : ∃ (n0 : Int) (n1 : Int) (n2 : Int) (n3 : Int) (n4 : Int) (n5 : Int) (n6 : Int), cs = [.int .i64 n0, .int .i64 n1, .int .i64 n2, .int .i64 n3, .int .i64 n4, .int .i64 n5, .int .i64 n6] ∧ ((-9223372036854775808 ≤ n0 ∧ n0 ≤ 9223372036854775807)) ∧ ((-9223372036854775808 ≤ n1 ∧ n1 ≤ 9223372036854775807)) ∧ ((-9223372036854775808 ≤ n2 ∧ n2 ≤ 9223372036854775807)) ∧ ((-9223372036854775808 ≤ n3 ∧ n3 ≤ 9223372036854775807)) ∧ ((-9223372036854775808 ≤ n4 ∧ n4 ≤ 9223372036854775807)) ∧ ((-9223372036854775808 ≤ n5 ∧ n5 ≤ 9223372036854775807)) ∧ ((-9223372036854775808 ≤ n6 ∧ n6 ≤ 9223372036854775807)) := by
  have hl : cs.length = 7 := (h.struct Tryz.underlying68).1.trans (by kernel_rfl)
  obtain ⟨n0_0, e0, r0_0⟩ := rd3 (h.fld Tryz.underlying68 0 rfl rfl rfl (by kernel_rfl : _ = 1))
  obtain ⟨n0_1, n1_1, n2_1, n3_1, e1, r0_1, r1_1, r2_1, r3_1⟩ := rd37 (h.fld Tryz.underlying68 1 rfl rfl rfl (by kernel_rfl : _ = 4))
  obtain ⟨n0_2, e2, r0_2⟩ := rd3 (h.fld Tryz.underlying68 2 rfl rfl rfl (by kernel_rfl : _ = 1))
  obtain ⟨n0_3, e3, r0_3⟩ := rd3 (h.fld Tryz.underlying68 3 rfl rfl rfl (by kernel_rfl : _ = 1))
  match cs, hl, e0, e1, e2, e3 with
  | [c0, c1, c2, c3, c4, c5, c6], _, e0, e1, e2, e3 =>
    simp at e0 e1 e2 e3
    obtain rfl := e0
    obtain ⟨rfl, rfl, rfl, rfl⟩ := e1
    obtain rfl := e2
    obtain rfl := e3
    exact ⟨n0_0, n0_1, n1_1, n2_1, n3_1, n0_2, n0_3, rfl, r0_0, r0_1, r1_1, r2_1, r3_1, r0_2, r0_3⟩
theorem rd55 {H : Type} {enc : TypeId × Value → H} {w : World} {cs : List Value} (h : Rd enc Tryz.prog w 55 cs) : ∃ (xs0 : List Leg) (ao0 : Option Addr) (b0 : Nat) (o0 : Nat) (cp0 : Nat), cs = [.slice ao0 xs0.length cp0] ∧ (xs0.length ≤ cp0 ∧ cp0 ≤ maxLen ∧ Sl encLeg 7 w ao0 b0 o0 xs0 ∧ ∀ x ∈ xs0, True) := by
  obtain ⟨ao, b, o, cap, xs, h1, h2, h3, h4, h5⟩ := h.sl (enc' := encLeg) (R := fun x => True) (by kernel_rfl : _ = 7) (by decide) Tryz.underlying55 (fun cs hc => by
    obtain ⟨n0, n1, n2, n3, n4, n5, n6, e, r0, r1, r2, r3, r4, r5, r6⟩ := rd68 hc
    exact ⟨⟨n0, ⟨n1, n2, n3, n4⟩, n5, n6⟩, e, trivial⟩)
  exact ⟨xs, ao, b, o, cap, h1, h2, h3, h4, h5⟩

theorem rd60 {H : Type} {enc : TypeId × Value → H} {w : World} {cs : List Value} (h : Rd enc Tryz.prog w 60 cs) : ∃ (xs0 : List Int) (ao0 : Option Addr) (b0 : Nat) (o0 : Nat) (cp0 : Nat), cs = [.slice ao0 xs0.length cp0] ∧ (xs0.length ≤ cp0 ∧ cp0 ≤ maxLen ∧ Sl encI 1 w ao0 b0 o0 xs0 ∧ ∀ x ∈ xs0, True) := by
  obtain ⟨ao, b, o, cap, xs, h1, h2, h3, h4, h5⟩ := h.sl (enc' := encI) (R := fun x => True) (by kernel_rfl : _ = 1) (by decide) Tryz.underlying60 (fun cs hc => by
    obtain ⟨n0, e, r0⟩ := rd3 hc
    exact ⟨n0, e, trivial⟩)
  exact ⟨xs, ao, b, o, cap, h1, h2, h3, h4, h5⟩

theorem rd56 {H : Type} {enc : TypeId × Value → H} {w : World} {cs : List Value} (h : Rd enc Tryz.prog w 56 cs) : ∃ (xs0 : List HL) (ao0 : Option Addr) (b0 : Nat) (o0 : Nat) (cp0 : Nat), cs = [.slice ao0 xs0.length cp0] ∧ (xs0.length ≤ cp0 ∧ cp0 ≤ maxLen ∧ Sl encHL 1 w ao0 b0 o0 xs0 ∧ ∀ x ∈ xs0, Sl encI 1 w x.ao x.b x.o x.xs ∧ x.xs.length ≤ 9223372036854775807) := by
  obtain ⟨ao, b, o, cap, xs, h1, h2, h3, h4, h5⟩ := h.sl (enc' := encHL) (R := fun x => Sl encI 1 w x.ao x.b x.o x.xs ∧ x.xs.length ≤ 9223372036854775807) (by kernel_rfl : _ = 1) (by decide) Tryz.underlying56 (fun cs hc => by
    obtain ⟨xs0, ao0, b0, o0, cp0, e, r0⟩ := rd60 hc
    exact ⟨⟨xs0, ao0, b0, o0, cp0⟩, e, r0.2.2.1, Nat.le_trans r0.1 r0.2.1⟩)
  exact ⟨xs, ao, b, o, cap, h1, h2, h3, h4, h5⟩

theorem rd58 {H : Type} {enc : TypeId × Value → H} {w : World} {cs : List Value} (h : Rd enc Tryz.prog w 58 cs) : ∃ (xs0 : List Leg) (ao0 : Option Addr) (b0 : Nat) (o0 : Nat) (cp0 : Nat) (xs1 : List HL) (ao1 : Option Addr) (b1 : Nat) (o1 : Nat) (cp1 : Nat), cs = [.slice ao0 xs0.length cp0, .slice ao1 xs1.length cp1] ∧ (xs0.length ≤ cp0 ∧ cp0 ≤ maxLen ∧ Sl encLeg 7 w ao0 b0 o0 xs0 ∧ ∀ x ∈ xs0, True) ∧ (xs1.length ≤ cp1 ∧ cp1 ≤ maxLen ∧ Sl encHL 1 w ao1 b1 o1 xs1 ∧ ∀ x ∈ xs1, Sl encI 1 w x.ao x.b x.o x.xs ∧ x.xs.length ≤ 9223372036854775807) := by
  have hl : cs.length = 2 := (h.struct Tryz.underlying58).1.trans (by kernel_rfl)
  obtain ⟨xs0_0, ao0_0, b0_0, o0_0, cp0_0, e0, r0_0⟩ := rd55 (h.fld Tryz.underlying58 0 rfl rfl rfl (by kernel_rfl : _ = 1))
  obtain ⟨xs0_1, ao0_1, b0_1, o0_1, cp0_1, e1, r0_1⟩ := rd56 (h.fld Tryz.underlying58 1 rfl rfl rfl (by kernel_rfl : _ = 1))
  match cs, hl, e0, e1 with
  | [c0, c1], _, e0, e1 =>
    simp at e0 e1
    obtain rfl := e0
    obtain rfl := e1
    exact ⟨xs0_0, ao0_0, b0_0, o0_0, cp0_0, xs0_1, ao0_1, b0_1, o0_1, cp0_1, rfl, r0_0, r0_1⟩


theorem ownCrewPlans : ownKnob Tryz.prog.godebug = none := by kernel_rfl
theorem laidOutCrewPlans : laidOutB Tryz.prog = true := by kernel_rfl
set_option maxHeartbeats 1000000 in
set_option maxRecDepth 100000 in
theorem liftedCrewPlans (os : Os) (started : os.Started) (H : Type) (enc : TypeId × Value → H) :
    ReturnsInHanded {} Tryz.checked os 5 .any (Rows.crewPlansSpec.pre6 enc Tryz.prog Tryz.f5 Rows.crewPlansRow.domain false) (Rows.crewPlansSpec.post enc Tryz.prog Tryz.f5 false true false false) := by
  refine returnsInHanded_of_change (C := Tryz.checked) ownCrewPlans started (by kernel_rfl) Tryz.func5
    (ChangeSpec.witness6 (enc := enc) (C := Tryz.checked) false ⟨#[], #[.agg #[.int .i64 0, .int .i64 0, .int .i64 0, .int .i64 0, .int .i64 0], .slice none 0 0, .agg #[.slice none 0 0, .slice none 0 0]], []⟩ 8 (by kernel_rfl) (by kernel_rfl) (by kernel_rfl) (by kernel_rfl)) ?_
  intro W base args ds gs before hval0 hW hcnd _
  have hval : ∀ (j : Nat) t v, Tryz.f5.params[j]? = some t → args[j]? = some v → Value.okWide Tryz.prog W .any base t v := hval0
  have hW' := hW
  obtain ⟨p, q, hA0, hV, rfl, hfz, hnd⟩ := hW
  have hA : DataW.TrodAll enc Tryz.prog W 0 (fun _ => true) true Tryz.f5.params.toList args.toList ds p := hA0
  rw [Tryz.params5] at hA hval
  obtain ⟨v0, vs0, d0, ds0, p0, q0, hargs, rfl, rfl, h0, r0⟩ := trodAll_cons hA
  obtain ⟨v1, vs1, d1, ds1, p1, q1, rfl, rfl, rfl, h1, r1⟩ := trodAll_cons r0
  obtain ⟨v2, vs2, d2, ds2, p2, q2, rfl, rfl, rfl, h2, r2⟩ := trodAll_cons r1
  obtain ⟨rfl, rfl, rfl⟩ := trodAll_nil r2
  obtain rfl : args = #[v0, v1, v2] := by cases args; simp_all
  obtain ⟨rfl, rfl⟩ := trodVars_none hV
  have k0 := h0
  have lt0 : ∀ x ∈ p0, x.block < W.heap.size := by obtain ⟨m, hm⟩ := k0; exact DataW.trod_lt m _ _ _ hm
  obtain ⟨cs0, rfl, -⟩ := okWide_struct Tryz.underlying23 (hval 0 23 v0 rfl rfl)
  obtain ⟨n0_p0, n1_p0, n2_p0, n3_p0, n4_p0, ce0, f0_p0, f1_p0, f2_p0, f3_p0, f4_p0⟩ := rd23 (Rd.of h0)
  obtain rfl : cs0 = #[.int .i64 n0_p0, .int .i64 n1_p0, .int .i64 n2_p0, .int .i64 n3_p0, .int .i64 n4_p0] := by cases cs0; simpa [Value.cells] using ce0
  have k1 := h1
  have lt1 : ∀ x ∈ p1, x.block < W.heap.size := by obtain ⟨m, hm⟩ := k1; exact DataW.trod_lt m _ _ _ hm
  obtain ⟨aa1, ll1, cc1, rfl⟩ := okWide_slice Tryz.underlying54 (hval 1 54 v1 rfl rfl)
  obtain ⟨xs0_p1, ao0_p1, b0_p1, o0_p1, cp0_p1, ce1, f0_p1⟩ := rd54 (Rd.of h1)
  simp [Value.cells] at ce1
  obtain ⟨cx1, cy1, cz1⟩ := ce1
  subst cy1
  obtain rfl := cx1.symm
  obtain rfl := cz1.symm
  have k2 := h2
  have lt2 : ∀ x ∈ p2, x.block < W.heap.size := by obtain ⟨m, hm⟩ := k2; exact DataW.trod_lt m _ _ _ hm
  obtain ⟨cs2, rfl, -⟩ := okWide_struct Tryz.underlying58 (hval 2 58 v2 rfl rfl)
  obtain ⟨xs0_p2, ao0_p2, b0_p2, o0_p2, cp0_p2, xs1_p2, ao1_p2, b1_p2, o1_p2, cp1_p2, ce2, f0_p2, f1_p2⟩ := rd58 (Rd.of h2)
  obtain rfl : cs2 = #[.slice ao0_p2 xs0_p2.length cp0_p2, .slice ao1_p2 xs1_p2.length cp1_p2] := by cases cs2; simpa [Value.cells] using ce2
  clear hA0 hval0
  refine Calls.mono (CrewPlans_c ⟨n0_p0, n1_p0, n2_p0, n3_p0, n4_p0⟩ xs0_p1 ao0_p1 b0_p1 o0_p1 cp0_p1 xs0_p2 ao0_p2 b0_p2 o0_p2 cp0_p2 xs1_p2 ao1_p2 b1_p2 o1_p2 cp1_p2 W f0_p1.2.2.1 (Nat.le_trans f0_p1.1 f0_p1.2.1) f0_p1.2.2.2 f0_p2.2.2.1 (Nat.le_trans f0_p2.1 f0_p2.2.1) f0_p2.1 f1_p2.2.2.1 (Nat.le_trans f1_p2.1 f1_p2.2.1) f1_p2.1 f1_p2.2.2.2) fun e W' hv => ?_
  obtain ⟨v, rfl, rfl, ext⟩ := hv
  have bel := Ext.below ext
  exact ⟨_, rfl, _, _, _, [], _, [], hW', trodAll_mk1 (shut_bool Tryz.underlying4 _), (trodAll_cons_mk (Below.trod laidOutCrewPlans (by kernel_rfl) (of_decide_eq_true (by kernel_rfl)) k0 bel lt0) (trodAll_cons_mk (Below.trod laidOutCrewPlans (by kernel_rfl) (of_decide_eq_true (by kernel_rfl)) k1 bel lt1) (trodAll_cons_mk (Below.trod laidOutCrewPlans (by kernel_rfl) (of_decide_eq_true (by kernel_rfl)) k2 bel lt2) trodAll_mk0))), rfl, bel.frame _, fun h => by cases h⟩

theorem overCrewPlans : Rows.crewPlansRow.holds Tryz.pinned (OpenSpec.ofChange Rows.crewPlansSpec) :=
  OpenClaim.holds_of_wide 5 Tryz.f5 rfl rfl rfl rfl rfl rfl rfl ⟨rfl, rfl, rfl, rfl, rfl⟩ rfl rfl rfl rfl rfl (by kernel_rfl) Tryz.func5 (by kernel_rfl)
    (of_decide_eq_true (by kernel_rfl)) (by unfold Func.isWrapper; first | (rw [if_pos (by decide +kernel)]; kernel_rfl) | (rw [if_neg (by decide +kernel)]; exact ⟨rfl, rfl⟩))
    (fun os started H enc _ => liftedCrewPlans os started H enc)
theorem provedCrewPlans : Rows.CrewPlansSaid := overCrewPlans
#print axioms provedCrewPlans
end Go.Proofs.YtagmodjadmecdaaGreat
