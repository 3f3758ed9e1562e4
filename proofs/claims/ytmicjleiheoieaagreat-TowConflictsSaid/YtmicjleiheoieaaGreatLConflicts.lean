/-
  The law TowConflicts: the given statement holds. Conditions: none.
-/
import Derived.Test.YtmicjleiheoieaaGreatRows
import Derived.WalkKit
import Derived.ProofKit
import Derived.OpenShut
import Derived.ShutString
import Derived.ChangeOld
import Derived.Below
import Derived.Test.YtmicjleiheoieaaGreatOpen
import Derived.Test.YtmicjleiheoieaaGreatA39
namespace Go.Proofs.YtmicjleiheoieaaGreat
open Go Go.ChangeShapes Go.WideShapes Go.ChangeAt Go.RowKit
set_option linter.unusedVariables false
theorem rd3 {H : Type} {enc : TypeId × Value → H} {w : World} {cs : List Value} (h : Rd enc Tryz.prog w 3 cs) : ∃ (n0 : Int), cs = [.int .i64 n0] ∧ ((-9223372036854775808 ≤ n0 ∧ n0 ≤ 9223372036854775807)) := h.int Tryz.underlying3
theorem rd42 {H : Type} {enc : TypeId × Value → H} {w : World} {cs : List Value} (h : Rd enc Tryz.prog w 42 cs) : ∃ (n0 : Int) (n1 : Int), cs = [.int .i64 n0, .int .i64 n1] ∧ ((-9223372036854775808 ≤ n0 ∧ n0 ≤ 9223372036854775807)) ∧ ((-9223372036854775808 ≤ n1 ∧ n1 ≤ 9223372036854775807)) := by
  have hl : cs.length = 2 := (h.struct Tryz.underlying42).1.trans (by kernel_rfl)
  obtain ⟨n0_0, e0, r0_0⟩ := rd3 (h.fld Tryz.underlying42 0 rfl rfl rfl (by kernel_rfl : _ = 1))
  obtain ⟨n0_1, e1, r0_1⟩ := rd3 (h.fld Tryz.underlying42 1 rfl rfl rfl (by kernel_rfl : _ = 1))
  match cs, hl, e0, e1 with
  | [c0, c1], _, e0, e1 =>
    simp at e0 e1
    obtain rfl := e0
    obtain rfl := e1
    exact ⟨n0_0, n0_1, rfl, r0_0, r0_1⟩
theorem rd47 {H : Type} {enc : TypeId × Value → H} {w : World} {cs : List Value} (h : Rd enc Tryz.prog w 47 cs) : ∃ (n0 : Int) (n1 : Int) (n2 : Int) (n3 : Int) (n4 : Int) (n5 : Int), cs = [.int .i64 n0, .int .i64 n1, .int .i64 n2, .int .i64 n3, .int .i64 n4, .int .i64 n5] ∧ ((-9223372036854775808 ≤ n0 ∧ n0 ≤ 9223372036854775807)) ∧ ((-9223372036854775808 ≤ n1 ∧ n1 ≤ 9223372036854775807)) ∧ ((-9223372036854775808 ≤ n2 ∧ n2 ≤ 9223372036854775807)) ∧ ((-9223372036854775808 ≤ n3 ∧ n3 ≤ 9223372036854775807)) ∧ ((-9223372036854775808 ≤ n4 ∧ n4 ≤ 9223372036854775807)) ∧ ((-9223372036854775808 ≤ n5 ∧ n5 ≤ 9223372036854775807)) := by
  have hl : cs.length = 6 := (h.struct Tryz.underlying47).1.trans (by kernel_rfl)
  obtain ⟨n0_0, e0, r0_0⟩ := rd3 (h.fld Tryz.underlying47 0 rfl rfl rfl (by kernel_rfl : _ = 1))
  obtain ⟨n0_1, e1, r0_1⟩ := rd3 (h.fld Tryz.underlying47 1 rfl rfl rfl (by kernel_rfl : _ = 1))
  obtain ⟨n0_2, n1_2, e2, r0_2, r1_2⟩ := rd42 (h.fld Tryz.underlying47 2 rfl rfl rfl (by kernel_rfl : _ = 2))
  obtain ⟨n0_3, n1_3, e3, r0_3, r1_3⟩ := rd42 (h.fld Tryz.underlying47 3 rfl rfl rfl (by kernel_rfl : _ = 2))
  match cs, hl, e0, e1, e2, e3 with
  | [c0, c1, c2, c3, c4, c5], _, e0, e1, e2, e3 =>
    simp at e0 e1 e2 e3
    obtain rfl := e0
    obtain rfl := e1
    obtain ⟨rfl, rfl⟩ := e2
    obtain ⟨rfl, rfl⟩ := e3
    exact ⟨n0_0, n0_1, n0_2, n1_2, n0_3, n1_3, rfl, r0_0, r0_1, r0_2, r1_2, r0_3, r1_3⟩
theorem rd43 {H : Type} {enc : TypeId × Value → H} {w : World} {cs : List Value} (h : Rd enc Tryz.prog w 43 cs) : ∃ (xs0 : List Run) (ao0 : Option Addr) (b0 : Nat) (o0 : Nat) (cp0 : Nat), cs = [.slice ao0 xs0.length cp0] ∧ (xs0.length ≤ cp0 ∧ cp0 ≤ maxLen ∧ Sl encRun 6 w ao0 b0 o0 xs0 ∧ ∀ x ∈ xs0, True) := by
  obtain ⟨ao, b, o, cap, xs, h1, h2, h3, h4, h5⟩ := h.sl (enc' := encRun) (R := fun x => True) (by kernel_rfl : _ = 6) (by decide) Tryz.underlying43 (fun cs hc => by
    obtain ⟨n0, n1, n2, n3, n4, n5, e, r0, r1, r2, r3, r4, r5⟩ := rd47 hc
    exact ⟨⟨n0, n1, ⟨n2, n3⟩, ⟨n4, n5⟩⟩, e, trivial⟩)
  exact ⟨xs, ao, b, o, cap, h1, h2, h3, h4, h5⟩

theorem rd45 {H : Type} {enc : TypeId × Value → H} {w : World} {cs : List Value} (h : Rd enc Tryz.prog w 45 cs) : ∃ (n0 : Int) (n1 : Int) (xs2 : List Run) (ao2 : Option Addr) (b2 : Nat) (o2 : Nat) (cp2 : Nat) (n3 : Int) (n4 : Int), cs = [.int .i64 n0, .int .i64 n1, .slice ao2 xs2.length cp2, .int .i64 n3, .int .i64 n4] ∧ ((-9223372036854775808 ≤ n0 ∧ n0 ≤ 9223372036854775807)) ∧ ((-9223372036854775808 ≤ n1 ∧ n1 ≤ 9223372036854775807)) ∧ (xs2.length ≤ cp2 ∧ cp2 ≤ maxLen ∧ Sl encRun 6 w ao2 b2 o2 xs2 ∧ ∀ x ∈ xs2, True) ∧ ((-9223372036854775808 ≤ n3 ∧ n3 ≤ 9223372036854775807)) ∧ ((-9223372036854775808 ≤ n4 ∧ n4 ≤ 9223372036854775807)) := by
  have hl : cs.length = 5 := (h.struct Tryz.underlying45).1.trans (by kernel_rfl)
  obtain ⟨n0_0, n1_0, e0, r0_0, r1_0⟩ := rd42 (h.fld Tryz.underlying45 0 rfl rfl rfl (by kernel_rfl : _ = 2))
  obtain ⟨xs0_1, ao0_1, b0_1, o0_1, cp0_1, e1, r0_1⟩ := rd43 (h.fld Tryz.underlying45 1 rfl rfl rfl (by kernel_rfl : _ = 1))
  obtain ⟨n0_2, e2, r0_2⟩ := rd3 (h.fld Tryz.underlying45 2 rfl rfl rfl (by kernel_rfl : _ = 1))
  obtain ⟨n0_3, e3, r0_3⟩ := rd3 (h.fld Tryz.underlying45 3 rfl rfl rfl (by kernel_rfl : _ = 1))
  match cs, hl, e0, e1, e2, e3 with
  | [c0, c1, c2, c3, c4], _, e0, e1, e2, e3 =>
    simp at e0 e1 e2 e3
    obtain ⟨rfl, rfl⟩ := e0
    obtain rfl := e1
    obtain rfl := e2
    obtain rfl := e3
    exact ⟨n0_0, n1_0, xs0_1, ao0_1, b0_1, o0_1, cp0_1, n0_2, n0_3, rfl, r0_0, r1_0, r0_1, r0_2, r0_3⟩
theorem rd22 {H : Type} {enc : TypeId × Value → H} {w : World} {cs : List Value} (h : Rd enc Tryz.prog w 22 cs) : ∃ (xs0 : List HVoy) (ao0 : Option Addr) (b0 : Nat) (o0 : Nat) (cp0 : Nat), cs = [.slice ao0 xs0.length cp0] ∧ (xs0.length ≤ cp0 ∧ cp0 ≤ maxLen ∧ Sl encHVoy 5 w ao0 b0 o0 xs0 ∧ ∀ x ∈ xs0, Sl encRun 6 w x.ao x.b x.o x.v.runs) := by
  obtain ⟨ao, b, o, cap, xs, h1, h2, h3, h4, h5⟩ := h.sl (enc' := encHVoy) (R := fun x => Sl encRun 6 w x.ao x.b x.o x.v.runs) (by kernel_rfl : _ = 5) (by decide) Tryz.underlying22 (fun cs hc => by
    obtain ⟨n0, n1, xs2, ao2, b2, o2, cp2, n3, n4, e, r0, r1, r2, r3, r4⟩ := rd45 hc
    exact ⟨⟨⟨⟨n0, n1⟩, xs2, n3, n4⟩, ao2, b2, o2, cp2⟩, e, r2.2.2.1⟩)
  exact ⟨xs, ao, b, o, cap, h1, h2, h3, h4, h5⟩

theorem rd4 {H : Type} {enc : TypeId × Value → H} {w : World} {cs : List Value} (h : Rd enc Tryz.prog w 4 cs) : ∃ (n0 : Bool), cs = [.bool n0] := by
  obtain ⟨b, e⟩ := h.bool Tryz.underlying4
  exact ⟨b, e⟩
theorem rd36 {H : Type} {enc : TypeId × Value → H} {w : World} {cs : List Value} (h : Rd enc Tryz.prog w 36 cs) : ∃ (n0 : Int) (n1 : Int) (n2 : Int) (n3 : Bool), cs = [.int .i64 n0, .int .i64 n1, .int .i64 n2, .bool n3] ∧ ((-9223372036854775808 ≤ n0 ∧ n0 ≤ 9223372036854775807)) ∧ ((-9223372036854775808 ≤ n1 ∧ n1 ≤ 9223372036854775807)) ∧ ((-9223372036854775808 ≤ n2 ∧ n2 ≤ 9223372036854775807)) := by
  have hl : cs.length = 4 := (h.struct Tryz.underlying36).1.trans (by kernel_rfl)
  obtain ⟨n0_0, e0, r0_0⟩ := rd3 (h.fld Tryz.underlying36 0 rfl rfl rfl (by kernel_rfl : _ = 1))
  obtain ⟨n0_1, e1, r0_1⟩ := rd3 (h.fld Tryz.underlying36 1 rfl rfl rfl (by kernel_rfl : _ = 1))
  obtain ⟨n0_2, e2, r0_2⟩ := rd3 (h.fld Tryz.underlying36 2 rfl rfl rfl (by kernel_rfl : _ = 1))
  obtain ⟨n0_3, e3⟩ := rd4 (h.fld Tryz.underlying36 3 rfl rfl rfl (by kernel_rfl : _ = 1))
  match cs, hl, e0, e1, e2, e3 with
  | [c0, c1, c2, c3], _, e0, e1, e2, e3 =>
    simp at e0 e1 e2 e3
    obtain rfl := e0
    obtain rfl := e1
    obtain rfl := e2
    obtain rfl := e3
    exact ⟨n0_0, n0_1, n0_2, n0_3, rfl, r0_0, r0_1, r0_2⟩
theorem rd23 {H : Type} {enc : TypeId × Value → H} {w : World} {cs : List Value} (h : Rd enc Tryz.prog w 23 cs) : ∃ (xs0 : List Nar) (ao0 : Option Addr) (b0 : Nat) (o0 : Nat) (cp0 : Nat), cs = [.slice ao0 xs0.length cp0] ∧ (xs0.length ≤ cp0 ∧ cp0 ≤ maxLen ∧ Sl encNar 4 w ao0 b0 o0 xs0 ∧ ∀ x ∈ xs0, True) := by
  obtain ⟨ao, b, o, cap, xs, h1, h2, h3, h4, h5⟩ := h.sl (enc' := encNar) (R := fun x => True) (by kernel_rfl : _ = 4) (by decide) Tryz.underlying23 (fun cs hc => by
    obtain ⟨n0, n1, n2, n3, e, r0, r1, r2⟩ := rd36 hc
    exact ⟨⟨n0, n1, n2, n3⟩, e, trivial⟩)
  exact ⟨xs, ao, b, o, cap, h1, h2, h3, h4, h5⟩

theorem rd25 {H : Type} {enc : TypeId × Value → H} {w : World} {cs : List Value} (h : Rd enc Tryz.prog w 25 cs) : ∃ (xs0 : List HVoy) (ao0 : Option Addr) (b0 : Nat) (o0 : Nat) (cp0 : Nat) (xs1 : List Nar) (ao1 : Option Addr) (b1 : Nat) (o1 : Nat) (cp1 : Nat), cs = [.slice ao0 xs0.length cp0, .slice ao1 xs1.length cp1] ∧ (xs0.length ≤ cp0 ∧ cp0 ≤ maxLen ∧ Sl encHVoy 5 w ao0 b0 o0 xs0 ∧ ∀ x ∈ xs0, Sl encRun 6 w x.ao x.b x.o x.v.runs) ∧ (xs1.length ≤ cp1 ∧ cp1 ≤ maxLen ∧ Sl encNar 4 w ao1 b1 o1 xs1 ∧ ∀ x ∈ xs1, True) := by
  have hl : cs.length = 2 := (h.struct Tryz.underlying25).1.trans (by kernel_rfl)
  obtain ⟨xs0_0, ao0_0, b0_0, o0_0, cp0_0, e0, r0_0⟩ := rd22 (h.fld Tryz.underlying25 0 rfl rfl rfl (by kernel_rfl : _ = 1))
  obtain ⟨xs0_1, ao0_1, b0_1, o0_1, cp0_1, e1, r0_1⟩ := rd23 (h.fld Tryz.underlying25 1 rfl rfl rfl (by kernel_rfl : _ = 1))
  match cs, hl, e0, e1 with
  | [c0, c1], _, e0, e1 =>
    simp at e0 e1
    obtain rfl := e0
    obtain rfl := e1
    exact ⟨xs0_0, ao0_0, b0_0, o0_0, cp0_0, xs0_1, ao0_1, b0_1, o0_1, cp0_1, rfl, r0_0, r0_1⟩


theorem ownTowConflicts : ownKnob Tryz.prog.godebug = none := by kernel_rfl
theorem laidOutTowConflicts : laidOutB Tryz.prog = true := by kernel_rfl
set_option maxHeartbeats 1000000 in
set_option maxRecDepth 100000 in
theorem liftedTowConflicts (os : Os) (started : os.Started) (H : Type) (enc : TypeId × Value → H) :
    ReturnsInHanded {} Tryz.checked os 3 .any (Rows.towConflictsSpec.pre6 enc Tryz.prog Tryz.f3 Rows.towConflictsRow.domain false) (Rows.towConflictsSpec.post enc Tryz.prog Tryz.f3 false true false false) := by
  refine returnsInHanded_of_change (C := Tryz.checked) ownTowConflicts started (by kernel_rfl) Tryz.func3
    (ChangeSpec.witness6 (enc := enc) (C := Tryz.checked) false ⟨#[], #[.agg #[.slice none 0 0, .slice none 0 0]], []⟩ 8 (by kernel_rfl) (by kernel_rfl) (by kernel_rfl) (by kernel_rfl)) ?_
  intro W base args ds gs before hval0 hW hcnd _
  have hval : ∀ (j : Nat) t v, Tryz.f3.params[j]? = some t → args[j]? = some v → Value.okWide Tryz.prog W .any base t v := hval0
  have hW' := hW
  obtain ⟨p, q, hA0, hV, rfl, hfz, hnd⟩ := hW
  have hA : DataW.TrodAll enc Tryz.prog W 0 (fun _ => true) true Tryz.f3.params.toList args.toList ds p := hA0
  rw [Tryz.params3] at hA hval
  obtain ⟨v0, vs0, d0, ds0, p0, q0, hargs, rfl, rfl, h0, r0⟩ := trodAll_cons hA
  obtain ⟨rfl, rfl, rfl⟩ := trodAll_nil r0
  obtain rfl : args = #[v0] := by cases args; simp_all
  obtain ⟨rfl, rfl⟩ := trodVars_none hV
  have k0 := h0
  have lt0 : ∀ x ∈ p0, x.block < W.heap.size := by obtain ⟨m, hm⟩ := k0; exact DataW.trod_lt m _ _ _ hm
  obtain ⟨cs0, rfl, -⟩ := okWide_struct Tryz.underlying25 (hval 0 25 v0 rfl rfl)
  obtain ⟨xs0_p0, ao0_p0, b0_p0, o0_p0, cp0_p0, xs1_p0, ao1_p0, b1_p0, o1_p0, cp1_p0, ce0, f0_p0, f1_p0⟩ := rd25 (Rd.of h0)
  obtain rfl : cs0 = #[.slice ao0_p0 xs0_p0.length cp0_p0, .slice ao1_p0 xs1_p0.length cp1_p0] := by cases cs0; simpa [Value.cells] using ce0
  clear hA0 hval0
  refine Calls.mono (TowConflicts_c xs0_p0 ao0_p0 b0_p0 o0_p0 cp0_p0 xs1_p0 ao1_p0 b1_p0 o1_p0 cp1_p0 W f0_p0.2.2.1 f0_p0.2.2.2 f1_p0.2.2.1 (Nat.le_trans f0_p0.1 f0_p0.2.1) (Nat.le_trans f1_p0.1 f1_p0.2.1)) fun e W' hv => ?_
  obtain ⟨v, rfl, rfl, ext⟩ := hv
  have bel := Ext.below ext
  exact ⟨_, rfl, _, _, _, [], _, [], hW', trodAll_mk1 (shut_bool Tryz.underlying4 _), (trodAll_cons_mk (Below.trod laidOutTowConflicts (by kernel_rfl) (of_decide_eq_true (by kernel_rfl)) k0 bel lt0) trodAll_mk0), rfl, bel.frame _, fun h => by cases h⟩

theorem overTowConflicts : Rows.towConflictsRow.holds Tryz.pinned (OpenSpec.ofChange Rows.towConflictsSpec) :=
  OpenClaim.holds_of_wide 3 Tryz.f3 rfl rfl rfl rfl rfl rfl rfl ⟨rfl, rfl, rfl, rfl, rfl⟩ rfl rfl rfl rfl rfl (by kernel_rfl) Tryz.func3 (by kernel_rfl)
    (of_decide_eq_true (by kernel_rfl)) (by unfold Func.isWrapper; first | (rw [if_pos (by decide +kernel)]; kernel_rfl) | (rw [if_neg (by decide +kernel)]; exact ⟨rfl, rfl⟩))
    (fun os started H enc _ => liftedTowConflicts os started H enc)
theorem provedTowConflicts : Rows.TowConflictsSaid := overTowConflicts
#print axioms provedTowConflicts
end Go.Proofs.YtmicjleiheoieaaGreat
