/-
  The law TraceWheres: the given statement holds. Conditions: none.
-/
import Derived.Test.YtgkkgpenmppjcaaRows
import Derived.WalkKit
import Derived.ProofKit
import Derived.OpenShut
import Derived.ShutString
import Derived.ChangeOld
import Derived.Below
import Derived.Test.YtgkkgpenmppjcaaVOpen
import Derived.Test.YtgkkgpenmppjcaaVB13
namespace Go.Proofs.Ytgkkgpenmppjcaa
open Go Go.ChangeShapes Go.WideShapes Go.ChangeAt Go.RowKit
set_option linter.unusedVariables false
theorem rd3 {H : Type} {enc : TypeId × Value → H} {w : World} {cs : List Value} (h : Rd enc Try.prog w 3 cs) : ∃ (n0 : Int), cs = [.int .i64 n0] ∧ ((-9223372036854775808 ≤ n0 ∧ n0 ≤ 9223372036854775807)) := h.int Try.underlying3
theorem rd93 {H : Type} {enc : TypeId × Value → H} {w : World} {cs : List Value} (h : Rd enc Try.prog w 93 cs) : ∃ (n0 : Int) (n1 : Int) (n2 : Int), cs = [.int .i64 n0, .int .i64 n1, .int .i64 n2] ∧ ((-9223372036854775808 ≤ n0 ∧ n0 ≤ 9223372036854775807)) ∧ ((-9223372036854775808 ≤ n1 ∧ n1 ≤ 9223372036854775807)) ∧ ((-9223372036854775808 ≤ n2 ∧ n2 ≤ 9223372036854775807)) := by
  have hl : cs.length = 3 := (h.struct Try.underlying93).1.trans (by kernel_rfl)
  obtain ⟨n0_0, e0, r0_0⟩ := rd3 (h.fld Try.underlying93 0 rfl rfl rfl (by kernel_rfl : _ = 1))
  obtain ⟨n0_1, e1, r0_1⟩ := rd3 (h.fld Try.underlying93 1 rfl rfl rfl (by kernel_rfl : _ = 1))
  obtain ⟨n0_2, e2, r0_2⟩ := rd3 (h.fld Try.underlying93 2 rfl rfl rfl (by kernel_rfl : _ = 1))
  match cs, hl, e0, e1, e2 with
  | [c0, c1, c2], _, e0, e1, e2 =>
    simp at e0 e1 e2
    obtain rfl := e0
    obtain rfl := e1
    obtain rfl := e2
    exact ⟨n0_0, n0_1, n0_2, rfl, r0_0, r0_1, r0_2⟩
theorem rd22 {H : Type} {enc : TypeId × Value → H} {w : World} {cs : List Value} (h : Rd enc Try.prog w 22 cs) : ∃ (xs0 : List Bil) (ao0 : Option Addr) (b0 : Nat) (o0 : Nat) (cp0 : Nat), cs = [.slice ao0 xs0.length cp0] ∧ (xs0.length ≤ cp0 ∧ cp0 ≤ maxLen ∧ Sl encBil 3 w ao0 b0 o0 xs0 ∧ ∀ x ∈ xs0, True) := by
  obtain ⟨ao, b, o, cap, xs, h1, h2, h3, h4, h5⟩ := h.sl (enc' := encBil) (R := fun x => True) (by kernel_rfl : _ = 3) (by decide) Try.underlying22 (fun cs hc => by
    obtain ⟨n0, n1, n2, e, r0, r1, r2⟩ := rd93 hc
    exact ⟨⟨n0, n1, n2⟩, e, trivial⟩)
  exact ⟨xs, ao, b, o, cap, h1, h2, h3, h4, h5⟩

theorem rd90 {H : Type} {enc : TypeId × Value → H} {w : World} {cs : List Value} (h : Rd enc Try.prog w 90 cs) : ∃ (n0 : Int) (n1 : Int), cs = [.int .i64 n0, .int .i64 n1] ∧ ((-9223372036854775808 ≤ n0 ∧ n0 ≤ 9223372036854775807)) ∧ ((-9223372036854775808 ≤ n1 ∧ n1 ≤ 9223372036854775807)) := by
  have hl : cs.length = 2 := (h.struct Try.underlying90).1.trans (by kernel_rfl)
  obtain ⟨n0_0, e0, r0_0⟩ := rd3 (h.fld Try.underlying90 0 rfl rfl rfl (by kernel_rfl : _ = 1))
  obtain ⟨n0_1, e1, r0_1⟩ := rd3 (h.fld Try.underlying90 1 rfl rfl rfl (by kernel_rfl : _ = 1))
  match cs, hl, e0, e1 with
  | [c0, c1], _, e0, e1 =>
    simp at e0 e1
    obtain rfl := e0
    obtain rfl := e1
    exact ⟨n0_0, n0_1, rfl, r0_0, r0_1⟩
theorem rd23 {H : Type} {enc : TypeId × Value → H} {w : World} {cs : List Value} (h : Rd enc Try.prog w 23 cs) : ∃ (xs0 : List Hld) (ao0 : Option Addr) (b0 : Nat) (o0 : Nat) (cp0 : Nat), cs = [.slice ao0 xs0.length cp0] ∧ (xs0.length ≤ cp0 ∧ cp0 ≤ maxLen ∧ Sl encHld 2 w ao0 b0 o0 xs0 ∧ ∀ x ∈ xs0, True) := by
  obtain ⟨ao, b, o, cap, xs, h1, h2, h3, h4, h5⟩ := h.sl (enc' := encHld) (R := fun x => True) (by kernel_rfl : _ = 2) (by decide) Try.underlying23 (fun cs hc => by
    obtain ⟨n0, n1, e, r0, r1⟩ := rd90 hc
    exact ⟨⟨n0, n1⟩, e, trivial⟩)
  exact ⟨xs, ao, b, o, cap, h1, h2, h3, h4, h5⟩

theorem rd25 {H : Type} {enc : TypeId × Value → H} {w : World} {cs : List Value} (h : Rd enc Try.prog w 25 cs) : ∃ (xs0 : List Bil) (ao0 : Option Addr) (b0 : Nat) (o0 : Nat) (cp0 : Nat) (xs1 : List Hld) (ao1 : Option Addr) (b1 : Nat) (o1 : Nat) (cp1 : Nat), cs = [.slice ao0 xs0.length cp0, .slice ao1 xs1.length cp1] ∧ (xs0.length ≤ cp0 ∧ cp0 ≤ maxLen ∧ Sl encBil 3 w ao0 b0 o0 xs0 ∧ ∀ x ∈ xs0, True) ∧ (xs1.length ≤ cp1 ∧ cp1 ≤ maxLen ∧ Sl encHld 2 w ao1 b1 o1 xs1 ∧ ∀ x ∈ xs1, True) := by
  have hl : cs.length = 2 := (h.struct Try.underlying25).1.trans (by kernel_rfl)
  obtain ⟨xs0_0, ao0_0, b0_0, o0_0, cp0_0, e0, r0_0⟩ := rd22 (h.fld Try.underlying25 0 rfl rfl rfl (by kernel_rfl : _ = 1))
  obtain ⟨xs0_1, ao0_1, b0_1, o0_1, cp0_1, e1, r0_1⟩ := rd23 (h.fld Try.underlying25 1 rfl rfl rfl (by kernel_rfl : _ = 1))
  match cs, hl, e0, e1 with
  | [c0, c1], _, e0, e1 =>
    simp at e0 e1
    obtain rfl := e0
    obtain rfl := e1
    exact ⟨xs0_0, ao0_0, b0_0, o0_0, cp0_0, xs0_1, ao0_1, b0_1, o0_1, cp0_1, rfl, r0_0, r0_1⟩
theorem rd39 {H : Type} {enc : TypeId × Value → H} {w : World} {cs : List Value} (h : Rd enc Try.prog w 39 cs) : ∃ (n0 : Int), cs = [.int .i64 n0] ∧ ((-9223372036854775808 ≤ n0 ∧ n0 ≤ 9223372036854775807)) := h.int Try.underlying39
theorem rd41 {H : Type} {enc : TypeId × Value → H} {w : World} {cs : List Value} (h : Rd enc Try.prog w 41 cs) : ∃ (n0 : Int) (n1 : Int) (n2 : Int) (n3 : Int) (n4 : Int) (n5 : Int) (n6 : Int) (n7 : Int), cs = [.int .i64 n0, .int .i64 n1, .int .i64 n2, .int .i64 n3, .int .i64 n4, .int .i64 n5, .int .i64 n6, .int .i64 n7] ∧ ((-9223372036854775808 ≤ n0 ∧ n0 ≤ 9223372036854775807)) ∧ ((-9223372036854775808 ≤ n1 ∧ n1 ≤ 9223372036854775807)) ∧ ((-9223372036854775808 ≤ n2 ∧ n2 ≤ 9223372036854775807)) ∧ ((-9223372036854775808 ≤ n3 ∧ n3 ≤ 9223372036854775807)) ∧ ((-9223372036854775808 ≤ n4 ∧ n4 ≤ 9223372036854775807)) ∧ ((-9223372036854775808 ≤ n5 ∧ n5 ≤ 9223372036854775807)) ∧ ((-9223372036854775808 ≤ n6 ∧ n6 ≤ 9223372036854775807)) ∧ ((-9223372036854775808 ≤ n7 ∧ n7 ≤ 9223372036854775807)) := by
  have hl : cs.length = 8 := (h.struct Try.underlying41).1.trans (by kernel_rfl)
  obtain ⟨n0_0, e0, r0_0⟩ := rd39 (h.fld Try.underlying41 0 rfl rfl rfl (by kernel_rfl : _ = 1))
  obtain ⟨n0_1, e1, r0_1⟩ := rd3 (h.fld Try.underlying41 1 rfl rfl rfl (by kernel_rfl : _ = 1))
  obtain ⟨n0_2, e2, r0_2⟩ := rd3 (h.fld Try.underlying41 2 rfl rfl rfl (by kernel_rfl : _ = 1))
  obtain ⟨n0_3, e3, r0_3⟩ := rd3 (h.fld Try.underlying41 3 rfl rfl rfl (by kernel_rfl : _ = 1))
  obtain ⟨n0_4, e4, r0_4⟩ := rd3 (h.fld Try.underlying41 4 rfl rfl rfl (by kernel_rfl : _ = 1))
  obtain ⟨n0_5, e5, r0_5⟩ := rd3 (h.fld Try.underlying41 5 rfl rfl rfl (by kernel_rfl : _ = 1))
  obtain ⟨n0_6, e6, r0_6⟩ := rd3 (h.fld Try.underlying41 6 rfl rfl rfl (by kernel_rfl : _ = 1))
  obtain ⟨n0_7, e7, r0_7⟩ := rd3 (h.fld Try.underlying41 7 rfl rfl rfl (by kernel_rfl : _ = 1))
  match cs, hl, e0, e1, e2, e3, e4, e5, e6, e7 with
  | [c0, c1, c2, c3, c4, c5, c6, c7], _, e0, e1, e2, e3, e4, e5, e6, e7 =>
    simp at e0 e1 e2 e3 e4 e5 e6 e7
    obtain rfl := e0
    obtain rfl := e1
    obtain rfl := e2
    obtain rfl := e3
    obtain rfl := e4
    obtain rfl := e5
    obtain rfl := e6
    obtain rfl := e7
    exact ⟨n0_0, n0_1, n0_2, n0_3, n0_4, n0_5, n0_6, n0_7, rfl, r0_0, r0_1, r0_2, r0_3, r0_4, r0_5, r0_6, r0_7⟩
theorem rd26 {H : Type} {enc : TypeId × Value → H} {w : World} {cs : List Value} (h : Rd enc Try.prog w 26 cs) : ∃ (xs0 : List Ev) (ao0 : Option Addr) (b0 : Nat) (o0 : Nat) (cp0 : Nat), cs = [.slice ao0 xs0.length cp0] ∧ (xs0.length ≤ cp0 ∧ cp0 ≤ maxLen ∧ Sl encEv 8 w ao0 b0 o0 xs0 ∧ ∀ x ∈ xs0, True) := by
  obtain ⟨ao, b, o, cap, xs, h1, h2, h3, h4, h5⟩ := h.sl (enc' := encEv) (R := fun x => True) (by kernel_rfl : _ = 8) (by decide) Try.underlying26 (fun cs hc => by
    obtain ⟨n0, n1, n2, n3, n4, n5, n6, n7, e, r0, r1, r2, r3, r4, r5, r6, r7⟩ := rd41 hc
    exact ⟨⟨n0, n1, n2, n3, n4, n5, n6, n7⟩, e, trivial⟩)
  exact ⟨xs, ao, b, o, cap, h1, h2, h3, h4, h5⟩



theorem ownTraceWheres : ownKnob Try.prog.godebug = none := by kernel_rfl
theorem laidOutTraceWheres : laidOutB Try.prog = true := by kernel_rfl
set_option maxHeartbeats 1000000 in
set_option maxRecDepth 100000 in
theorem liftedTraceWheres (os : Os) (started : os.Started) (H : Type) (enc : TypeId × Value → H) :
    ReturnsInHanded {} Try.checked os 4 .any (Rows.traceWheresSpec.pre6 enc Try.prog Try.f4 Rows.traceWheresRow.domain false) (Rows.traceWheresSpec.post enc Try.prog Try.f4 false true false false) := by
  refine returnsInHanded_of_change (C := Try.checked) ownTraceWheres started (by kernel_rfl) Try.func4
    (ChangeSpec.witness6 (enc := enc) (C := Try.checked) false ⟨#[], #[.agg #[.slice none 0 0, .slice none 0 0], .slice none 0 0, .int .i64 0], []⟩ 8 (by kernel_rfl) (by kernel_rfl) (by kernel_rfl) (by kernel_rfl)) ?_
  intro W base args ds gs before hval0 hW hcnd _
  have hval : ∀ (j : Nat) t v, Try.f4.params[j]? = some t → args[j]? = some v → Value.okWide Try.prog W .any base t v := hval0
  have hW' := hW
  obtain ⟨p, q, hA0, hV, rfl, hfz, hnd⟩ := hW
  have hA : DataW.TrodAll enc Try.prog W 0 (fun _ => true) true Try.f4.params.toList args.toList ds p := hA0
  rw [Try.params4] at hA hval
  obtain ⟨v0, vs0, d0, ds0, p0, q0, hargs, rfl, rfl, h0, r0⟩ := trodAll_cons hA
  obtain ⟨v1, vs1, d1, ds1, p1, q1, rfl, rfl, rfl, h1, r1⟩ := trodAll_cons r0
  obtain ⟨v2, vs2, d2, ds2, p2, q2, rfl, rfl, rfl, h2, r2⟩ := trodAll_cons r1
  obtain ⟨rfl, rfl, rfl⟩ := trodAll_nil r2
  obtain rfl : args = #[v0, v1, v2] := by cases args; simp_all
  obtain ⟨rfl, rfl⟩ := trodVars_none hV
  have k0 := h0
  have lt0 : ∀ x ∈ p0, x.block < W.heap.size := by obtain ⟨m, hm⟩ := k0; exact DataW.trod_lt m _ _ _ hm
  obtain ⟨cs0, rfl, -⟩ := okWide_struct Try.underlying25 (hval 0 25 v0 rfl rfl)
  obtain ⟨xs0_p0, ao0_p0, b0_p0, o0_p0, cp0_p0, xs1_p0, ao1_p0, b1_p0, o1_p0, cp1_p0, ce0, f0_p0, f1_p0⟩ := rd25 (Rd.of h0)
  obtain rfl : cs0 = #[.slice ao0_p0 xs0_p0.length cp0_p0, .slice ao1_p0 xs1_p0.length cp1_p0] := by cases cs0; simpa [Value.cells] using ce0
  have k1 := h1
  have lt1 : ∀ x ∈ p1, x.block < W.heap.size := by obtain ⟨m, hm⟩ := k1; exact DataW.trod_lt m _ _ _ hm
  obtain ⟨aa1, ll1, cc1, rfl⟩ := okWide_slice Try.underlying26 (hval 1 26 v1 rfl rfl)
  obtain ⟨xs0_p1, ao0_p1, b0_p1, o0_p1, cp0_p1, ce1, f0_p1⟩ := rd26 (Rd.of h1)
  simp [Value.cells] at ce1
  obtain ⟨cx1, cy1, cz1⟩ := ce1
  subst cy1
  obtain rfl := cx1.symm
  obtain rfl := cz1.symm
  have k2 := h2
  have lt2 : ∀ x ∈ p2, x.block < W.heap.size := by obtain ⟨m, hm⟩ := k2; exact DataW.trod_lt m _ _ _ hm
  obtain ⟨nn2, rfl⟩ := okWide_int Try.underlying3 (hval 2 3 v2 rfl rfl)
  obtain ⟨n0_p2, ce2, f0_p2⟩ := rd3 (Rd.of h2)
  simp [Value.cells] at ce2
  obtain rfl := ce2.symm
  clear hA0 hval0
  refine Calls.mono (TraceWheres_c xs0_p0 ao0_p0 b0_p0 o0_p0 cp0_p0 xs1_p0 ao1_p0 b1_p0 o1_p0 cp1_p0 xs0_p1 ao0_p1 b0_p1 o0_p1 cp0_p1 n0_p2 W f0_p0.2.2.1 f1_p0.2.2.1 f0_p1.2.2.1) fun e W' hv => ?_
  obtain ⟨v, rfl, rfl, ext⟩ := hv
  have bel := Ext.below ext
  exact ⟨_, rfl, _, _, _, [], _, [], hW', trodAll_mk1 (shut_bool Try.underlying4 _), (trodAll_cons_mk (Below.trod laidOutTraceWheres (by kernel_rfl) (of_decide_eq_true (by kernel_rfl)) k0 bel lt0) (trodAll_cons_mk (Below.trod laidOutTraceWheres (by kernel_rfl) (of_decide_eq_true (by kernel_rfl)) k1 bel lt1) (trodAll_cons_mk (Below.trod laidOutTraceWheres (by kernel_rfl) (of_decide_eq_true (by kernel_rfl)) k2 bel lt2) trodAll_mk0))), rfl, bel.frame _, fun h => by cases h⟩

theorem overTraceWheres : Rows.traceWheresRow.holds Try.pinned (OpenSpec.ofChange Rows.traceWheresSpec) :=
  OpenClaim.holds_of_wide 4 Try.f4 rfl rfl rfl rfl rfl rfl rfl ⟨rfl, rfl, rfl, rfl, rfl⟩ rfl rfl rfl rfl rfl (by kernel_rfl) Try.func4 (by kernel_rfl)
    (of_decide_eq_true (by kernel_rfl)) (by unfold Func.isWrapper; first | (rw [if_pos (by decide +kernel)]; kernel_rfl) | (rw [if_neg (by decide +kernel)]; exact ⟨rfl, rfl⟩))
    (fun os started H enc _ => liftedTraceWheres os started H enc)
theorem provedTraceWheres : Rows.TraceWheresSaid := overTraceWheres
#print axioms provedTraceWheres
end Go.Proofs.Ytgkkgpenmppjcaa
