/-
  The law TowBest: the given statement holds. Conditions: none.
-/
import Derived.Test.YtmicjleiheoieaaRows
import Derived.WalkKit
import Derived.ProofKit
import Derived.OpenShut
import Derived.ShutString
import Derived.ChangeOld
import Derived.Below
import Derived.Test.YtmicjleiheoieaaOpen
import Derived.Test.YtmicjleiheoieaaA49
namespace Go.Proofs.Ytmicjleiheoieaa
open Go Go.ChangeShapes Go.WideShapes Go.ChangeAt Go.RowKit
set_option linter.unusedVariables false
theorem rd3 {H : Type} {enc : TypeId × Value → H} {w : World} {cs : List Value} (h : Rd enc Try.prog w 3 cs) : ∃ (n0 : Int), cs = [.int .i64 n0] ∧ ((-9223372036854775808 ≤ n0 ∧ n0 ≤ 9223372036854775807)) := h.int Try.underlying3
theorem rd45 {H : Type} {enc : TypeId × Value → H} {w : World} {cs : List Value} (h : Rd enc Try.prog w 45 cs) : ∃ (n0 : Int) (n1 : Int), cs = [.int .i64 n0, .int .i64 n1] ∧ ((-9223372036854775808 ≤ n0 ∧ n0 ≤ 9223372036854775807)) ∧ ((-9223372036854775808 ≤ n1 ∧ n1 ≤ 9223372036854775807)) := by
  have hl : cs.length = 2 := (h.struct Try.underlying45).1.trans (by kernel_rfl)
  obtain ⟨n0_0, e0, r0_0⟩ := rd3 (h.fld Try.underlying45 0 rfl rfl rfl (by kernel_rfl : _ = 1))
  obtain ⟨n0_1, e1, r0_1⟩ := rd3 (h.fld Try.underlying45 1 rfl rfl rfl (by kernel_rfl : _ = 1))
  match cs, hl, e0, e1 with
  | [c0, c1], _, e0, e1 =>
    simp at e0 e1
    obtain rfl := e0
    obtain rfl := e1
    exact ⟨n0_0, n0_1, rfl, r0_0, r0_1⟩
theorem rd59 {H : Type} {enc : TypeId × Value → H} {w : World} {cs : List Value} (h : Rd enc Try.prog w 59 cs) : ∃ (n0 : Int) (n1 : Int) (n2 : Int) (n3 : Int) (n4 : Int) (n5 : Int), cs = [.int .i64 n0, .int .i64 n1, .int .i64 n2, .int .i64 n3, .int .i64 n4, .int .i64 n5] ∧ ((-9223372036854775808 ≤ n0 ∧ n0 ≤ 9223372036854775807)) ∧ ((-9223372036854775808 ≤ n1 ∧ n1 ≤ 9223372036854775807)) ∧ ((-9223372036854775808 ≤ n2 ∧ n2 ≤ 9223372036854775807)) ∧ ((-9223372036854775808 ≤ n3 ∧ n3 ≤ 9223372036854775807)) ∧ ((-9223372036854775808 ≤ n4 ∧ n4 ≤ 9223372036854775807)) ∧ ((-9223372036854775808 ≤ n5 ∧ n5 ≤ 9223372036854775807)) := by
  have hl : cs.length = 6 := (h.struct Try.underlying59).1.trans (by kernel_rfl)
  obtain ⟨n0_0, e0, r0_0⟩ := rd3 (h.fld Try.underlying59 0 rfl rfl rfl (by kernel_rfl : _ = 1))
  obtain ⟨n0_1, e1, r0_1⟩ := rd3 (h.fld Try.underlying59 1 rfl rfl rfl (by kernel_rfl : _ = 1))
  obtain ⟨n0_2, n1_2, e2, r0_2, r1_2⟩ := rd45 (h.fld Try.underlying59 2 rfl rfl rfl (by kernel_rfl : _ = 2))
  obtain ⟨n0_3, n1_3, e3, r0_3, r1_3⟩ := rd45 (h.fld Try.underlying59 3 rfl rfl rfl (by kernel_rfl : _ = 2))
  match cs, hl, e0, e1, e2, e3 with
  | [c0, c1, c2, c3, c4, c5], _, e0, e1, e2, e3 =>
    simp at e0 e1 e2 e3
    obtain rfl := e0
    obtain rfl := e1
    obtain ⟨rfl, rfl⟩ := e2
    obtain ⟨rfl, rfl⟩ := e3
    exact ⟨n0_0, n0_1, n0_2, n1_2, n0_3, n1_3, rfl, r0_0, r0_1, r0_2, r1_2, r0_3, r1_3⟩
theorem rd46 {H : Type} {enc : TypeId × Value → H} {w : World} {cs : List Value} (h : Rd enc Try.prog w 46 cs) : ∃ (xs0 : List Run) (ao0 : Option Addr) (b0 : Nat) (o0 : Nat) (cp0 : Nat), cs = [.slice ao0 xs0.length cp0] ∧ (xs0.length ≤ cp0 ∧ cp0 ≤ maxLen ∧ Sl encRun 6 w ao0 b0 o0 xs0 ∧ ∀ x ∈ xs0, True) := by
  obtain ⟨ao, b, o, cap, xs, h1, h2, h3, h4, h5⟩ := h.sl (enc' := encRun) (R := fun x => True) (by kernel_rfl : _ = 6) (by decide) Try.underlying46 (fun cs hc => by
    obtain ⟨n0, n1, n2, n3, n4, n5, e, r0, r1, r2, r3, r4, r5⟩ := rd59 hc
    exact ⟨⟨n0, n1, ⟨n2, n3⟩, ⟨n4, n5⟩⟩, e, trivial⟩)
  exact ⟨xs, ao, b, o, cap, h1, h2, h3, h4, h5⟩

theorem rd48 {H : Type} {enc : TypeId × Value → H} {w : World} {cs : List Value} (h : Rd enc Try.prog w 48 cs) : ∃ (n0 : Int) (n1 : Int) (xs2 : List Run) (ao2 : Option Addr) (b2 : Nat) (o2 : Nat) (cp2 : Nat) (n3 : Int) (n4 : Int), cs = [.int .i64 n0, .int .i64 n1, .slice ao2 xs2.length cp2, .int .i64 n3, .int .i64 n4] ∧ ((-9223372036854775808 ≤ n0 ∧ n0 ≤ 9223372036854775807)) ∧ ((-9223372036854775808 ≤ n1 ∧ n1 ≤ 9223372036854775807)) ∧ (xs2.length ≤ cp2 ∧ cp2 ≤ maxLen ∧ Sl encRun 6 w ao2 b2 o2 xs2 ∧ ∀ x ∈ xs2, True) ∧ ((-9223372036854775808 ≤ n3 ∧ n3 ≤ 9223372036854775807)) ∧ ((-9223372036854775808 ≤ n4 ∧ n4 ≤ 9223372036854775807)) := by
  have hl : cs.length = 5 := (h.struct Try.underlying48).1.trans (by kernel_rfl)
  obtain ⟨n0_0, n1_0, e0, r0_0, r1_0⟩ := rd45 (h.fld Try.underlying48 0 rfl rfl rfl (by kernel_rfl : _ = 2))
  obtain ⟨xs0_1, ao0_1, b0_1, o0_1, cp0_1, e1, r0_1⟩ := rd46 (h.fld Try.underlying48 1 rfl rfl rfl (by kernel_rfl : _ = 1))
  obtain ⟨n0_2, e2, r0_2⟩ := rd3 (h.fld Try.underlying48 2 rfl rfl rfl (by kernel_rfl : _ = 1))
  obtain ⟨n0_3, e3, r0_3⟩ := rd3 (h.fld Try.underlying48 3 rfl rfl rfl (by kernel_rfl : _ = 1))
  match cs, hl, e0, e1, e2, e3 with
  | [c0, c1, c2, c3, c4], _, e0, e1, e2, e3 =>
    simp at e0 e1 e2 e3
    obtain ⟨rfl, rfl⟩ := e0
    obtain rfl := e1
    obtain rfl := e2
    obtain rfl := e3
    exact ⟨n0_0, n1_0, xs0_1, ao0_1, b0_1, o0_1, cp0_1, n0_2, n0_3, rfl, r0_0, r1_0, r0_1, r0_2, r0_3⟩
theorem rd34 {H : Type} {enc : TypeId × Value → H} {w : World} {cs : List Value} (h : Rd enc Try.prog w 34 cs) : ∃ (xs0 : List HVoy) (ao0 : Option Addr) (b0 : Nat) (o0 : Nat) (cp0 : Nat), cs = [.slice ao0 xs0.length cp0] ∧ (xs0.length ≤ cp0 ∧ cp0 ≤ maxLen ∧ Sl encHVoy 5 w ao0 b0 o0 xs0 ∧ ∀ x ∈ xs0, Sl encRun 6 w x.ao x.b x.o x.v.runs) := by
  obtain ⟨ao, b, o, cap, xs, h1, h2, h3, h4, h5⟩ := h.sl (enc' := encHVoy) (R := fun x => Sl encRun 6 w x.ao x.b x.o x.v.runs) (by kernel_rfl : _ = 5) (by decide) Try.underlying34 (fun cs hc => by
    obtain ⟨n0, n1, xs2, ao2, b2, o2, cp2, n3, n4, e, r0, r1, r2, r3, r4⟩ := rd48 hc
    exact ⟨⟨⟨⟨n0, n1⟩, xs2, n3, n4⟩, ao2, b2, o2, cp2⟩, e, r2.2.2.1⟩)
  exact ⟨xs, ao, b, o, cap, h1, h2, h3, h4, h5⟩

theorem rd4 {H : Type} {enc : TypeId × Value → H} {w : World} {cs : List Value} (h : Rd enc Try.prog w 4 cs) : ∃ (n0 : Bool), cs = [.bool n0] := by
  obtain ⟨b, e⟩ := h.bool Try.underlying4
  exact ⟨b, e⟩
theorem rd72 {H : Type} {enc : TypeId × Value → H} {w : World} {cs : List Value} (h : Rd enc Try.prog w 72 cs) : ∃ (n0 : Int) (n1 : Int) (n2 : Int) (n3 : Bool), cs = [.int .i64 n0, .int .i64 n1, .int .i64 n2, .bool n3] ∧ ((-9223372036854775808 ≤ n0 ∧ n0 ≤ 9223372036854775807)) ∧ ((-9223372036854775808 ≤ n1 ∧ n1 ≤ 9223372036854775807)) ∧ ((-9223372036854775808 ≤ n2 ∧ n2 ≤ 9223372036854775807)) := by
  have hl : cs.length = 4 := (h.struct Try.underlying72).1.trans (by kernel_rfl)
  obtain ⟨n0_0, e0, r0_0⟩ := rd3 (h.fld Try.underlying72 0 rfl rfl rfl (by kernel_rfl : _ = 1))
  obtain ⟨n0_1, e1, r0_1⟩ := rd3 (h.fld Try.underlying72 1 rfl rfl rfl (by kernel_rfl : _ = 1))
  obtain ⟨n0_2, e2, r0_2⟩ := rd3 (h.fld Try.underlying72 2 rfl rfl rfl (by kernel_rfl : _ = 1))
  obtain ⟨n0_3, e3⟩ := rd4 (h.fld Try.underlying72 3 rfl rfl rfl (by kernel_rfl : _ = 1))
  match cs, hl, e0, e1, e2, e3 with
  | [c0, c1, c2, c3], _, e0, e1, e2, e3 =>
    simp at e0 e1 e2 e3
    obtain rfl := e0
    obtain rfl := e1
    obtain rfl := e2
    obtain rfl := e3
    exact ⟨n0_0, n0_1, n0_2, n0_3, rfl, r0_0, r0_1, r0_2⟩
theorem rd35 {H : Type} {enc : TypeId × Value → H} {w : World} {cs : List Value} (h : Rd enc Try.prog w 35 cs) : ∃ (xs0 : List Nar) (ao0 : Option Addr) (b0 : Nat) (o0 : Nat) (cp0 : Nat), cs = [.slice ao0 xs0.length cp0] ∧ (xs0.length ≤ cp0 ∧ cp0 ≤ maxLen ∧ Sl encNar 4 w ao0 b0 o0 xs0 ∧ ∀ x ∈ xs0, True) := by
  obtain ⟨ao, b, o, cap, xs, h1, h2, h3, h4, h5⟩ := h.sl (enc' := encNar) (R := fun x => True) (by kernel_rfl : _ = 4) (by decide) Try.underlying35 (fun cs hc => by
    obtain ⟨n0, n1, n2, n3, e, r0, r1, r2⟩ := rd72 hc
    exact ⟨⟨n0, n1, n2, n3⟩, e, trivial⟩)
  exact ⟨xs, ao, b, o, cap, h1, h2, h3, h4, h5⟩

theorem rd37 {H : Type} {enc : TypeId × Value → H} {w : World} {cs : List Value} (h : Rd enc Try.prog w 37 cs) : ∃ (xs0 : List HVoy) (ao0 : Option Addr) (b0 : Nat) (o0 : Nat) (cp0 : Nat) (xs1 : List Nar) (ao1 : Option Addr) (b1 : Nat) (o1 : Nat) (cp1 : Nat), cs = [.slice ao0 xs0.length cp0, .slice ao1 xs1.length cp1] ∧ (xs0.length ≤ cp0 ∧ cp0 ≤ maxLen ∧ Sl encHVoy 5 w ao0 b0 o0 xs0 ∧ ∀ x ∈ xs0, Sl encRun 6 w x.ao x.b x.o x.v.runs) ∧ (xs1.length ≤ cp1 ∧ cp1 ≤ maxLen ∧ Sl encNar 4 w ao1 b1 o1 xs1 ∧ ∀ x ∈ xs1, True) := by
  have hl : cs.length = 2 := (h.struct Try.underlying37).1.trans (by kernel_rfl)
  obtain ⟨xs0_0, ao0_0, b0_0, o0_0, cp0_0, e0, r0_0⟩ := rd34 (h.fld Try.underlying37 0 rfl rfl rfl (by kernel_rfl : _ = 1))
  obtain ⟨xs0_1, ao0_1, b0_1, o0_1, cp0_1, e1, r0_1⟩ := rd35 (h.fld Try.underlying37 1 rfl rfl rfl (by kernel_rfl : _ = 1))
  match cs, hl, e0, e1 with
  | [c0, c1], _, e0, e1 =>
    simp at e0 e1
    obtain rfl := e0
    obtain rfl := e1
    exact ⟨xs0_0, ao0_0, b0_0, o0_0, cp0_0, xs0_1, ao0_1, b0_1, o0_1, cp0_1, rfl, r0_0, r0_1⟩
theorem rd5 {H : Type} {enc : TypeId × Value → H} {w : World} {cs : List Value} (h : Rd enc Try.prog w 5 cs) : ∃ (n0 : Int), cs = [.int .u8 n0] ∧ ((0 ≤ n0 ∧ n0 ≤ 255)) := h.intu8 Try.underlying5
theorem rd79 {H : Type} {enc : TypeId × Value → H} {w : World} {cs : List Value} (h : Rd enc Try.prog w 79 cs) : ∃ (xs0 : List Int) (ao0 : Option Addr) (b0 : Nat) (o0 : Nat) (cp0 : Nat), cs = [.slice ao0 xs0.length cp0] ∧ (xs0.length ≤ cp0 ∧ cp0 ≤ maxLen ∧ Sl encU8 1 w ao0 b0 o0 xs0 ∧ ∀ x ∈ xs0, (0 ≤ x ∧ x ≤ 255)) := by
  obtain ⟨ao, b, o, cap, xs, h1, h2, h3, h4, h5⟩ := h.sl (enc' := encU8) (R := fun x => (0 ≤ x ∧ x ≤ 255)) (by kernel_rfl : _ = 1) (by decide) Try.underlying79 (fun cs hc => by
    obtain ⟨n0, e, r0⟩ := rd5 hc
    exact ⟨n0, e, r0⟩)
  exact ⟨xs, ao, b, o, cap, h1, h2, h3, h4, h5⟩



theorem ownTowBest : ownKnob Try.prog.godebug = none := by kernel_rfl
theorem laidOutTowBest : laidOutB Try.prog = true := by kernel_rfl
set_option maxHeartbeats 1000000 in
set_option maxRecDepth 100000 in
theorem liftedTowBest (os : Os) (started : os.Started) (H : Type) (enc : TypeId × Value → H) :
    ReturnsInHanded {} Try.checked os 14 .any (Rows.towBestSpec.pre6 enc Try.prog Try.f14 Rows.towBestRow.domain false) (Rows.towBestSpec.post enc Try.prog Try.f14 false true false false) := by
  refine returnsInHanded_of_change (C := Try.checked) ownTowBest started (by kernel_rfl) Try.func14
    (ChangeSpec.witness6 (enc := enc) (C := Try.checked) false ⟨#[], #[.agg #[.slice none 0 0, .slice none 0 0], .int .u8 0, .slice none 0 0], []⟩ 8 (by kernel_rfl) (by kernel_rfl) (by kernel_rfl) (by kernel_rfl)) ?_
  intro W base args ds gs before hval0 hW hcnd _
  have hval : ∀ (j : Nat) t v, Try.f14.params[j]? = some t → args[j]? = some v → Value.okWide Try.prog W .any base t v := hval0
  have hW' := hW
  obtain ⟨p, q, hA0, hV, rfl, hfz, hnd⟩ := hW
  have hA : DataW.TrodAll enc Try.prog W 0 (fun _ => true) true Try.f14.params.toList args.toList ds p := hA0
  rw [Try.params14] at hA hval
  obtain ⟨v0, vs0, d0, ds0, p0, q0, hargs, rfl, rfl, h0, r0⟩ := trodAll_cons hA
  obtain ⟨v1, vs1, d1, ds1, p1, q1, rfl, rfl, rfl, h1, r1⟩ := trodAll_cons r0
  obtain ⟨v2, vs2, d2, ds2, p2, q2, rfl, rfl, rfl, h2, r2⟩ := trodAll_cons r1
  obtain ⟨rfl, rfl, rfl⟩ := trodAll_nil r2
  obtain rfl : args = #[v0, v1, v2] := by cases args; simp_all
  obtain ⟨rfl, rfl⟩ := trodVars_none hV
  have k0 := h0
  have lt0 : ∀ x ∈ p0, x.block < W.heap.size := by obtain ⟨m, hm⟩ := k0; exact DataW.trod_lt m _ _ _ hm
  obtain ⟨cs0, rfl, -⟩ := okWide_struct Try.underlying37 (hval 0 37 v0 rfl rfl)
  obtain ⟨xs0_p0, ao0_p0, b0_p0, o0_p0, cp0_p0, xs1_p0, ao1_p0, b1_p0, o1_p0, cp1_p0, ce0, f0_p0, f1_p0⟩ := rd37 (Rd.of h0)
  obtain rfl : cs0 = #[.slice ao0_p0 xs0_p0.length cp0_p0, .slice ao1_p0 xs1_p0.length cp1_p0] := by cases cs0; simpa [Value.cells] using ce0
  have k1 := h1
  have lt1 : ∀ x ∈ p1, x.block < W.heap.size := by obtain ⟨m, hm⟩ := k1; exact DataW.trod_lt m _ _ _ hm
  obtain ⟨nn1, rfl⟩ := okWide_int Try.underlying5 (hval 1 5 v1 rfl rfl)
  obtain ⟨n0_p1, ce1, f0_p1⟩ := rd5 (Rd.of h1)
  simp [Value.cells] at ce1
  obtain rfl := ce1.symm
  have k2 := h2
  have lt2 : ∀ x ∈ p2, x.block < W.heap.size := by obtain ⟨m, hm⟩ := k2; exact DataW.trod_lt m _ _ _ hm
  obtain ⟨aa2, ll2, cc2, rfl⟩ := okWide_slice Try.underlying79 (hval 2 79 v2 rfl rfl)
  obtain ⟨xs0_p2, ao0_p2, b0_p2, o0_p2, cp0_p2, ce2, f0_p2⟩ := rd79 (Rd.of h2)
  simp [Value.cells] at ce2
  obtain ⟨cx2, cy2, cz2⟩ := ce2
  subst cy2
  obtain rfl := cx2.symm
  obtain rfl := cz2.symm
  clear hA0 hval0
  refine Calls.mono (TowBest_c xs0_p0 ao0_p0 b0_p0 o0_p0 cp0_p0 xs1_p0 ao1_p0 b1_p0 o1_p0 cp1_p0 n0_p1 xs0_p2 ao0_p2 b0_p2 o0_p2 cp0_p2 W f0_p0.2.2.1 f0_p0.2.2.2 f1_p0.2.2.1 (Nat.le_trans f0_p0.1 f0_p0.2.1) (Nat.le_trans f1_p0.1 f1_p0.2.1) f0_p1 f0_p2.2.2.1 f0_p2.2.2.2 (Nat.le_trans f0_p2.1 f0_p2.2.1)) fun e W' hv => ?_
  obtain ⟨v, rfl, rfl, ext⟩ := hv
  have bel := Ext.below ext
  exact ⟨_, rfl, _, _, _, [], _, [], hW', trodAll_mk1 (shut_bool Try.underlying4 _), (trodAll_cons_mk (Below.trod laidOutTowBest (by kernel_rfl) (of_decide_eq_true (by kernel_rfl)) k0 bel lt0) (trodAll_cons_mk (Below.trod laidOutTowBest (by kernel_rfl) (of_decide_eq_true (by kernel_rfl)) k1 bel lt1) (trodAll_cons_mk (Below.trod laidOutTowBest (by kernel_rfl) (of_decide_eq_true (by kernel_rfl)) k2 bel lt2) trodAll_mk0))), rfl, bel.frame _, fun h => by cases h⟩

theorem overTowBest : Rows.towBestRow.holds Try.pinned (OpenSpec.ofChange Rows.towBestSpec) :=
  OpenClaim.holds_of_wide 14 Try.f14 rfl rfl rfl rfl rfl rfl rfl ⟨rfl, rfl, rfl, rfl, rfl⟩ rfl rfl rfl rfl rfl (by kernel_rfl) Try.func14 (by kernel_rfl)
    (of_decide_eq_true (by kernel_rfl)) (by unfold Func.isWrapper; first | (rw [if_pos (by decide +kernel)]; kernel_rfl) | (rw [if_neg (by decide +kernel)]; exact ⟨rfl, rfl⟩))
    (fun os started H enc _ => liftedTowBest os started H enc)
theorem provedTowBest : Rows.TowBestSaid := overTowBest
#print axioms provedTowBest
end Go.Proofs.Ytmicjleiheoieaa
