/-
  Part 25 of the proof: contracts and plain laws. Conditions: none.
-/
import Derived.Test.YtjdcpnaocjddoaaGreatDoorRows
import Derived.WalkKit
import Derived.ProofKit
import Derived.OpenShut
import Derived.ShutString
import Derived.ChangeOld
import Derived.Below
import Derived.Test.YtjdcpnaocjddoaaGreatDoorJK24
namespace Go.Proofs.YtjdcpnaocjddoaaGreatDoor
open Go Go.ChangeShapes Go.WideShapes Go.ChangeAt Go.RowKit
set_option linter.unusedVariables false
theorem rd3 {H : Type} {enc : TypeId × Value → H} {w : World} {cs : List Value} (h : Rs enc Tryz.prog w 3 cs) : ∃ (n0 : Int), cs = [.int .i64 n0] ∧ ((-9223372036854775808 ≤ n0 ∧ n0 ≤ 9223372036854775807)) := h.int Tryz.underlying3
theorem rd41 {H : Type} {enc : TypeId × Value → H} {w : World} {cs : List Value} (h : Rs enc Tryz.prog w 41 cs) : ∃ (n0 : Int), cs = [.int .i64 n0] ∧ ((-9223372036854775808 ≤ n0 ∧ n0 ≤ 9223372036854775807)) := h.int Tryz.underlying41
theorem rd43 {H : Type} {enc : TypeId × Value → H} {w : World} {cs : List Value} (h : Rs enc Tryz.prog w 43 cs) : ∃ (n0 : Int) (n1 : Int) (n2 : Int) (n3 : Int) (n4 : Int) (n5 : Int), cs = [.int .i64 n0, .int .i64 n1, .int .i64 n2, .int .i64 n3, .int .i64 n4, .int .i64 n5] ∧ ((-9223372036854775808 ≤ n0 ∧ n0 ≤ 9223372036854775807)) ∧ ((-9223372036854775808 ≤ n1 ∧ n1 ≤ 9223372036854775807)) ∧ ((-9223372036854775808 ≤ n2 ∧ n2 ≤ 9223372036854775807)) ∧ ((-9223372036854775808 ≤ n3 ∧ n3 ≤ 9223372036854775807)) ∧ ((-9223372036854775808 ≤ n4 ∧ n4 ≤ 9223372036854775807)) ∧ ((-9223372036854775808 ≤ n5 ∧ n5 ≤ 9223372036854775807)) := by
  have hl : cs.length = 6 := (h.struct Tryz.underlying43).1.trans (by kernel_rfl)
  obtain ⟨n0_0, e0, r0_0⟩ := rd3 (h.fld Tryz.underlying43 0 rfl rfl rfl (by kernel_rfl : _ = 1))
  obtain ⟨n0_1, e1, r0_1⟩ := rd41 (h.fld Tryz.underlying43 1 rfl rfl rfl (by kernel_rfl : _ = 1))
  obtain ⟨n0_2, e2, r0_2⟩ := rd3 (h.fld Tryz.underlying43 2 rfl rfl rfl (by kernel_rfl : _ = 1))
  obtain ⟨n0_3, e3, r0_3⟩ := rd3 (h.fld Tryz.underlying43 3 rfl rfl rfl (by kernel_rfl : _ = 1))
  obtain ⟨n0_4, e4, r0_4⟩ := rd3 (h.fld Tryz.underlying43 4 rfl rfl rfl (by kernel_rfl : _ = 1))
  obtain ⟨n0_5, e5, r0_5⟩ := rd3 (h.fld Tryz.underlying43 5 rfl rfl rfl (by kernel_rfl : _ = 1))
  match cs, hl, e0, e1, e2, e3, e4, e5 with
  | [c0, c1, c2, c3, c4, c5], _, e0, e1, e2, e3, e4, e5 =>
    simp at e0 e1 e2 e3 e4 e5
    obtain rfl := e0
    obtain rfl := e1
    obtain rfl := e2
    obtain rfl := e3
    obtain rfl := e4
    obtain rfl := e5
    exact ⟨n0_0, n0_1, n0_2, n0_3, n0_4, n0_5, rfl, r0_0, r0_1, r0_2, r0_3, r0_4, r0_5⟩
theorem rd22 {H : Type} {enc : TypeId × Value → H} {w : World} {cs : List Value} (h : Rs enc Tryz.prog w 22 cs) : ∃ (xs0 : List Ent) (ao0 : Option Addr) (b0 : Nat) (o0 : Nat) (cp0 : Nat), cs = [.slice ao0 xs0.length cp0] ∧ (xs0.length ≤ cp0 ∧ cp0 ≤ maxLen ∧ Sl encEnt 6 w ao0 b0 o0 xs0 ∧ ∀ x ∈ xs0, True) := by
  obtain ⟨ao, b, o, cap, xs, h1, h2, h3, h4, h5⟩ := h.sl (enc' := encEnt) (R := fun x => True) (by kernel_rfl : _ = 6) (by decide) Tryz.underlying22 (fun cs hc => by
    obtain ⟨n0, n1, n2, n3, n4, n5, e, r0, r1, r2, r3, r4, r5⟩ := rd43 hc
    exact ⟨⟨n0, n1, n2, n3, n4, n5⟩, e, trivial⟩)
  exact ⟨xs, ao, b, o, cap, h1, h2, h3.1, h4, h5⟩

theorem rd59 {H : Type} {enc : TypeId × Value → H} {w : World} {cs : List Value} (h : Rs enc Tryz.prog w 59 cs) : ∃ (xs0 : List Int) (ao0 : Option Addr) (b0 : Nat) (o0 : Nat) (cp0 : Nat), cs = [.slice ao0 xs0.length cp0] ∧ (xs0.length ≤ cp0 ∧ cp0 ≤ 17592186044416 ∧ Sl encI 1 w ao0 b0 o0 xs0 ∧ ∀ x ∈ xs0, True) := by
  obtain ⟨ao, b, o, cap, xs, h1, h2, h3, h4, h5⟩ := h.sl (enc' := encI) (R := fun x => True) (by kernel_rfl : _ = 1) (by decide) Tryz.underlying59 (fun cs hc => by
    obtain ⟨n0, e, r0⟩ := rd3 hc
    exact ⟨n0, e, trivial⟩)
  exact ⟨xs, ao, b, o, cap, h1, h2, (cap_of_bytes (by have h8 := h3.2; rwa [show Tryz.prog.bytesOf 3 = 8 from by kernel_rfl] at h8)), h4, h5⟩

theorem rd80 {H : Type} {enc : TypeId × Value → H} {w : World} {cs : List Value} (h : Rs enc Tryz.prog w 80 cs) : ∃ (n0 : Int) (n1 : Int) (xs2 : List Int) (ao2 : Option Addr) (b2 : Nat) (o2 : Nat) (cp2 : Nat), cs = [.int .i64 n0, .int .i64 n1, .slice ao2 xs2.length cp2] ∧ ((-9223372036854775808 ≤ n0 ∧ n0 ≤ 9223372036854775807)) ∧ ((-9223372036854775808 ≤ n1 ∧ n1 ≤ 9223372036854775807)) ∧ (xs2.length ≤ cp2 ∧ cp2 ≤ 17592186044416 ∧ Sl encI 1 w ao2 b2 o2 xs2 ∧ ∀ x ∈ xs2, True) := by
  have hl : cs.length = 3 := (h.struct Tryz.underlying80).1.trans (by kernel_rfl)
  obtain ⟨n0_0, e0, r0_0⟩ := rd3 (h.fld Tryz.underlying80 0 rfl rfl rfl (by kernel_rfl : _ = 1))
  obtain ⟨n0_1, e1, r0_1⟩ := rd3 (h.fld Tryz.underlying80 1 rfl rfl rfl (by kernel_rfl : _ = 1))
  obtain ⟨xs0_2, ao0_2, b0_2, o0_2, cp0_2, e2, r0_2⟩ := rd59 (h.fld Tryz.underlying80 2 rfl rfl rfl (by kernel_rfl : _ = 1))
  match cs, hl, e0, e1, e2 with
  | [c0, c1, c2], _, e0, e1, e2 =>
    simp at e0 e1 e2
    obtain rfl := e0
    obtain rfl := e1
    obtain rfl := e2
    exact ⟨n0_0, n0_1, xs0_2, ao0_2, b0_2, o0_2, cp0_2, rfl, r0_0, r0_1, r0_2⟩
theorem rd78 {H : Type} {enc : TypeId × Value → H} {w : World} {cs : List Value} (h : Rs enc Tryz.prog w 78 cs) : ∃ (xs0 : List Gau) (ao0 : Option Addr) (b0 : Nat) (o0 : Nat) (cp0 : Nat), cs = [.slice ao0 xs0.length cp0] ∧ (xs0.length ≤ cp0 ∧ cp0 ≤ maxLen ∧ Sl encGau 3 w ao0 b0 o0 xs0 ∧ ∀ x ∈ xs0, Sl encI 1 w x.ao x.g x.ob x.s ∧ x.s.length ≤ x.cp ∧ x.s.length ≤ 17592186044416) := by
  obtain ⟨ao, b, o, cap, xs, h1, h2, h3, h4, h5⟩ := h.sl (enc' := encGau) (R := fun x => Sl encI 1 w x.ao x.g x.ob x.s ∧ x.s.length ≤ x.cp ∧ x.s.length ≤ 17592186044416) (by kernel_rfl : _ = 3) (by decide) Tryz.underlying78 (fun cs hc => by
    obtain ⟨n0, n1, xs2, ao2, b2, o2, cp2, e, r0, r1, r2⟩ := rd80 hc
    exact ⟨⟨n0, n1, xs2, ao2, b2, o2, cp2⟩, e, r2.2.2.1, r2.1, Nat.le_trans r2.1 r2.2.1⟩)
  exact ⟨xs, ao, b, o, cap, h1, h2, h3.1, h4, h5⟩

theorem rd71 {H : Type} {enc : TypeId × Value → H} {w : World} {cs : List Value} (h : Rs enc Tryz.prog w 71 cs) : ∃ (n0 : Int) (n1 : Int) (n2 : Int) (n3 : Int) (n4 : Int) (xs5 : List Int) (ao5 : Option Addr) (b5 : Nat) (o5 : Nat) (cp5 : Nat), cs = [.int .i64 n0, .int .i64 n1, .int .i64 n2, .int .i64 n3, .int .i64 n4, .slice ao5 xs5.length cp5] ∧ ((-9223372036854775808 ≤ n0 ∧ n0 ≤ 9223372036854775807)) ∧ ((-9223372036854775808 ≤ n1 ∧ n1 ≤ 9223372036854775807)) ∧ ((-9223372036854775808 ≤ n2 ∧ n2 ≤ 9223372036854775807)) ∧ ((-9223372036854775808 ≤ n3 ∧ n3 ≤ 9223372036854775807)) ∧ ((-9223372036854775808 ≤ n4 ∧ n4 ≤ 9223372036854775807)) ∧ (xs5.length ≤ cp5 ∧ cp5 ≤ 17592186044416 ∧ Sl encI 1 w ao5 b5 o5 xs5 ∧ ∀ x ∈ xs5, True) := by
  have hl : cs.length = 6 := (h.struct Tryz.underlying71).1.trans (by kernel_rfl)
  obtain ⟨n0_0, e0, r0_0⟩ := rd3 (h.fld Tryz.underlying71 0 rfl rfl rfl (by kernel_rfl : _ = 1))
  obtain ⟨n0_1, e1, r0_1⟩ := rd3 (h.fld Tryz.underlying71 1 rfl rfl rfl (by kernel_rfl : _ = 1))
  obtain ⟨n0_2, e2, r0_2⟩ := rd3 (h.fld Tryz.underlying71 2 rfl rfl rfl (by kernel_rfl : _ = 1))
  obtain ⟨n0_3, e3, r0_3⟩ := rd3 (h.fld Tryz.underlying71 3 rfl rfl rfl (by kernel_rfl : _ = 1))
  obtain ⟨n0_4, e4, r0_4⟩ := rd3 (h.fld Tryz.underlying71 4 rfl rfl rfl (by kernel_rfl : _ = 1))
  obtain ⟨xs0_5, ao0_5, b0_5, o0_5, cp0_5, e5, r0_5⟩ := rd59 (h.fld Tryz.underlying71 5 rfl rfl rfl (by kernel_rfl : _ = 1))
  match cs, hl, e0, e1, e2, e3, e4, e5 with
  | [c0, c1, c2, c3, c4, c5], _, e0, e1, e2, e3, e4, e5 =>
    simp at e0 e1 e2 e3 e4 e5
    obtain rfl := e0
    obtain rfl := e1
    obtain rfl := e2
    obtain rfl := e3
    obtain rfl := e4
    obtain rfl := e5
    exact ⟨n0_0, n0_1, n0_2, n0_3, n0_4, xs0_5, ao0_5, b0_5, o0_5, cp0_5, rfl, r0_0, r0_1, r0_2, r0_3, r0_4, r0_5⟩
theorem rd69 {H : Type} {enc : TypeId × Value → H} {w : World} {cs : List Value} (h : Rs enc Tryz.prog w 69 cs) : ∃ (xs0 : List Bil) (ao0 : Option Addr) (b0 : Nat) (o0 : Nat) (cp0 : Nat), cs = [.slice ao0 xs0.length cp0] ∧ (xs0.length ≤ cp0 ∧ cp0 ≤ maxLen ∧ Sl encBil 6 w ao0 b0 o0 xs0 ∧ ∀ x ∈ xs0, Sl encI 1 w x.ao x.g x.ob x.s ∧ x.s.length ≤ 17592186044416) := by
  obtain ⟨ao, b, o, cap, xs, h1, h2, h3, h4, h5⟩ := h.sl (enc' := encBil) (R := fun x => Sl encI 1 w x.ao x.g x.ob x.s ∧ x.s.length ≤ 17592186044416) (by kernel_rfl : _ = 6) (by decide) Tryz.underlying69 (fun cs hc => by
    obtain ⟨n0, n1, n2, n3, n4, xs5, ao5, b5, o5, cp5, e, r0, r1, r2, r3, r4, r5⟩ := rd71 hc
    exact ⟨⟨n0, n1, n2, n3, n4, xs5, ao5, b5, o5, cp5⟩, e, r5.2.2.1, Nat.le_trans r5.1 r5.2.1⟩)
  exact ⟨xs, ao, b, o, cap, h1, h2, h3.1, h4, h5⟩

theorem rd88 {H : Type} {enc : TypeId × Value → H} {w : World} {cs : List Value} (h : Rs enc Tryz.prog w 88 cs) : ∃ (xs0 : List Gau) (ao0 : Option Addr) (b0 : Nat) (o0 : Nat) (cp0 : Nat) (xs1 : List Bil) (ao1 : Option Addr) (b1 : Nat) (o1 : Nat) (cp1 : Nat), cs = [.slice ao0 xs0.length cp0, .slice ao1 xs1.length cp1] ∧ (xs0.length ≤ cp0 ∧ cp0 ≤ maxLen ∧ Sl encGau 3 w ao0 b0 o0 xs0 ∧ ∀ x ∈ xs0, Sl encI 1 w x.ao x.g x.ob x.s ∧ x.s.length ≤ x.cp ∧ x.s.length ≤ 17592186044416) ∧ (xs1.length ≤ cp1 ∧ cp1 ≤ maxLen ∧ Sl encBil 6 w ao1 b1 o1 xs1 ∧ ∀ x ∈ xs1, Sl encI 1 w x.ao x.g x.ob x.s ∧ x.s.length ≤ 17592186044416) := by
  have hl : cs.length = 2 := (h.struct Tryz.underlying88).1.trans (by kernel_rfl)
  obtain ⟨xs0_0, ao0_0, b0_0, o0_0, cp0_0, e0, r0_0⟩ := rd78 (h.fld Tryz.underlying88 0 rfl rfl rfl (by kernel_rfl : _ = 1))
  obtain ⟨xs0_1, ao0_1, b0_1, o0_1, cp0_1, e1, r0_1⟩ := rd69 (h.fld Tryz.underlying88 1 rfl rfl rfl (by kernel_rfl : _ = 1))
  match cs, hl, e0, e1 with
  | [c0, c1], _, e0, e1 =>
    simp at e0 e1
    obtain rfl := e0
    obtain rfl := e1
    exact ⟨xs0_0, ao0_0, b0_0, o0_0, cp0_0, xs0_1, ao0_1, b0_1, o0_1, cp0_1, rfl, r0_0, r0_1⟩
theorem rd89 {H : Type} {enc : TypeId × Value → H} {w : World} {cs : List Value} (h : Rs enc Tryz.prog w 89 cs) : ∃ (n0 : Int), cs = [.int .u16 n0] ∧ ((0 ≤ n0 ∧ n0 ≤ 65535)) := h.intu16 Tryz.underlying89
theorem rd5 {H : Type} {enc : TypeId × Value → H} {w : World} {cs : List Value} (h : Rs enc Tryz.prog w 5 cs) : ∃ (n0 : Int), cs = [.int .u8 n0] ∧ ((0 ≤ n0 ∧ n0 ≤ 255)) := h.intu8 Tryz.underlying5
theorem rd90 {H : Type} {enc : TypeId × Value → H} {w : World} {cs : List Value} (h : Rs enc Tryz.prog w 90 cs) : ∃ (n0 : Int) (n1 : Int), cs = [.int .u8 n0, .int .u8 n1] ∧ ((0 ≤ n0 ∧ n0 ≤ 255)) ∧ ((0 ≤ n1 ∧ n1 ≤ 255)) := by
  have hl : cs.length = 2 := (h.array Tryz.underlying90).1.trans (by kernel_rfl)
  obtain ⟨n0_0, e0, r0_0⟩ := rd5 (h.elt Tryz.underlying90 0 (by decide) (by kernel_rfl : _ = 1))
  obtain ⟨n0_1, e1, r0_1⟩ := rd5 (h.elt Tryz.underlying90 1 (by decide) (by kernel_rfl : _ = 1))
  match cs, hl, e0, e1 with
  | [c0, c1], _, e0, e1 =>
    simp at e0 e1
    obtain rfl := e0
    obtain rfl := e1
    exact ⟨n0_0, n0_1, rfl, r0_0, r0_1⟩
theorem rd92 {H : Type} {enc : TypeId × Value → H} {w : World} {cs : List Value} (h : Rs enc Tryz.prog w 92 cs) : ∃ (n0 : Int) (n1 : Int) (n2 : Int) (n3 : Int) (n4 : Int), cs = [.int .u16 n0, .int .u16 n1, .int .u8 n2, .int .u8 n3, .int .u8 n4] ∧ ((0 ≤ n0 ∧ n0 ≤ 65535)) ∧ ((0 ≤ n1 ∧ n1 ≤ 65535)) ∧ ((0 ≤ n2 ∧ n2 ≤ 255)) ∧ ((0 ≤ n3 ∧ n3 ≤ 255)) ∧ ((0 ≤ n4 ∧ n4 ≤ 255)) := by
  have hl : cs.length = 5 := (h.struct Tryz.underlying92).1.trans (by kernel_rfl)
  obtain ⟨n0_0, e0, r0_0⟩ := rd89 (h.fld Tryz.underlying92 0 rfl rfl rfl (by kernel_rfl : _ = 1))
  obtain ⟨n0_1, e1, r0_1⟩ := rd89 (h.fld Tryz.underlying92 1 rfl rfl rfl (by kernel_rfl : _ = 1))
  obtain ⟨n0_2, e2, r0_2⟩ := rd5 (h.fld Tryz.underlying92 2 rfl rfl rfl (by kernel_rfl : _ = 1))
  obtain ⟨n0_3, n1_3, e3, r0_3, r1_3⟩ := rd90 (h.fld Tryz.underlying92 3 rfl rfl rfl (by kernel_rfl : _ = 2))
  match cs, hl, e0, e1, e2, e3 with
  | [c0, c1, c2, c3, c4], _, e0, e1, e2, e3 =>
    simp at e0 e1 e2 e3
    obtain rfl := e0
    obtain rfl := e1
    obtain rfl := e2
    obtain ⟨rfl, rfl⟩ := e3
    exact ⟨n0_0, n0_1, n0_2, n0_3, n1_3, rfl, r0_0, r0_1, r0_2, r0_3, r1_3⟩


theorem ownLogsDamage : ownKnob Tryz.prog.godebug = none := by kernel_rfl
theorem laidOutLogsDamage : laidOutB Tryz.prog = true := by kernel_rfl
set_option maxHeartbeats 1000000 in
set_option maxRecDepth 100000 in
theorem liftedLogsDamage (os : Os) (started : os.Started) (H : Type) (enc : TypeId × Value → H) :
    ReturnsInHanded {} Tryz.checked os 11 .any (fun w args => (Rows.logsDamageSpec.pre enc Tryz.prog Tryz.f11 Rows.logsDamageRow.domain false w args ∧ laidMet Tryz.prog Rows.logsDamageRow.laid w) ∧ sizedMet enc Tryz.prog Tryz.f11 (OpenSpec.ofChange Rows.logsDamageSpec) false w args) (Rows.logsDamageSpec.post enc Tryz.prog Tryz.f11 false true false false) := by
  refine returnsInHanded_of_change_and (C := Tryz.checked) (X := fun w _ => laidMet Tryz.prog Rows.logsDamageRow.laid w) (fun _ _ _ hh h => h.of_heap hh) ownLogsDamage started (by kernel_rfl) Tryz.func11
    (ChangeSpec.witness_at (enc := enc) (C := Tryz.checked) (os := os) (X := fun w _ => laidMet Tryz.prog Rows.logsDamageRow.laid w) false (laidWorld os) #[.slice none 0 0, .agg #[.slice none 0 0, .slice none 0 0], .agg #[.int .u16 0, .int .u16 0, .int .u8 0, .int .u8 0, .int .u8 0]] 8 rfl (by kernel_rfl) (by kernel_rfl) (by kernel_rfl) (by kernel_rfl) (by kernel_rfl) (laid_met os _)) ?_
  intro W base args ds gs before hval0 hW hcnd hsz hL _
  have hval : ∀ (j : Nat) t v, Tryz.f11.params[j]? = some t → args[j]? = some v → Value.okWide Tryz.prog W .any base t v := hval0
  have hW' := hW
  obtain ⟨p, q, hA0, hV, rfl, hfz, hnd⟩ := hW
  have hA : DataW.TrodAll enc Tryz.prog W 0 (fun _ => true) true Tryz.f11.params.toList args.toList ds p := hA0
  rw [Tryz.params11] at hA hval
  obtain ⟨v0, vs0, d0, ds0, p0, q0, hargs, rfl, rfl, h0, r0⟩ := trodAll_cons hA
  obtain ⟨v1, vs1, d1, ds1, p1, q1, rfl, rfl, rfl, h1, r1⟩ := trodAll_cons r0
  obtain ⟨v2, vs2, d2, ds2, p2, q2, rfl, rfl, rfl, h2, r2⟩ := trodAll_cons r1
  obtain ⟨rfl, rfl, rfl⟩ := trodAll_nil r2
  obtain rfl : args = #[v0, v1, v2] := by cases args; simp_all
  obtain ⟨rfl, rfl⟩ := trodVars_none hV
  have hz9 : ∀ n ∈ DataW.weightsEach Tryz.prog (Tryz.f11.params.toList ++ _) ([d0, d1, d2] ++ []), n ≤ reachBytes := fun n hn => by simpa using List.all_eq_true.1 hsz n hn
  have k0 := h0
  have lt0 : ∀ x ∈ p0, x.block < W.heap.size := by obtain ⟨m, hm⟩ := k0; exact DataW.trod_lt m _ _ _ hm
  obtain ⟨aa0, ll0, cc0, rfl⟩ := okWide_slice Tryz.underlying22 (hval 0 22 v0 rfl rfl)
  obtain ⟨xs0_p0, ao0_p0, b0_p0, o0_p0, cp0_p0, ce0, f0_p0⟩ := rd22 (Rs.of h0 (fun n hn => hz9 n (DataW.weights_mem_each (j := 0) (t := 22) (by rw [Tryz.params11]; rfl) rfl n hn)))
  simp [Value.cells] at ce0
  obtain ⟨cx0, cy0, cz0⟩ := ce0
  subst cy0
  obtain rfl := cx0.symm
  obtain rfl := cz0.symm
  have k1 := h1
  have lt1 : ∀ x ∈ p1, x.block < W.heap.size := by obtain ⟨m, hm⟩ := k1; exact DataW.trod_lt m _ _ _ hm
  obtain ⟨cs1, rfl, -⟩ := okWide_struct Tryz.underlying88 (hval 1 88 v1 rfl rfl)
  obtain ⟨xs0_p1, ao0_p1, b0_p1, o0_p1, cp0_p1, xs1_p1, ao1_p1, b1_p1, o1_p1, cp1_p1, ce1, f0_p1, f1_p1⟩ := rd88 (Rs.of h1 (fun n hn => hz9 n (DataW.weights_mem_each (j := 1) (t := 88) (by rw [Tryz.params11]; rfl) rfl n hn)))
  obtain rfl : cs1 = #[.slice ao0_p1 xs0_p1.length cp0_p1, .slice ao1_p1 xs1_p1.length cp1_p1] := by cases cs1; simpa [Value.cells] using ce1
  have k2 := h2
  have lt2 : ∀ x ∈ p2, x.block < W.heap.size := by obtain ⟨m, hm⟩ := k2; exact DataW.trod_lt m _ _ _ hm
  obtain ⟨cs2, rfl, -⟩ := okWide_struct Tryz.underlying92 (hval 2 92 v2 rfl rfl)
  obtain ⟨n0_p2, n1_p2, n2_p2, n3_p2, n4_p2, ce2, f0_p2, f1_p2, f2_p2, f3_p2, f4_p2⟩ := rd92 (Rs.of h2 (fun n hn => hz9 n (DataW.weights_mem_each (j := 2) (t := 92) (by rw [Tryz.params11]; rfl) rfl n hn)))
  obtain rfl : cs2 = #[.int .u16 n0_p2, .int .u16 n1_p2, .int .u8 n2_p2, .int .u8 n3_p2, .int .u8 n4_p2] := by cases cs2; simpa [Value.cells] using ce2
  clear hA0 hval0
  refine Calls.mono ((by have h9 := LogsDamage_c xs0_p0 ao0_p0 b0_p0 o0_p0 cp0_p0 xs0_p1 ao0_p1 b0_p1 o0_p1 cp0_p1 xs1_p1 ao1_p1 b1_p1 o1_p1 cp1_p1 n0_p2.toNat n1_p2.toNat (UInt8.ofNat n2_p2.toNat) (UInt8.ofNat n3_p2.toNat) (UInt8.ofNat n4_p2.toNat) W f0_p0.2.2.1 f0_p1.2.2.1 f1_p1.2.2.1 f0_p1.2.2.2 f1_p1.2.2.2 (Nat.le_trans f0_p0.1 f0_p0.2.1) (Nat.le_trans f0_p1.1 f0_p1.2.1) (Nat.le_trans f1_p1.1 f1_p1.2.1) (by omega) (by omega) (err_of_laid hL) (tab_of_laid hL) (tab_pos (tab_of_laid hL)); rw [Int.toNat_of_nonneg f0_p2.1, Int.toNat_of_nonneg f1_p2.1, u8_back f2_p2, u8_back f3_p2, u8_back f4_p2] at h9; exact h9)) fun e W' hv => ?_
  obtain ⟨v, rfl, rfl, ext⟩ := hv
  have bel := Ext.below ext
  exact ⟨_, rfl, _, _, _, [], _, [], hW', trodAll_mk1 (shut_bool Tryz.underlying4 _), (trodAll_cons_mk (Below.trod laidOutLogsDamage (by kernel_rfl) (of_decide_eq_true (by kernel_rfl)) k0 bel lt0) (trodAll_cons_mk (Below.trod laidOutLogsDamage (by kernel_rfl) (of_decide_eq_true (by kernel_rfl)) k1 bel lt1) (trodAll_cons_mk (Below.trod laidOutLogsDamage (by kernel_rfl) (of_decide_eq_true (by kernel_rfl)) k2 bel lt2) trodAll_mk0))), rfl, bel.frame _, fun h => by cases h⟩

theorem overLogsDamage : Rows.logsDamageRow.holds Tryz.pinned (OpenSpec.ofChange Rows.logsDamageSpec) :=
  OpenClaim.holds_of_wide 11 Tryz.f11 rfl rfl rfl rfl rfl rfl rfl ⟨rfl, rfl, rfl, rfl, rfl⟩ rfl rfl rfl rfl rfl (by kernel_rfl) Tryz.func11 (by kernel_rfl)
    (of_decide_eq_true (by kernel_rfl)) (by unfold Func.isWrapper; first | (rw [if_pos (by decide +kernel)]; kernel_rfl) | (rw [if_neg (by decide +kernel)]; exact ⟨rfl, rfl⟩))
    (fun os started H enc _ => liftedLogsDamage os started H enc)
theorem provedLogsDamage : Rows.LogsDamageSaid := overLogsDamage
#print axioms provedLogsDamage
end Go.Proofs.YtjdcpnaocjddoaaGreatDoor
