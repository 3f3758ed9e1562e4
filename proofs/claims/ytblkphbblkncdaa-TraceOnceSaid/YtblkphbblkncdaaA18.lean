/-
  The contract of known. Conditions: none.
-/
import Derived.Test.YtblkphbblkncdaaA17
import Derived.Test.YtblkphbblkncdaaA6
import Derived.Test.YtblkphbblkncdaaEq
namespace Go.Proofs.Ytblkphbblkncdaa
open Go Go.RowKit
def exS : List Sur := [⟨1000, 990, 1000, false⟩, ⟨1000, 970, 985, false⟩, ⟨400, 380, 390, true⟩]
def exX : Ev := ⟨1, 0, 1, 0, 0, 201, 1, 0⟩
theorem kn_u3 : (sailP exB exH (exU.take 3)).2 = (0, 0) := by kernel_rfl
theorem kn_u : (sailP exB exH exU).2 = (0, 0) := by kernel_rfl
theorem kn_h3 : (sailP exB exH (exU.take 3)).1.hold = [[⟨0, 350, [0]⟩], [⟨1, 100, [1, 2]⟩, ⟨0, 150, [0, 2]⟩], []] := by kernel_rfl
theorem kn_l : findL (sailP exB exH exU).1.landed 3 = some [⟨0, 150, [0, 2, 3]⟩, ⟨1, 50, [1, 2, 3]⟩] := by kernel_rfl
theorem kn_w : whP exB (sailP exB exH exU).1 1 = [⟨0, 0, 200⟩, ⟨1, 1, 50⟩, ⟨2, 9, 50⟩] := by kernel_rfl
theorem kn_c : (List.range exB.length).map (coP exB (sailP exB exH exU).1) = [⟨500, 350, 150, 0⟩, ⟨100, 50, 0, 50⟩] := by kernel_rfl
theorem kn_r : recF (sailP exB exH exU).1.landed 1 = [3] := by kernel_rfl
theorem kn_x : (sailP exB exH (exU ++ [exX])).2 = (4, 6) := by kernel_rfl
theorem kn_s : runS exS 0 [⟨0, 0, 0⟩] = ([⟨0, 0, 0⟩, ⟨0, 10, 1⟩, ⟨15, 20, 3⟩], -1) := by kernel_rfl
/-- Two layers, one after another. -/
theorem two_lay {xs : List HLay} {a b : Lay} (h : xs.map HLay.v = [a, b]) : ∃ x0 a1 b1 c1, xs = [x0, ⟨b, a1, b1, c1⟩] ∧ x0.v = a := by
  match xs, h with
  | [x, ⟨y, a1, b1, c1⟩], h =>
    injection h with h1 h2
    injection h2 with h2 _
    have h2 : y = b := h2
    subst h2
    exact ⟨x, a1, b1, c1, rfl, h1⟩
theorem three_map {α β : Type} {f : α → β} {xs : List α} {a b c : β} (h : xs.map f = [a, b, c]) : ∃ x y z, xs = [x, y, z] ∧ f y = b := by
  match xs, h with
  | [x, y, z], h =>
    injection h with _ h
    injection h with h _
    exact ⟨x, y, z, rfl, h⟩
theorem kn_replay (ab : Option Addr) (bb cb : Nat) (ah : Option Addr) (bh ch : Nat) (ae : Option Addr) (be ce : Nat) (w0 : World) (hb : Sl encBil 3 w0 ab bb 0 exB) (hh : Sl encHld 2 w0 ah bh 0 exH) (hpos : 0 < w0.heap.size) (hu : Sl encEv 8 w0 ae be 0 (exU.take 3)) : CallsV Try.prog 15 [.agg #[.slice ab 2 cb, .slice ah 3 ch], .slice ae 3 ce] w0
    (fun v w' => (∃ ao g c r0 r2 ao1 g1 c1 x0 b0 k0 a1 p1 k1, v = .tuple #[.slice ao 3 c, .int .i64 0, .int .i64 0] ∧ Sl encRowL 1 w' ao g 0 [r0, ⟨ao1, g1, c1, [⟨⟨1, 100, [1, 2]⟩, x0, b0, k0⟩, ⟨⟨0, 150, [0, 2]⟩, a1, p1, k1⟩]⟩, r2] ∧
      Sl encHLay 3 w' ao1 g1 0 [⟨⟨1, 100, [1, 2]⟩, x0, b0, k0⟩, ⟨⟨0, 150, [0, 2]⟩, a1, p1, k1⟩] ∧ Sl encI 1 w' a1 p1 0 [0, 2]) ∧ Ext w0 w') := by
  refine (Replay_c exB ab bb 0 cb exH ah bh 0 ch (exU.take 3) ae be 0 ce w0 hb hh (by decide) (by decide) hu (by decide) hpos).mono ?_
  rintro v w' ⟨h, u⟩
  refine ⟨?_, u⟩
  rcases h with ⟨at1, e1, rfl, he, h⟩ | ⟨ao, g, c, rows, rfl, h, hs, hr, hm⟩
  · exfalso
    have h9 := kn_u3.symm.trans h
    injection h9 with h8 h9
    exact absurd h9.symm he
  · rw [kn_h3] at hm
    obtain ⟨r0, ⟨ao1, g1, c1, xs1⟩, r2, rfl, hm2⟩ := three_map hm.1
    have hm2 : xs1.map HLay.v = _ := hm2
    obtain ⟨⟨v0, x0, b0, k0⟩, a1, p1, k1, rfl, hv⟩ := two_lay hm2
    have hv : v0 = _ := hv
    subst hv
    have h1 := hr _ (.tail _ (.head _))
    exact ⟨ao, g, c, r0, r2, ao1, g1, c1, x0, b0, k0, a1, p1, k1, rfl, hs, h1.1, h1.2 _ (.tail _ (.head _))⟩
theorem kn_landed (ab : Option Addr) (bb cb : Nat) (ah : Option Addr) (bh ch : Nat) (ae : Option Addr) (be ce : Nat) (w0 : World) (hb : Sl encBil 3 w0 ab bb 0 exB) (hh : Sl encHld 2 w0 ah bh 0 exH) (hpos : 0 < w0.heap.size) (hu : Sl encEv 8 w0 ae be 0 exU) : CallsV Try.prog 16 [.agg #[.slice ab 2 cb, .slice ah 3 ch], .slice ae 4 ce, .int .i64 3] w0
    (fun v w' => (∃ ao g c x0 a1 p1 k1, v = .tuple #[.slice ao 2 c, .int .i64 0, .int .i64 0] ∧ Sl encHLay 3 w' ao g 0 [x0, ⟨⟨1, 50, [1, 2, 3]⟩, a1, p1, k1⟩] ∧ Sl encI 1 w' a1 p1 0 [1, 2, 3]) ∧ Ext w0 w') := by
  refine (Landed_c exB ab bb 0 cb exH ah bh 0 ch exU ae be 0 ce 3 w0 hb hh (by decide) (by decide) hu (by decide) hpos).mono ?_
  rintro v w' ⟨h, u⟩
  refine ⟨?_, u⟩
  rcases h with ⟨at1, e1, rfl, he, h⟩ | ⟨_, h, _⟩ | ⟨_, ao, g, c, xs, rfl, h, hs, hr⟩
  · exfalso
    have h9 := kn_u.symm.trans h
    injection h9 with h8 h9
    exact absurd h9.symm he
  · rw [kn_l] at h; cases h
  · rw [kn_l] at h
    injection h with h
    obtain ⟨x0, a1, p1, k1, rfl, _⟩ := two_lay h.symm
    exact ⟨ao, g, c, x0, a1, p1, k1, rfl, hs, hr _ (.tail _ (.head _))⟩
theorem kn_where (ab : Option Addr) (bb cb : Nat) (ah : Option Addr) (bh ch : Nat) (ae : Option Addr) (be ce : Nat) (w0 : World) (hb : Sl encBil 3 w0 ab bb 0 exB) (hh : Sl encHld 2 w0 ah bh 0 exH) (hpos : 0 < w0.heap.size) (hu : Sl encEv 8 w0 ae be 0 exU) : CallsV Try.prog 21 [.agg #[.slice ab 2 cb, .slice ah 3 ch], .slice ae 4 ce, .int .i64 1] w0
    (fun v w' => (∃ ao g c, v = .tuple #[.slice ao 3 c, .int .i64 0, .int .i64 0] ∧ Sl encShr 3 w' ao g 0 [⟨0, 0, 200⟩, ⟨1, 1, 50⟩, ⟨2, 9, 50⟩]) ∧ Ext w0 w') := by
  refine (Where_c exB ab bb 0 cb exH ah bh 0 ch exU ae be 0 ce 1 w0 hb hh (by decide) (by decide) hu (by decide) hpos).mono ?_
  rintro v w' ⟨h, u⟩
  refine ⟨?_, u⟩
  rcases h with ⟨at1, e1, rfl, he, h⟩ | ⟨_, h, _⟩ | ⟨_, _, ao, g, c, r, rfl, h, hs⟩
  · exfalso
    have h9 := kn_u.symm.trans h
    injection h9 with h8 h9
    exact absurd h9.symm he
  · exact absurd (by decide) h
  · rw [kn_w] at h; subst h
    exact ⟨ao, g, c, rfl, hs⟩
theorem kn_control (ab : Option Addr) (bb cb : Nat) (ah : Option Addr) (bh ch : Nat) (ae : Option Addr) (be ce : Nat) (w0 : World) (hb : Sl encBil 3 w0 ab bb 0 exB) (hh : Sl encHld 2 w0 ah bh 0 exH) (hpos : 0 < w0.heap.size) (hu : Sl encEv 8 w0 ae be 0 exU) : CallsV Try.prog 22 [.agg #[.slice ab 2 cb, .slice ah 3 ch], .slice ae 4 ce] w0
    (fun v w' => (∃ ao g c, v = .tuple #[.slice ao 2 c, .int .i64 0, .int .i64 0] ∧ Sl encCnt 4 w' ao g 0 [⟨500, 350, 150, 0⟩, ⟨100, 50, 0, 50⟩]) ∧ Ext w0 w') := by
  refine (Control_c exB ab bb 0 cb exH ah bh 0 ch exU ae be 0 ce w0 hb hh (by decide) (by decide) hu (by decide) hpos).mono ?_
  rintro v w' ⟨h, u⟩
  refine ⟨?_, u⟩
  rcases h with ⟨at1, e1, rfl, he, h⟩ | ⟨_, ao, g, c, r, rfl, h, hs⟩
  · exfalso
    have h9 := kn_u.symm.trans h
    injection h9 with h8 h9
    exact absurd h9.symm he
  · rw [kn_c] at h; subst h
    exact ⟨ao, g, c, rfl, hs⟩
theorem kn_recall (ab : Option Addr) (bb cb : Nat) (ah : Option Addr) (bh ch : Nat) (ae : Option Addr) (be ce : Nat) (w0 : World) (hb : Sl encBil 3 w0 ab bb 0 exB) (hh : Sl encHld 2 w0 ah bh 0 exH) (hpos : 0 < w0.heap.size) (hu : Sl encEv 8 w0 ae be 0 exU) : CallsV Try.prog 23 [.agg #[.slice ab 2 cb, .slice ah 3 ch], .slice ae 4 ce, .int .i64 1] w0
    (fun v w' => (∃ ao g c, v = .tuple #[.slice ao 1 c, .int .i64 0, .int .i64 0] ∧ Sl encI 1 w' ao g 0 [3]) ∧ Ext w0 w') := by
  refine (Recall_c exB ab bb 0 cb exH ah bh 0 ch exU ae be 0 ce 1 w0 hb hh (by decide) (by decide) hu (by decide) hpos).mono ?_
  rintro v w' ⟨h, u⟩
  refine ⟨?_, u⟩
  rcases h with ⟨at1, e1, rfl, he, h⟩ | ⟨_, h, _⟩ | ⟨_, _, ao, g, c, r, rfl, h, hs⟩
  · exfalso
    have h9 := kn_u.symm.trans h
    injection h9 with h8 h9
    exact absurd h9.symm he
  · exact absurd (by decide) h
  · rw [kn_r] at h; subst h
    exact ⟨ao, g, c, rfl, hs⟩
theorem kn_twice (ab : Option Addr) (bb cb : Nat) (ah : Option Addr) (bh ch : Nat) (ae : Option Addr) (be ce : Nat) (w0 : World) (hb : Sl encBil 3 w0 ab bb 0 exB) (hh : Sl encHld 2 w0 ah bh 0 exH) (hpos : 0 < w0.heap.size) (hu : Sl encEv 8 w0 ae be 0 (exU ++ [exX])) : CallsV Try.prog 15 [.agg #[.slice ab 2 cb, .slice ah 3 ch], .slice ae 5 ce] w0
    (fun v w' => v = .tuple #[.slice none 0 0, .int .i64 4, .int .i64 6] ∧ Ext w0 w') := by
  refine (Replay_c exB ab bb 0 cb exH ah bh 0 ch (exU ++ [exX]) ae be 0 ce w0 hb hh (by decide) (by decide) hu (by decide) hpos).mono ?_
  rintro v w' ⟨h, u⟩
  refine ⟨?_, u⟩
  rcases h with ⟨at1, e1, rfl, he, h⟩ | ⟨ao, g, c, rows, rfl, h, _⟩
  · have h9 := kn_x.symm.trans h
    injection h9 with h8 h9
    subst h8; subst h9; rfl
  · have h9 := kn_x.symm.trans h
    injection h9 with h8 h9
    exact absurd h8 (by decide)
theorem kn_losses (b : Nat) (w : World) (h : Blk w b 79 (exS.flatMap encSur)) : CallsV Try.prog 28 [.slice (some ⟨b, 0, none⟩) 3 3] w
    (fun v w' => (∃ g x0 x1, v = .tuple #[.slice (some ⟨g, 0, none⟩) 3 3, .int .i64 0, .int .i64 0] ∧ Sl encBd 2 w' (some ⟨g, 0, none⟩) g 0 [x0, x1, ⟨15, 20⟩]) ∧ Ext w w') := by
  refine (Losses_c exS (some ⟨b, 0, none⟩) b 0 3 w (Sl.ofBlk (enc := encSur) (xs := exS) (fun _ => rfl) h) (by decide)).mono ?_
  rintro v w' ⟨h, u⟩
  refine ⟨?_, u⟩
  rcases h with ⟨h, _⟩ | ⟨_, h, _⟩ | ⟨_, _, ⟨i, h, _⟩ | ⟨_, g, M, rfl, hs, hl, hm⟩⟩
  · exact absurd h (by decide)
  · exact absurd h (by decide)
  · rw [kn_s] at h
    have h9 := congrArg Prod.snd h
    have h9 : (-1 : Int) = (i : Int) := h9
    omega
  · rw [kn_s] at hm
    have h2 : nth M 2 = ⟨15, 20⟩ := hm 2 (by decide) (by decide) 2 (by decide) (by decide)
    match M, hl, hs, h2 with
    | [x0, x1, x2], _, hs, h2 =>
      have h2 : x2 = ⟨15, 20⟩ := h2
      subst h2
      exact ⟨g, x0, x1, rfl, hs⟩
theorem kn_num (xs : List Int) (ao a2 : Option Addr) (b b2 c c2 : Nat) (w : World) (h1 : Sl encI 1 w ao b 0 xs) (h2 : Sl encI 1 w a2 b2 0 xs) (hl : xs.length ≤ 1000000) : CallsV Try.prog 26 [.slice ao xs.length c, .slice a2 xs.length c2] w (fun v w' => v = .bool true ∧ Ext w w') :=
  (numbers_c xs xs ao a2 b b2 0 0 c c2 w h1 h2 hl).mono fun v w' ⟨e, u⟩ => ⟨by rw [e, decide_eq_true rfl], u⟩

theorem own11 : Own Try.prog 11 := ⟨Try.f11, Try.func11, by kernel_rfl, by kernel_rfl⟩

theorem eqIn71 (n : Nat) (a0 : Int) (a1 : Int) (a2 : Int) (b0 : Int) (b1 : Int) (b2 : Int) (w : World) : (Op.equalIn (n + 2) 71 (.agg #[.int .i64 a0, .int .i64 a1, .int .i64 a2]) (.agg #[.int .i64 b0, .int .i64 b1, .int .i64 b2])).run Try.prog w = .ok (decide (a0 = b0) && decide (a1 = b1) && decide (a2 = b2)) w := by
  have hS : Try.prog.underlying 71 = some (.struct (Try.prog.fieldsOf 71)) := by kernel_rfl
  have hp : Try.prog.stoodInHeld 71 = false := by kernel_rfl
  have p0 : ∀ (a0 : Int) (a1 : Int) (a2 : Int), (part 69 #[.int .i64 a0, .int .i64 a1, .int .i64 a2] 0).run Try.prog w = .ok (.int .i64 a0) w := fun _ _ _ => by simp [part, Try.isAgg69]
  have p1 : ∀ (a0 : Int) (a1 : Int) (a2 : Int), (part 3 #[.int .i64 a0, .int .i64 a1, .int .i64 a2] 1).run Try.prog w = .ok (.int .i64 a1) w := fun _ _ _ => by simp [part, Try.isAgg3]
  have p2 : ∀ (a0 : Int) (a1 : Int) (a2 : Int), (part 3 #[.int .i64 a0, .int .i64 a1, .int .i64 a2] 2).run Try.prog w = .ok (.int .i64 a2) w := fun _ _ _ => by simp [part, Try.isAgg3]
  have e3 := fun a b w => equal_i64 Try.underlying3 (n + 0) a b w
  have e69 := fun a b w => equal_i64 Try.underlying69 (n + 0) a b w
  rw [run_equalIn_struct w (n + 1) 71 _ _ hS hp]
  simp only [Program.fieldsOf, Try.underlying71]
  simp only [Op.eqFields, Sem.run_bind, Sem.run_ite, p0, p1, p2, e3, e69, Result.andThen_ok]
  by_cases h0 : a0 = b0 <;> by_cases h1 : a1 = b1 <;> by_cases h2 : a2 = b2 <;> simp [h0, h1, h2, p0, p1, p2, e3, e69]
theorem eqIn65 (n : Nat) (a0 : Int) (a1 : Int) (a2 : Int) (a3 : Int) (b0 : Int) (b1 : Int) (b2 : Int) (b3 : Int) (w : World) : (Op.equalIn (n + 2) 65 (.agg #[.int .i64 a0, .int .i64 a1, .int .i64 a2, .int .i64 a3]) (.agg #[.int .i64 b0, .int .i64 b1, .int .i64 b2, .int .i64 b3])).run Try.prog w = .ok (decide (a0 = b0) && decide (a1 = b1) && decide (a2 = b2) && decide (a3 = b3)) w := by
  have hS : Try.prog.underlying 65 = some (.struct (Try.prog.fieldsOf 65)) := by kernel_rfl
  have hp : Try.prog.stoodInHeld 65 = false := by kernel_rfl
  have p0 : ∀ (a0 : Int) (a1 : Int) (a2 : Int) (a3 : Int), (part 3 #[.int .i64 a0, .int .i64 a1, .int .i64 a2, .int .i64 a3] 0).run Try.prog w = .ok (.int .i64 a0) w := fun _ _ _ _ => by simp [part, Try.isAgg3]
  have p1 : ∀ (a0 : Int) (a1 : Int) (a2 : Int) (a3 : Int), (part 3 #[.int .i64 a0, .int .i64 a1, .int .i64 a2, .int .i64 a3] 1).run Try.prog w = .ok (.int .i64 a1) w := fun _ _ _ _ => by simp [part, Try.isAgg3]
  have p2 : ∀ (a0 : Int) (a1 : Int) (a2 : Int) (a3 : Int), (part 3 #[.int .i64 a0, .int .i64 a1, .int .i64 a2, .int .i64 a3] 2).run Try.prog w = .ok (.int .i64 a2) w := fun _ _ _ _ => by simp [part, Try.isAgg3]
  have p3 : ∀ (a0 : Int) (a1 : Int) (a2 : Int) (a3 : Int), (part 3 #[.int .i64 a0, .int .i64 a1, .int .i64 a2, .int .i64 a3] 3).run Try.prog w = .ok (.int .i64 a3) w := fun _ _ _ _ => by simp [part, Try.isAgg3]
  have e3 := fun a b w => equal_i64 Try.underlying3 (n + 0) a b w
  rw [run_equalIn_struct w (n + 1) 65 _ _ hS hp]
  simp only [Program.fieldsOf, Try.underlying65]
  simp only [Op.eqFields, Sem.run_bind, Sem.run_ite, p0, p1, p2, p3, e3, Result.andThen_ok]
  by_cases h0 : a0 = b0 <;> by_cases h1 : a1 = b1 <;> by_cases h2 : a2 = b2 <;> by_cases h3 : a3 = b3 <;> simp [h0, h1, h2, h3, p0, p1, p2, p3, e3]
theorem eqIn77 (n : Nat) (a0 : Int) (a1 : Int) (b0 : Int) (b1 : Int) (w : World) : (Op.equalIn (n + 2) 77 (.agg #[.int .i64 a0, .int .i64 a1]) (.agg #[.int .i64 b0, .int .i64 b1])).run Try.prog w = .ok (decide (a0 = b0) && decide (a1 = b1)) w := by
  have hS : Try.prog.underlying 77 = some (.struct (Try.prog.fieldsOf 77)) := by kernel_rfl
  have hp : Try.prog.stoodInHeld 77 = false := by kernel_rfl
  have p0 : ∀ (a0 : Int) (a1 : Int), (part 3 #[.int .i64 a0, .int .i64 a1] 0).run Try.prog w = .ok (.int .i64 a0) w := fun _ _ => by simp [part, Try.isAgg3]
  have p1 : ∀ (a0 : Int) (a1 : Int), (part 3 #[.int .i64 a0, .int .i64 a1] 1).run Try.prog w = .ok (.int .i64 a1) w := fun _ _ => by simp [part, Try.isAgg3]
  have e3 := fun a b w => equal_i64 Try.underlying3 (n + 0) a b w
  rw [run_equalIn_struct w (n + 1) 77 _ _ hS hp]
  simp only [Program.fieldsOf, Try.underlying77]
  simp only [Op.eqFields, Sem.run_bind, Sem.run_ite, p0, p1, e3, Result.andThen_ok]
  by_cases h0 : a0 = b0 <;> by_cases h1 : a1 = b1 <;> simp [h0, h1, p0, p1, e3]
theorem eqIn79 (n : Nat) (a0 : Int) (a1 : Int) (a2 : Int) (a3 : Bool) (b0 : Int) (b1 : Int) (b2 : Int) (b3 : Bool) (w : World) : (Op.equalIn (n + 3) 79 (.agg #[.int .i64 a0, .int .i64 a1, .int .i64 a2, .bool a3]) (.agg #[.int .i64 b0, .int .i64 b1, .int .i64 b2, .bool b3])).run Try.prog w = .ok (decide (a0 = b0) && (decide (a1 = b1) && decide (a2 = b2)) && decide (a3 = b3)) w := by
  have hS : Try.prog.underlying 79 = some (.struct (Try.prog.fieldsOf 79)) := by kernel_rfl
  have hp : Try.prog.stoodInHeld 79 = false := by kernel_rfl
  have p0 : ∀ (a0 : Int) (a1 : Int) (a2 : Int) (a3 : Bool), (part 3 #[.int .i64 a0, .int .i64 a1, .int .i64 a2, .bool a3] 0).run Try.prog w = .ok (.int .i64 a0) w := fun _ _ _ _ => by simp [part, Try.isAgg3]
  have p1 : ∀ (a0 : Int) (a1 : Int) (a2 : Int) (a3 : Bool), (part 77 #[.int .i64 a0, .int .i64 a1, .int .i64 a2, .bool a3] 1).run Try.prog w = .ok (.agg #[.int .i64 a1, .int .i64 a2]) w := fun _ _ _ _ => by simp [part, Try.isAgg77, Try.sizeOf77]
  have p2 : ∀ (a0 : Int) (a1 : Int) (a2 : Int) (a3 : Bool), (part 4 #[.int .i64 a0, .int .i64 a1, .int .i64 a2, .bool a3] 3).run Try.prog w = .ok (.bool a3) w := fun _ _ _ _ => by simp [part, Try.isAgg4]
  have e3 := fun a b w => equal_i64 Try.underlying3 (n + 1) a b w
  have e4 := fun a b w => equal_bool Try.underlying4 (n + 1) a b w
  have e77 := eqIn77 (n + 0)
  rw [run_equalIn_struct w (n + 2) 79 _ _ hS hp]
  simp only [Program.fieldsOf, Try.underlying79]
  simp only [Op.eqFields, Sem.run_bind, Sem.run_ite, p0, p1, p2, e3, e4, e77, Result.andThen_ok]
  by_cases h0 : a0 = b0 <;> by_cases h1 : (decide (a1 = b1) && decide (a2 = b2)) = true <;> by_cases h2 : a3 = b3 <;> simp [h0, h1, h2, p0, p1, p2, e3, e4, e77]

set_option maxHeartbeats 1000000 in
theorem known_c  (w0 : World) :
    CallsV Try.prog 11 [] w0 (fun v w' => v = .bool true ∧ Ext w0 w') := by
 refine f_enter (N := 215) Try.func11 rfl rfl rfl (c_seq fun K1 hK1 => (c_region (t_assign rfl rfl rfl (t_nil' (hK1 _ _ (c_seq fun K2 hK2 => (c_region (t_call own36 rfl rfl rfl rfl (manifest_c _) (fun v3 w4 r6 => ?_)))))))))
 obtain ⟨b11, b21, rfl, fB1, fH1, lB1, lH1, u5⟩ := r6
 have zu5 := u5.size
 have lt_mB1 := fB1.lt (Nat.succ_pos _)
 have lt_mH1 := fH1.lt (Nat.succ_pos _)
 refine t_call own37 rfl rfl rfl rfl (voyage_c _) (fun v8 w9 r11 => ?_)
 obtain ⟨bV1, rfl, fV1, lV1, u10⟩ := r11
 have zu10 := u10.size
 have lt_V1 := fV1.lt
 refine t_sliceTo (3) Try.underlying26 Try.sizeOf41 rfl rfl rfl rfl rfl (by decide) ?_
 have D13 := (fB1.keep u10 (fun _ h => h))
 have D14 := (fH1.keep u10 (fun _ h => h))
 refine t_call own15 rfl rfl rfl rfl (kn_replay (some ⟨b11, 0, none⟩) b11 2 (some ⟨b21, 0, none⟩) b21 3 (subAddr (some ⟨bV1, 0, none⟩) 4 0 8) bV1 4 _ D13 D14 (by omega) ((Sl.ofBlk (enc := encEv) (xs := exU) (fun _ => rfl) fV1).sub 4 0 3 (by decide))) (fun v15 w16 r18 => ?_)
 obtain ⟨⟨aoR, gR, cR, r0, r2, ao1, g1, c1, x0, b0, k0, a1, p1, k1, rfl, hR, hL1, hP1⟩, u17⟩ := r18
 have zu17 := u17.size
 have lt_kR := hR.lt (Nat.succ_pos _)
 have lt_kR1 := hL1.lt (Nat.succ_pos _)
 have lt_kP1 := hP1.lt (Nat.succ_pos _)
 refine t_move rfl rfl rfl (t_extract rfl rfl rfl rfl (t_extract rfl rfl rfl rfl (t_extract rfl rfl rfl rfl (t_assign rfl rfl rfl (t_assign rfl rfl rfl (t_assign rfl rfl rfl (t_nil' (hK2 _ _ (c_seq fun K20 hK20 => (c_region (t_call own36 rfl rfl rfl rfl (manifest_c _) (fun v21 w22 r24 => ?_))))))))))))
 obtain ⟨b12, b22, rfl, fB2, fH2, lB2, lH2, u23⟩ := r24
 have zu23 := u23.size
 have lt_mB2 := fB2.lt (Nat.succ_pos _)
 have lt_mH2 := fH2.lt (Nat.succ_pos _)
 refine t_call own37 rfl rfl rfl rfl (voyage_c _) (fun v26 w27 r29 => ?_)
 obtain ⟨bV2, rfl, fV2, lV2, u28⟩ := r29
 have zu28 := u28.size
 have lt_V2 := fV2.lt
 have D31 := (fB2.keep u28 (fun _ h => h))
 have D32 := (fH2.keep u28 (fun _ h => h))
 refine t_call own16 rfl rfl rfl rfl (kn_landed (some ⟨b12, 0, none⟩) b12 2 (some ⟨b22, 0, none⟩) b22 3 (some ⟨bV2, 0, none⟩) bV2 4 _ D31 D32 (by omega) (Sl.ofBlk (enc := encEv) (xs := exU) (fun _ => rfl) fV2)) (fun v33 w34 r36 => ?_)
 obtain ⟨⟨aoL, gL, cL, y0, a2, p2, k2, rfl, hL2, hP2⟩, u35⟩ := r36
 have zu35 := u35.size
 have lt_kL := hL2.lt (Nat.succ_pos _)
 have lt_kP2 := hP2.lt (Nat.succ_pos _)
 refine t_move rfl rfl rfl (t_extract rfl rfl rfl rfl (t_extract rfl rfl rfl rfl (t_extract rfl rfl rfl rfl (t_assign rfl rfl rfl (t_assign rfl rfl rfl (t_assign rfl rfl rfl (t_nil' (hK20 _ _ (c_seq fun K38 hK38 => (c_region (t_call own36 rfl rfl rfl rfl (manifest_c _) (fun v39 w40 r42 => ?_))))))))))))
 obtain ⟨b13, b23, rfl, fB3, fH3, lB3, lH3, u41⟩ := r42
 have zu41 := u41.size
 have lt_mB3 := fB3.lt (Nat.succ_pos _)
 have lt_mH3 := fH3.lt (Nat.succ_pos _)
 refine t_call own37 rfl rfl rfl rfl (voyage_c _) (fun v44 w45 r47 => ?_)
 obtain ⟨bV3, rfl, fV3, lV3, u46⟩ := r47
 have zu46 := u46.size
 have lt_V3 := fV3.lt
 have D49 := (fB3.keep u46 (fun _ h => h))
 have D50 := (fH3.keep u46 (fun _ h => h))
 refine t_call own21 rfl rfl rfl rfl (kn_where (some ⟨b13, 0, none⟩) b13 2 (some ⟨b23, 0, none⟩) b23 3 (some ⟨bV3, 0, none⟩) bV3 4 _ D49 D50 (by omega) (Sl.ofBlk (enc := encEv) (xs := exU) (fun _ => rfl) fV3)) (fun v51 w52 r54 => ?_)
 obtain ⟨⟨aoW, gW, cW, rfl, hW⟩, u53⟩ := r54
 have zu53 := u53.size
 have lt_kW := hW.lt (Nat.succ_pos _)
 refine t_move rfl rfl rfl (t_extract rfl rfl rfl rfl (t_extract rfl rfl rfl rfl (t_extract rfl rfl rfl rfl (t_assign rfl rfl rfl (t_assign rfl rfl rfl (t_assign rfl rfl rfl (t_nil' (hK38 _ _ (c_seq fun K56 hK56 => (c_region (t_call own36 rfl rfl rfl rfl (manifest_c _) (fun v57 w58 r60 => ?_))))))))))))
 obtain ⟨b14, b24, rfl, fB4, fH4, lB4, lH4, u59⟩ := r60
 have zu59 := u59.size
 have lt_mB4 := fB4.lt (Nat.succ_pos _)
 have lt_mH4 := fH4.lt (Nat.succ_pos _)
 refine t_call own37 rfl rfl rfl rfl (voyage_c _) (fun v62 w63 r65 => ?_)
 obtain ⟨bV4, rfl, fV4, lV4, u64⟩ := r65
 have zu64 := u64.size
 have lt_V4 := fV4.lt
 have D67 := (fB4.keep u64 (fun _ h => h))
 have D68 := (fH4.keep u64 (fun _ h => h))
 refine t_call own22 rfl rfl rfl rfl (kn_control (some ⟨b14, 0, none⟩) b14 2 (some ⟨b24, 0, none⟩) b24 3 (some ⟨bV4, 0, none⟩) bV4 4 _ D67 D68 (by omega) (Sl.ofBlk (enc := encEv) (xs := exU) (fun _ => rfl) fV4)) (fun v69 w70 r72 => ?_)
 obtain ⟨⟨aoC, gC, cC, rfl, hC⟩, u71⟩ := r72
 have zu71 := u71.size
 have lt_kC := hC.lt (Nat.succ_pos _)
 refine t_move rfl rfl rfl (t_extract rfl rfl rfl rfl (t_extract rfl rfl rfl rfl (t_extract rfl rfl rfl rfl (t_assign rfl rfl rfl (t_assign rfl rfl rfl (t_assign rfl rfl rfl (t_nil' (hK56 _ _ (c_seq fun K74 hK74 => (c_region (t_call own36 rfl rfl rfl rfl (manifest_c _) (fun v75 w76 r78 => ?_))))))))))))
 obtain ⟨b15, b25, rfl, fB5, fH5, lB5, lH5, u77⟩ := r78
 have zu77 := u77.size
 have lt_mB5 := fB5.lt (Nat.succ_pos _)
 have lt_mH5 := fH5.lt (Nat.succ_pos _)
 refine t_call own37 rfl rfl rfl rfl (voyage_c _) (fun v80 w81 r83 => ?_)
 obtain ⟨bV5, rfl, fV5, lV5, u82⟩ := r83
 have zu82 := u82.size
 have lt_V5 := fV5.lt
 have D85 := (fB5.keep u82 (fun _ h => h))
 have D86 := (fH5.keep u82 (fun _ h => h))
 refine t_call own23 rfl rfl rfl rfl (kn_recall (some ⟨b15, 0, none⟩) b15 2 (some ⟨b25, 0, none⟩) b25 3 (some ⟨bV5, 0, none⟩) bV5 4 _ D85 D86 (by omega) (Sl.ofBlk (enc := encEv) (xs := exU) (fun _ => rfl) fV5)) (fun v87 w88 r90 => ?_)
 obtain ⟨⟨aoT, gT, cT, rfl, hT⟩, u89⟩ := r90
 have zu89 := u89.size
 have lt_kT := hT.lt (Nat.succ_pos _)
 refine t_move rfl rfl rfl (t_extract rfl rfl rfl rfl (t_extract rfl rfl rfl rfl (t_extract rfl rfl rfl rfl (t_assign rfl rfl rfl (t_assign rfl rfl rfl (t_assign rfl rfl rfl (t_nil' (hK74 _ _ (c_seq fun K92 hK92 => (c_region (t_build (ps := [(0, .int .i64 990), (1, .int .i64 1000)]) (v := .agg #[.int .i64 990, .int .i64 1000]) rfl rfl ⟨rfl, rfl⟩ (fun w => by kernel_rfl) (t_build (ps := [(0, .int .i64 1000), (1, .agg #[.int .i64 990, .int .i64 1000])]) (v := .agg #[.int .i64 1000, .int .i64 990, .int .i64 1000, .bool false]) rfl rfl ⟨rfl, rfl⟩ (fun w => by kernel_rfl) (t_build (ps := [(0, .int .i64 970), (1, .int .i64 985)]) (v := .agg #[.int .i64 970, .int .i64 985]) rfl rfl ⟨rfl, rfl⟩ (fun w => by kernel_rfl) (t_build (ps := [(0, .int .i64 1000), (1, .agg #[.int .i64 970, .int .i64 985])]) (v := .agg #[.int .i64 1000, .int .i64 970, .int .i64 985, .bool false]) rfl rfl ⟨rfl, rfl⟩ (fun w => by kernel_rfl) (t_build (ps := [(0, .int .i64 380), (1, .int .i64 390)]) (v := .agg #[.int .i64 380, .int .i64 390]) rfl rfl ⟨rfl, rfl⟩ (fun w => by kernel_rfl) (t_build (ps := [(0, .int .i64 400), (1, .agg #[.int .i64 380, .int .i64 390]), (2, .bool true)]) (v := .agg #[.int .i64 400, .int .i64 380, .int .i64 390, .bool true]) rfl rfl ⟨rfl, rfl⟩ (fun w => by kernel_rfl) (t_bslice (ps := [(0, .agg #[.int .i64 1000, .int .i64 990, .int .i64 1000, .bool false]), (1, .agg #[.int .i64 1000, .int .i64 970, .int .i64 985, .bool false]), (2, .agg #[.int .i64 400, .int .i64 380, .int .i64 390, .bool true])]) (cs := [.int .i64 1000, .int .i64 990, .int .i64 1000, .bool false, .int .i64 1000, .int .i64 970, .int .i64 985, .bool false, .int .i64 400, .int .i64 380, .int .i64 390, .bool true]) (e := 79) rfl rfl ⟨rfl, rfl⟩ (fun w => by kernel_rfl) (fun bk93 w94 ebk93 sbk93 B95 u96 => ?_))))))))))))))))))
 have zu96 := u96.size
 refine t_call own28 rfl rfl rfl rfl (kn_losses bk93 _ B95) (fun v98 w99 r101 => ?_)
 obtain ⟨⟨gM, z0, z1, rfl, hM⟩, u100⟩ := r101
 have zu100 := u100.size
 have lt_kM := hM.lt (Nat.succ_pos _)
 refine t_move rfl rfl rfl (t_extract rfl rfl rfl rfl (t_extract rfl rfl rfl rfl (t_extract rfl rfl rfl rfl (t_assign rfl rfl rfl (t_assign rfl rfl rfl (t_assign rfl rfl rfl (t_nil' (hK92 _ _ (c_seq fun K103 hK103 => (c_region (t_call own36 rfl rfl rfl rfl (manifest_c _) (fun v104 w105 r107 => ?_))))))))))))
 obtain ⟨b16, b26, rfl, fB6, fH6, lB6, lH6, u106⟩ := r107
 have zu106 := u106.size
 have lt_mB6 := fB6.lt (Nat.succ_pos _)
 have lt_mH6 := fH6.lt (Nat.succ_pos _)
 refine t_call own37 rfl rfl rfl rfl (voyage_c _) (fun v109 w110 r112 => ?_)
 obtain ⟨bV6, rfl, fV6, lV6, u111⟩ := r112
 have zu111 := u111.size
 have lt_V6 := fV6.lt
 refine t_build (ps := [(0, .int .i64 1), (2, .int .i64 1), (5, .int .i64 201), (6, .int .i64 1)]) (v := .agg #[.int .i64 1, .int .i64 0, .int .i64 1, .int .i64 0, .int .i64 0, .int .i64 201, .int .i64 1, .int .i64 0]) rfl rfl ⟨rfl, rfl⟩ (fun w => by kernel_rfl) (t_bslice (ps := [(0, .agg #[.int .i64 1, .int .i64 0, .int .i64 1, .int .i64 0, .int .i64 0, .int .i64 201, .int .i64 1, .int .i64 0])]) (cs := [.int .i64 1, .int .i64 0, .int .i64 1, .int .i64 0, .int .i64 0, .int .i64 201, .int .i64 1, .int .i64 0]) (e := 41) rfl rfl ⟨rfl, rfl⟩ (fun w => by kernel_rfl) (fun bk114 w115 ebk114 sbk114 B116 u117 => ?_))
 have zu117 := u117.size
 have B119 := (fV6.kx u117)
 refine t_appLit (enc := encEv) (z := .agg #[.int .i64 0, .int .i64 0, .int .i64 0, .int .i64 0, .int .i64 0, .int .i64 0, .int .i64 0, .int .i64 0]) (bytes := 64) (k := 8) (xs := exU) (ys := [exX]) Try.underlying26 (by kernel_rfl) rfl (by decide) (fun _ => rfl) (by intro x; simp [encEv, Value.oneCell']) rfl rfl rfl rfl B119 (Sl.ofBlk (enc := encEv) (xs := [exX]) (fun _ => rfl) B116) (by first | decide | simp) (by decide) (by decide) (fun ao120 gb121 cp122 w123 A124 u125 gegb121 => ?_)
 have zu125 := u125.size
 have lt_gb121 := A124.lt
 have D127 := (((fB6.keep u111 (fun _ h => h)).keep u117 (fun _ h => h)).keep u125 (fun _ => by show ¬ ((b16 = bV6 ∧ bV6 ≤ b16)); omega))
 have D128 := (((fH6.keep u111 (fun _ h => h)).keep u117 (fun _ h => h)).keep u125 (fun _ => by show ¬ ((b26 = bV6 ∧ bV6 ≤ b26)); omega))
 refine t_call own15 rfl rfl rfl rfl (kn_twice (some ⟨b16, 0, none⟩) b16 2 (some ⟨b26, 0, none⟩) b26 3 ao120 gb121 cp122 _ D127 D128 (by omega) (A124.sl (fun _ => rfl))) (fun v129 w130 r132 => ?_)
 obtain ⟨rfl, u131⟩ := r132
 have zu131 := u131.size
 refine t_move rfl rfl rfl (t_extract rfl rfl rfl rfl (t_extract rfl rfl rfl rfl (t_extract rfl rfl rfl rfl (t_assign rfl rfl rfl (t_assign rfl rfl rfl (t_assign rfl rfl rfl (t_nil' (hK103 _ _ (c_seq fun K134 hK134 => (c_seq fun K135 hK135 => (c_region (t_move rfl rfl rfl (t_cmp rfl rfl rfl rfl rfl (t_samehd (v := .bool false) rfl (t_move rfl rfl rfl (t_move rfl rfl rfl (t_cmp rfl rfl rfl rfl rfl (t_samehd (v := .bool false) rfl (t_pick_f rfl rfl rfl rfl (t_move rfl rfl rfl (t_move rfl rfl rfl (t_cmp rfl rfl rfl rfl rfl (t_samehd (v := .bool false) rfl ?_)))))))))))))))))))))))
 refine t_pick_f rfl rfl rfl rfl (t_move rfl rfl rfl (t_move rfl rfl rfl (t_cmp rfl rfl rfl rfl rfl (t_samehd (v := .bool false) rfl (t_pick_f rfl rfl rfl rfl (t_move rfl rfl rfl (t_move rfl rfl rfl (t_cmp rfl rfl rfl rfl rfl (t_samehd (v := .bool false) rfl (t_pick_f rfl rfl rfl rfl (t_move rfl rfl rfl (t_move rfl rfl rfl (t_cmp rfl rfl rfl rfl rfl (t_samehd (v := .bool false) rfl (t_pick_f rfl rfl rfl rfl (t_move rfl rfl rfl (t_move rfl rfl rfl (t_cmp rfl rfl rfl rfl rfl (t_samehd (v := .bool false) rfl (t_pick_f rfl rfl rfl rfl (t_move rfl rfl rfl (t_move rfl rfl rfl (t_cmp rfl rfl rfl rfl rfl ?_)))))))))))))))))))))))
 refine t_samehd (v := .bool false) rfl (t_pick_f rfl rfl rfl rfl (t_move rfl rfl rfl (t_move rfl rfl rfl (t_len Try.underlying33 rfl rfl rfl rfl (t_cmp rfl rfl rfl rfl rfl (t_samehd (v := .bool false) rfl (t_pick_f rfl rfl rfl rfl (t_move rfl rfl rfl (t_move rfl rfl rfl ?_)))))))))
 have D136 := (((((((((((((((((((hR.keep u23 (fun _ h => h)).keep u28 (fun _ h => h)).keep u35 (fun _ h => h)).keep u41 (fun _ h => h)).keep u46 (fun _ h => h)).keep u53 (fun _ h => h)).keep u59 (fun _ h => h)).keep u64 (fun _ h => h)).keep u71 (fun _ h => h)).keep u77 (fun _ h => h)).keep u82 (fun _ h => h)).keep u89 (fun _ h => h)).keep u96 (fun _ h => h)).keep u100 (fun _ h => h)).keep u106 (fun _ h => h)).keep u111 (fun _ h => h)).keep u117 (fun _ h => h)).keep u125 (fun _ => by show ¬ ((gR = bV6 ∧ bV6 ≤ gR)); omega)).keep u131 (fun _ h => h))
 have i137 : 1 < ([r0, ⟨ao1, g1, c1, ([⟨⟨1, 100, [1, 2]⟩, x0, b0, k0⟩, ⟨⟨0, 150, [0, 2]⟩, a1, p1, k1⟩] : List HLay)⟩, r2] : List RowL).length := (by first | decide | simp)
 refine t_index (j := 1) Try.underlying33 Try.sizeOf36 rfl rfl rfl rfl (D136.addr (by omega)) rfl (by first | omega | decide | exact Nat.succ_pos _ | exact Nat.succ_lt_succ (Nat.succ_pos _) | simp) (t_load Try.isAgg36 rfl rfl rfl ((D136.at_ 1 (by first | decide | simp)) 0 _ rfl) (t_len Try.underlying36 rfl rfl rfl rfl (t_cmp rfl rfl rfl rfl rfl (t_samehd (v := .bool false) rfl (t_pick_f rfl rfl rfl rfl (t_move rfl rfl rfl (t_move rfl rfl rfl (t_len Try.underlying36 rfl rfl rfl rfl (t_cmp rfl rfl rfl rfl rfl (t_samehd (v := .bool false) rfl (t_pick_f rfl rfl rfl rfl (t_move rfl rfl rfl (t_move rfl rfl rfl (t_len Try.underlying55 rfl rfl rfl rfl (t_cmp rfl rfl rfl rfl rfl (t_samehd (v := .bool false) rfl (t_pick_f rfl rfl rfl rfl (t_move rfl rfl rfl (t_move rfl rfl rfl (t_len Try.underlying58 rfl rfl rfl rfl (t_cmp rfl rfl rfl rfl rfl (t_samehd (v := .bool false) rfl (t_pick_f rfl rfl rfl rfl ?_)))))))))))))))))))))))
 refine t_move rfl rfl rfl (t_move rfl rfl rfl (t_len Try.underlying45 rfl rfl rfl rfl (t_cmp rfl rfl rfl rfl rfl (t_samehd (v := .bool false) rfl (t_pick_f rfl rfl rfl rfl (t_move rfl rfl rfl (t_move rfl rfl rfl (t_len Try.underlying73 rfl rfl rfl rfl (t_cmp rfl rfl rfl rfl rfl (t_samehd (v := .bool false) rfl (t_pick_f rfl rfl rfl rfl (t_nil' (hK135 _ _ (c_cond_f rfl (c_skip (hK134 _ _ (c_seq fun K138 hK138 => (c_region (t_move rfl rfl rfl ?_)))))))))))))))))))
 have i139 : 1 < ([r0, ⟨ao1, g1, c1, ([⟨⟨1, 100, [1, 2]⟩, x0, b0, k0⟩, ⟨⟨0, 150, [0, 2]⟩, a1, p1, k1⟩] : List HLay)⟩, r2] : List RowL).length := (by first | decide | simp)
 refine t_index (j := 1) Try.underlying33 Try.sizeOf36 rfl rfl rfl rfl (D136.addr (by omega)) rfl (by first | omega | decide | exact Nat.succ_pos _ | exact Nat.succ_lt_succ (Nat.succ_pos _) | simp) (t_load Try.isAgg36 rfl rfl rfl ((D136.at_ 1 (by first | decide | simp)) 0 _ rfl) ?_)
 have D140 := (((((((((((((((((((hL1.keep u23 (fun _ h => h)).keep u28 (fun _ h => h)).keep u35 (fun _ h => h)).keep u41 (fun _ h => h)).keep u46 (fun _ h => h)).keep u53 (fun _ h => h)).keep u59 (fun _ h => h)).keep u64 (fun _ h => h)).keep u71 (fun _ h => h)).keep u77 (fun _ h => h)).keep u82 (fun _ h => h)).keep u89 (fun _ h => h)).keep u96 (fun _ h => h)).keep u100 (fun _ h => h)).keep u106 (fun _ h => h)).keep u111 (fun _ h => h)).keep u117 (fun _ h => h)).keep u125 (fun _ => by show ¬ ((g1 = bV6 ∧ bV6 ≤ g1)); omega)).keep u131 (fun _ h => h))
 have i141 : 0 < ([⟨⟨1, 100, [1, 2]⟩, x0, b0, k0⟩, ⟨⟨0, 150, [0, 2]⟩, a1, p1, k1⟩] : List HLay).length := (by first | decide | simp)
 refine t_index (j := 0) Try.underlying36 Try.sizeOf97 rfl rfl rfl rfl (D140.addr (by omega)) rfl (by first | omega | decide | exact Nat.succ_pos _ | exact Nat.succ_lt_succ (Nat.succ_pos _) | simp) (t_field Try.underlying97 rfl Try.sizeOf3 (1) rfl rfl rfl rfl (t_load Try.isAgg3 rfl rfl rfl ((D140.at_ 0 (by first | decide | simp)) 1 _ rfl) (t_cmp rfl rfl rfl rfl rfl (t_samehd (v := .bool true) rfl (t_move rfl rfl rfl (t_move rfl rfl rfl ?_))))))
 have i142 : 1 < ([r0, ⟨ao1, g1, c1, ([⟨⟨1, 100, [1, 2]⟩, x0, b0, k0⟩, ⟨⟨0, 150, [0, 2]⟩, a1, p1, k1⟩] : List HLay)⟩, r2] : List RowL).length := (by first | decide | simp)
 refine t_index (j := 1) Try.underlying33 Try.sizeOf36 rfl rfl rfl rfl (D136.addr (by omega)) rfl (by first | omega | decide | exact Nat.succ_pos _ | exact Nat.succ_lt_succ (Nat.succ_pos _) | simp) (t_load Try.isAgg36 rfl rfl rfl ((D136.at_ 1 (by first | decide | simp)) 0 _ rfl) ?_)
 have i143 : 1 < ([⟨⟨1, 100, [1, 2]⟩, x0, b0, k0⟩, ⟨⟨0, 150, [0, 2]⟩, a1, p1, k1⟩] : List HLay).length := (by first | decide | simp)
 refine t_index (j := 1) Try.underlying36 Try.sizeOf97 rfl rfl rfl rfl (D140.addr (by omega)) rfl (by first | omega | decide | exact Nat.succ_pos _ | exact Nat.succ_lt_succ (Nat.succ_pos _) | simp) (t_field Try.underlying97 rfl Try.sizeOf3 (3) rfl rfl rfl rfl (t_load Try.isAgg3 rfl rfl rfl ((D140.at_ 1 (by first | decide | simp)) 0 _ rfl) (t_cmp rfl rfl rfl rfl rfl (t_samehd (v := .bool true) rfl (t_pick_t rfl rfl rfl rfl (t_move rfl rfl rfl (t_move rfl rfl rfl ?_)))))))
 have i144 : 1 < ([r0, ⟨ao1, g1, c1, ([⟨⟨1, 100, [1, 2]⟩, x0, b0, k0⟩, ⟨⟨0, 150, [0, 2]⟩, a1, p1, k1⟩] : List HLay)⟩, r2] : List RowL).length := (by first | decide | simp)
 refine t_index (j := 1) Try.underlying33 Try.sizeOf36 rfl rfl rfl rfl (D136.addr (by omega)) rfl (by first | omega | decide | exact Nat.succ_pos _ | exact Nat.succ_lt_succ (Nat.succ_pos _) | simp) (t_load Try.isAgg36 rfl rfl rfl ((D136.at_ 1 (by first | decide | simp)) 0 _ rfl) ?_)
 have i145 : 1 < ([⟨⟨1, 100, [1, 2]⟩, x0, b0, k0⟩, ⟨⟨0, 150, [0, 2]⟩, a1, p1, k1⟩] : List HLay).length := (by first | decide | simp)
 refine t_index (j := 1) Try.underlying36 Try.sizeOf97 rfl rfl rfl rfl (D140.addr (by omega)) rfl (by first | omega | decide | exact Nat.succ_pos _ | exact Nat.succ_lt_succ (Nat.succ_pos _) | simp) (t_field Try.underlying97 rfl Try.sizeOf45 (5) rfl rfl rfl rfl (t_load Try.isAgg45 rfl rfl rfl ((D140.at_ 1 (by first | decide | simp)) 2 _ rfl) (t_bslice (ps := [(0, .int .i64 0), (1, .int .i64 2)]) (cs := [.int .i64 0, .int .i64 2]) (e := 3) rfl rfl ⟨rfl, rfl⟩ (fun w => by kernel_rfl) (fun bk146 w147 ebk146 sbk146 B148 u149 => ?_))))
 have zu149 := u149.size
 have D151 := ((((((((((((((((((((hP1.keep u23 (fun _ h => h)).keep u28 (fun _ h => h)).keep u35 (fun _ h => h)).keep u41 (fun _ h => h)).keep u46 (fun _ h => h)).keep u53 (fun _ h => h)).keep u59 (fun _ h => h)).keep u64 (fun _ h => h)).keep u71 (fun _ h => h)).keep u77 (fun _ h => h)).keep u82 (fun _ h => h)).keep u89 (fun _ h => h)).keep u96 (fun _ h => h)).keep u100 (fun _ h => h)).keep u106 (fun _ h => h)).keep u111 (fun _ h => h)).keep u117 (fun _ h => h)).keep u125 (fun _ => by show ¬ ((p1 = bV6 ∧ bV6 ≤ p1)); omega)).keep u131 (fun _ h => h)).keep u149 (fun _ h => h))
 refine t_call own26 rfl rfl rfl rfl (kn_num [0, 2] a1 (some ⟨bk146, 0, none⟩) p1 bk146 k1 2 _ D151 (Sl.ofBlk (enc := encI) (xs := [0, 2]) (fun _ => rfl) B148) (by decide)) (fun v152 w153 r155 => ?_)
 obtain ⟨rfl, u154⟩ := r155
 have zu154 := u154.size
 refine t_pick_t rfl rfl rfl rfl (t_move rfl rfl rfl (t_move rfl rfl rfl ?_))
 have D157 := ((((((((((((((((((hL2.keep u41 (fun _ h => h)).keep u46 (fun _ h => h)).keep u53 (fun _ h => h)).keep u59 (fun _ h => h)).keep u64 (fun _ h => h)).keep u71 (fun _ h => h)).keep u77 (fun _ h => h)).keep u82 (fun _ h => h)).keep u89 (fun _ h => h)).keep u96 (fun _ h => h)).keep u100 (fun _ h => h)).keep u106 (fun _ h => h)).keep u111 (fun _ h => h)).keep u117 (fun _ h => h)).keep u125 (fun _ => by show ¬ ((gL = bV6 ∧ bV6 ≤ gL)); omega)).keep u131 (fun _ h => h)).keep u149 (fun _ h => h)).keep u154 (fun _ h => h))
 have i158 : 1 < ([y0, ⟨⟨1, 50, [1, 2, 3]⟩, a2, p2, k2⟩] : List HLay).length := (by first | decide | simp)
 refine t_index (j := 1) Try.underlying36 Try.sizeOf97 rfl rfl rfl rfl (D157.addr (by omega)) rfl (by first | omega | decide | exact Nat.succ_pos _ | exact Nat.succ_lt_succ (Nat.succ_pos _) | simp) (t_field Try.underlying97 rfl Try.sizeOf3 (4) rfl rfl rfl rfl (t_load Try.isAgg3 rfl rfl rfl ((D157.at_ 1 (by first | decide | simp)) 1 _ rfl) (t_cmp rfl rfl rfl rfl rfl (t_samehd (v := .bool true) rfl (t_pick_t rfl rfl rfl rfl (t_move rfl rfl rfl (t_move rfl rfl rfl ?_)))))))
 have i159 : 1 < ([y0, ⟨⟨1, 50, [1, 2, 3]⟩, a2, p2, k2⟩] : List HLay).length := (by first | decide | simp)
 refine t_index (j := 1) Try.underlying36 Try.sizeOf97 rfl rfl rfl rfl (D157.addr (by omega)) rfl (by first | omega | decide | exact Nat.succ_pos _ | exact Nat.succ_lt_succ (Nat.succ_pos _) | simp) (t_field Try.underlying97 rfl Try.sizeOf45 (5) rfl rfl rfl rfl (t_load Try.isAgg45 rfl rfl rfl ((D157.at_ 1 (by first | decide | simp)) 2 _ rfl) (t_bslice (ps := [(0, .int .i64 1), (1, .int .i64 2), (2, .int .i64 3)]) (cs := [.int .i64 1, .int .i64 2, .int .i64 3]) (e := 3) rfl rfl ⟨rfl, rfl⟩ (fun w => by kernel_rfl) (fun bk160 w161 ebk160 sbk160 B162 u163 => ?_))))
 have zu163 := u163.size
 have D165 := (((((((((((((((((((hP2.keep u41 (fun _ h => h)).keep u46 (fun _ h => h)).keep u53 (fun _ h => h)).keep u59 (fun _ h => h)).keep u64 (fun _ h => h)).keep u71 (fun _ h => h)).keep u77 (fun _ h => h)).keep u82 (fun _ h => h)).keep u89 (fun _ h => h)).keep u96 (fun _ h => h)).keep u100 (fun _ h => h)).keep u106 (fun _ h => h)).keep u111 (fun _ h => h)).keep u117 (fun _ h => h)).keep u125 (fun _ => by show ¬ ((p2 = bV6 ∧ bV6 ≤ p2)); omega)).keep u131 (fun _ h => h)).keep u149 (fun _ h => h)).keep u154 (fun _ h => h)).keep u163 (fun _ h => h))
 refine t_call own26 rfl rfl rfl rfl (kn_num [1, 2, 3] a2 (some ⟨bk160, 0, none⟩) p2 bk160 k2 3 _ D165 (Sl.ofBlk (enc := encI) (xs := [1, 2, 3]) (fun _ => rfl) B162) (by decide)) (fun v166 w167 r169 => ?_)
 obtain ⟨rfl, u168⟩ := r169
 have zu168 := u168.size
 refine t_pick_t rfl rfl rfl rfl (t_move rfl rfl rfl (t_move rfl rfl rfl ?_))
 have D171 := (((((((((((((((((hW.keep u59 (fun _ h => h)).keep u64 (fun _ h => h)).keep u71 (fun _ h => h)).keep u77 (fun _ h => h)).keep u82 (fun _ h => h)).keep u89 (fun _ h => h)).keep u96 (fun _ h => h)).keep u100 (fun _ h => h)).keep u106 (fun _ h => h)).keep u111 (fun _ h => h)).keep u117 (fun _ h => h)).keep u125 (fun _ => by show ¬ ((gW = bV6 ∧ bV6 ≤ gW)); omega)).keep u131 (fun _ h => h)).keep u149 (fun _ h => h)).keep u154 (fun _ h => h)).keep u163 (fun _ h => h)).keep u168 (fun _ h => h))
 have i172 : 2 < ([⟨0, 0, 200⟩, ⟨1, 1, 50⟩, ⟨2, 9, 50⟩] : List Shr).length := (by first | decide | simp)
 refine t_index (j := 2) Try.underlying55 Try.sizeOf71 rfl rfl rfl rfl (D171.addr (by omega)) rfl (by first | omega | decide | exact Nat.succ_pos _ | exact Nat.succ_lt_succ (Nat.succ_pos _) | simp) (t_loadN (vs := [.int .i64 2, .int .i64 9, .int .i64 50]) Try.isAgg71 Try.sizeOf71 rfl rfl rfl ((D171.at_ 2 (by first | decide | simp)).sub 0 3) rfl (t_build (ps := [(0, .int .i64 2), (1, .int .i64 9), (2, .int .i64 50)]) (v := .agg #[.int .i64 2, .int .i64 9, .int .i64 50]) rfl rfl ⟨rfl, rfl⟩ (fun w => by kernel_rfl) (t_eqS (xs := [.int .i64 2, .int .i64 9, .int .i64 50]) (ys := [.int .i64 2, .int .i64 9, .int .i64 50]) (by kernel_rfl) (eqIn71 9998 2 9 50 2 9 50) rfl rfl rfl rfl (t_samehd (v := .bool true) rfl (t_pick_t rfl rfl rfl rfl (t_move rfl rfl rfl (t_move rfl rfl rfl ?_)))))))
 have D173 := ((((((((((((((hC.keep u77 (fun _ h => h)).keep u82 (fun _ h => h)).keep u89 (fun _ h => h)).keep u96 (fun _ h => h)).keep u100 (fun _ h => h)).keep u106 (fun _ h => h)).keep u111 (fun _ h => h)).keep u117 (fun _ h => h)).keep u125 (fun _ => by show ¬ ((gC = bV6 ∧ bV6 ≤ gC)); omega)).keep u131 (fun _ h => h)).keep u149 (fun _ h => h)).keep u154 (fun _ h => h)).keep u163 (fun _ h => h)).keep u168 (fun _ h => h))
 have i174 : 1 < ([⟨500, 350, 150, 0⟩, ⟨100, 50, 0, 50⟩] : List Cnt).length := (by first | decide | simp)
 refine t_index (j := 1) Try.underlying58 Try.sizeOf65 rfl rfl rfl rfl (D173.addr (by omega)) rfl (by first | omega | decide | exact Nat.succ_pos _ | exact Nat.succ_lt_succ (Nat.succ_pos _) | simp) (t_loadN (vs := [.int .i64 100, .int .i64 50, .int .i64 0, .int .i64 50]) Try.isAgg65 Try.sizeOf65 rfl rfl rfl ((D173.at_ 1 (by first | decide | simp)).sub 0 4) rfl (t_build (ps := [(0, .int .i64 100), (1, .int .i64 50), (3, .int .i64 50)]) (v := .agg #[.int .i64 100, .int .i64 50, .int .i64 0, .int .i64 50]) rfl rfl ⟨rfl, rfl⟩ (fun w => by kernel_rfl) (t_eqS (xs := [.int .i64 100, .int .i64 50, .int .i64 0, .int .i64 50]) (ys := [.int .i64 100, .int .i64 50, .int .i64 0, .int .i64 50]) (by kernel_rfl) (eqIn65 9998 100 50 0 50 100 50 0 50) rfl rfl rfl rfl (t_samehd (v := .bool true) rfl (t_pick_t rfl rfl rfl rfl (t_move rfl rfl rfl (t_move rfl rfl rfl ?_)))))))
 have D175 := (((((((((((hT.keep u96 (fun _ h => h)).keep u100 (fun _ h => h)).keep u106 (fun _ h => h)).keep u111 (fun _ h => h)).keep u117 (fun _ h => h)).keep u125 (fun _ => by show ¬ ((gT = bV6 ∧ bV6 ≤ gT)); omega)).keep u131 (fun _ h => h)).keep u149 (fun _ h => h)).keep u154 (fun _ h => h)).keep u163 (fun _ h => h)).keep u168 (fun _ h => h))
 have i176 : 0 < ([3] : List Int).length := (by first | decide | simp)
 refine t_index (j := 0) Try.underlying45 Try.sizeOf3 rfl rfl rfl rfl (D175.addr (by omega)) rfl (by first | omega | decide | exact Nat.succ_pos _ | exact Nat.succ_lt_succ (Nat.succ_pos _) | simp) (t_load Try.isAgg3 rfl rfl rfl ((D175.at_ 0 (by first | decide | simp)) 0 _ rfl) (t_cmp rfl rfl rfl rfl rfl (t_samehd (v := .bool true) rfl (t_pick_t rfl rfl rfl rfl (t_move rfl rfl rfl (t_move rfl rfl rfl ?_))))))
 have D177 := (((((((((hM.keep u106 (fun _ h => h)).keep u111 (fun _ h => h)).keep u117 (fun _ h => h)).keep u125 (fun _ => by show ¬ ((gM = bV6 ∧ bV6 ≤ gM)); omega)).keep u131 (fun _ h => h)).keep u149 (fun _ h => h)).keep u154 (fun _ h => h)).keep u163 (fun _ h => h)).keep u168 (fun _ h => h))
 have i178 : 2 < ([z0, z1, ⟨15, 20⟩] : List Bd).length := (by first | decide | simp)
 refine t_index (j := 2) Try.underlying73 Try.sizeOf77 rfl rfl rfl rfl (D177.addr (by omega)) rfl (by first | omega | decide | exact Nat.succ_pos _ | exact Nat.succ_lt_succ (Nat.succ_pos _) | simp) (t_loadN (vs := [.int .i64 15, .int .i64 20]) Try.isAgg77 Try.sizeOf77 rfl rfl rfl ((D177.at_ 2 (by first | decide | simp)).sub 0 2) rfl (t_build (ps := [(0, .int .i64 15), (1, .int .i64 20)]) (v := .agg #[.int .i64 15, .int .i64 20]) rfl rfl ⟨rfl, rfl⟩ (fun w => by kernel_rfl) (t_eqS (xs := [.int .i64 15, .int .i64 20]) (ys := [.int .i64 15, .int .i64 20]) (by kernel_rfl) (eqIn77 9998 15 20 15 20) rfl rfl rfl rfl (t_samehd (v := .bool true) rfl (t_pick_t rfl rfl rfl rfl (t_assign rfl rfl rfl (t_nil' (hK138 _ _ (c_ret (f_ret1 (v := .bool true) Try.results11 rfl ?_))))))))))
 exact ⟨rfl, (((((((((((((((((((((((((((Upd.refl (fun _ => False) w0).nx u5).nx u10).nx u17).nx u23).nx u28).nx u35).nx u41).nx u46).nx u53).nx u59).nx u64).nx u71).nx u77).nx u82).nx u89).nx u96).nx u100).nx u106).nx u111).nx u117).next u125 (fun i hi h => by omega)).nx u131).nx u149).nx u154).nx u163).nx u168)⟩

end Go.Proofs.Ytblkphbblkncdaa
