/-
  Part 16 of the proof: contracts and plain laws. Conditions: none.
-/
import Derived.Shelf.SlSortCmp.WholeK
import Derived.Shelf.SlSortCmp.NoneTotal
import Derived.Ground.SlsfProg
import Derived.Test.YtagmkfbbhfaceaaGreatDoorProg
import Derived.Test.YtagmkfbbhfaceaaGreatDoorCK15
namespace Go.Proofs.YtagmkfbbhfaceaaGreatDoor
open Go Go.RowKit Go.Proofs.Tryz
set_option maxRecDepth 10000
theorem or3_lt {a b c : Int} : or3 a b c < 0 ↔ a < 0 ∨ (a = 0 ∧ (b < 0 ∨ (b = 0 ∧ c < 0))) := by unfold or3; split <;> (try split) <;> omega
theorem cmp_lt {a b : Int} : cmpI3 a b < 0 ↔ a < b := by unfold cmpI3; split <;> (try split) <;> omega
theorem cmp_eq {a b : Int} : cmpI3 a b = 0 ↔ a = b := by unfold cmpI3; split <;> (try split) <;> omega

/-- The edition and the key of a message. -/
def edK (m : Msg) : Int × Int × Int := (m.c, m.n, m.r)
def keK (m : Msg) : Int × Int := (m.c, m.n)
def cd3 : Cod (Int × Int × Int) Msg := ⟨fun a => .agg #[.int .i64 a.1, .int .i64 a.2.1, .int .i64 a.2.2], fun m => .agg (encMsg m).toArray⟩
def cd2 : Cod (Int × Int) Msg := ⟨fun a => .agg #[.int .i64 a.1, .int .i64 a.2], fun m => .agg (encMsg m).toArray⟩
/-- The editions, and the latest ones, of the first messages. -/
def edS (l : List Msg) : Nat → List ((Int × Int × Int) × Msg)
  | 0 => []
  | k + 1 => upG (edS l k) (edK (nth l k)) (nth l k)
def laOld (m : List ((Int × Int) × Msg)) (x : Msg) : Bool := match gtG m (keK x) with
  | none => true
  | some v => decide (v.r < x.r)
def laS (l : List Msg) : Nat → List ((Int × Int) × Msg)
  | 0 => []
  | k + 1 => if laOld (laS l k) (nth l k) = true then upG (laS l k) (keK (nth l k)) (nth l k) else laS l k
/-- Another message with the same edition. -/
def edErr (l : List Msg) (k : Nat) : Prop := ∃ o, gtG (edS l k) (edK (nth l k)) = some o ∧ o ≠ nth l k
/-- Facts in order. -/
def cmpF (a b : Msg) : Int := or3 (cmpI3 a.c b.c) (cmpI3 a.m b.m) (cmpI3 a.n b.n)
theorem cmpF_lt {a b : Msg} : cmpF a b < 0 ↔ a.c < b.c ∨ (a.c = b.c ∧ (a.m < b.m ∨ (a.m = b.m ∧ a.n < b.n))) := by
  unfold cmpF; rw [or3_lt, cmp_lt, cmp_eq, cmp_lt, cmp_eq, cmp_lt]
theorem cmpF_swo : Go.Sort.SWO (ltOf cmpF) where
  irrefl x := by unfold ltOf; rw [decide_eq_false_iff_not, cmpF_lt]; omega
  trans x y z h1 h2 := by
    unfold ltOf at *
    rw [decide_eq_true_eq, cmpF_lt] at *
    omega
  ntrans x y z h1 h2 := by
    unfold ltOf at *
    rw [decide_eq_false_iff_not, cmpF_lt] at *
    omega
/-- What messages report. -/
def rdE (l : List Msg) : Int := if 100 < l.length then 5 else if (l.any fun m => !okMsg m) = true then 2 else 0
def RdR (l : List Msg) (out : List Msg) (e : Int) : Prop := (rdE l ≠ 0 ∧ e = rdE l ∧ out = []) ∨ (rdE l = 0 ∧ e = 6 ∧ out = [] ∧ ∃ k, k < l.length ∧ edErr l k) ∨
  (rdE l = 0 ∧ e = 0 ∧ (∀ k, k < l.length → ¬ edErr l k) ∧ out.Perm (((laS l l.length).map (·.2)).filter fun m => decide (m.k ≠ 7)) ∧ AscC cmpF out)
theorem Msg.eq6 {a b : Msg} (h : a.c = b.c ∧ a.n = b.n ∧ a.r = b.r ∧ a.k = b.k ∧ a.m = b.m ∧ a.v = b.v) : a = b := by
  cases a; cases b; simp_all
theorem own207 : Own Tryz.prog 207 := ⟨Tryz.f207, func207, by kernel_rfl, by kernel_rfl⟩
theorem eqIn235 (n : Nat) (a0 : Int) (a1 : Int) (a2 : Int) (a3 : Int) (a4 : Int) (a5 : Int) (b0 : Int) (b1 : Int) (b2 : Int) (b3 : Int) (b4 : Int) (b5 : Int) (w : World) : (Op.equalIn (n + 2) 235 (.agg #[.int .i64 a0, .int .i64 a1, .int .i64 a2, .int .i64 a3, .int .i64 a4, .int .i64 a5]) (.agg #[.int .i64 b0, .int .i64 b1, .int .i64 b2, .int .i64 b3, .int .i64 b4, .int .i64 b5])).run Tryz.prog w = .ok (decide (a0 = b0) && decide (a1 = b1) && decide (a2 = b2) && decide (a3 = b3) && decide (a4 = b4) && decide (a5 = b5)) w := by
  have hS : Tryz.prog.underlying 235 = some (.struct (Tryz.prog.fieldsOf 235)) := by kernel_rfl
  have hp : Tryz.prog.stoodInHeld 235 = false := by kernel_rfl
  have p0 : ∀ (a0 : Int) (a1 : Int) (a2 : Int) (a3 : Int) (a4 : Int) (a5 : Int), (part 3 #[.int .i64 a0, .int .i64 a1, .int .i64 a2, .int .i64 a3, .int .i64 a4, .int .i64 a5] 0).run Tryz.prog w = .ok (.int .i64 a0) w := fun _ _ _ _ _ _ => by simp [part, isAgg3]
  have p1 : ∀ (a0 : Int) (a1 : Int) (a2 : Int) (a3 : Int) (a4 : Int) (a5 : Int), (part 3 #[.int .i64 a0, .int .i64 a1, .int .i64 a2, .int .i64 a3, .int .i64 a4, .int .i64 a5] 1).run Tryz.prog w = .ok (.int .i64 a1) w := fun _ _ _ _ _ _ => by simp [part, isAgg3]
  have p2 : ∀ (a0 : Int) (a1 : Int) (a2 : Int) (a3 : Int) (a4 : Int) (a5 : Int), (part 3 #[.int .i64 a0, .int .i64 a1, .int .i64 a2, .int .i64 a3, .int .i64 a4, .int .i64 a5] 2).run Tryz.prog w = .ok (.int .i64 a2) w := fun _ _ _ _ _ _ => by simp [part, isAgg3]
  have p3 : ∀ (a0 : Int) (a1 : Int) (a2 : Int) (a3 : Int) (a4 : Int) (a5 : Int), (part 233 #[.int .i64 a0, .int .i64 a1, .int .i64 a2, .int .i64 a3, .int .i64 a4, .int .i64 a5] 3).run Tryz.prog w = .ok (.int .i64 a3) w := fun _ _ _ _ _ _ => by simp [part, isAgg233]
  have p4 : ∀ (a0 : Int) (a1 : Int) (a2 : Int) (a3 : Int) (a4 : Int) (a5 : Int), (part 3 #[.int .i64 a0, .int .i64 a1, .int .i64 a2, .int .i64 a3, .int .i64 a4, .int .i64 a5] 4).run Tryz.prog w = .ok (.int .i64 a4) w := fun _ _ _ _ _ _ => by simp [part, isAgg3]
  have p5 : ∀ (a0 : Int) (a1 : Int) (a2 : Int) (a3 : Int) (a4 : Int) (a5 : Int), (part 3 #[.int .i64 a0, .int .i64 a1, .int .i64 a2, .int .i64 a3, .int .i64 a4, .int .i64 a5] 5).run Tryz.prog w = .ok (.int .i64 a5) w := fun _ _ _ _ _ _ => by simp [part, isAgg3]
  have e3 := fun a b w => equal_i64 underlying3 (n + 0) a b w
  have e233 := fun a b w => equal_i64 underlying233 (n + 0) a b w
  rw [run_equalIn_struct w (n + 1) 235 _ _ hS hp]
  simp only [Program.fieldsOf, underlying235]
  simp only [Op.eqFields, Sem.run_bind, Sem.run_ite, p0, p1, p2, p3, p4, p5, e3, e233, Result.andThen_ok]
  by_cases h0 : a0 = b0 <;> by_cases h1 : a1 = b1 <;> by_cases h2 : a2 = b2 <;> by_cases h3 : a3 = b3 <;> by_cases h4 : a4 = b4 <;> by_cases h5 : a5 = b5 <;> simp [h0, h1, h2, h3, h4, h5]
theorem eqIn317 (n : Nat) (a0 : Int) (a1 : Int) (b0 : Int) (b1 : Int) (w : World) : (Op.equalIn (n + 2) 317 (.agg #[.int .i64 a0, .int .i64 a1]) (.agg #[.int .i64 b0, .int .i64 b1])).run Tryz.prog w = .ok (decide (a0 = b0) && decide (a1 = b1)) w := by
  have hS : Tryz.prog.underlying 317 = some (.struct (Tryz.prog.fieldsOf 317)) := by kernel_rfl
  have hp : Tryz.prog.stoodInHeld 317 = false := by kernel_rfl
  have p0 : ∀ (a0 : Int) (a1 : Int), (part 3 #[.int .i64 a0, .int .i64 a1] 0).run Tryz.prog w = .ok (.int .i64 a0) w := fun _ _ => by simp [part, isAgg3]
  have p1 : ∀ (a0 : Int) (a1 : Int), (part 3 #[.int .i64 a0, .int .i64 a1] 1).run Tryz.prog w = .ok (.int .i64 a1) w := fun _ _ => by simp [part, isAgg3]
  have e3 := fun a b w => equal_i64 underlying3 (n + 0) a b w
  rw [run_equalIn_struct w (n + 1) 317 _ _ hS hp]
  simp only [Program.fieldsOf, underlying317]
  simp only [Op.eqFields, Sem.run_bind, Sem.run_ite, p0, p1, e3, Result.andThen_ok]
  by_cases h0 : a0 = b0 <;> by_cases h1 : a1 = b1 <;> simp [h0, h1]
theorem eqIn319 (n : Nat) (a0 : Int) (a1 : Int) (a2 : Int) (b0 : Int) (b1 : Int) (b2 : Int) (w : World) : (Op.equalIn (n + 3) 319 (.agg #[.int .i64 a0, .int .i64 a1, .int .i64 a2]) (.agg #[.int .i64 b0, .int .i64 b1, .int .i64 b2])).run Tryz.prog w = .ok ((decide (a0 = b0) && decide (a1 = b1)) && decide (a2 = b2)) w := by
  have hS : Tryz.prog.underlying 319 = some (.struct (Tryz.prog.fieldsOf 319)) := by kernel_rfl
  have hp : Tryz.prog.stoodInHeld 319 = false := by kernel_rfl
  have p0 : ∀ (a0 : Int) (a1 : Int) (a2 : Int), (part 317 #[.int .i64 a0, .int .i64 a1, .int .i64 a2] 0).run Tryz.prog w = .ok (.agg #[.int .i64 a0, .int .i64 a1]) w := fun _ _ _ => by simp [part, isAgg317, sizeOf317]
  have p1 : ∀ (a0 : Int) (a1 : Int) (a2 : Int), (part 3 #[.int .i64 a0, .int .i64 a1, .int .i64 a2] 2).run Tryz.prog w = .ok (.int .i64 a2) w := fun _ _ _ => by simp [part, isAgg3]
  have e3 := fun a b w => equal_i64 underlying3 (n + 1) a b w
  have e317 := eqIn317 (n + 0)
  rw [run_equalIn_struct w (n + 2) 319 _ _ hS hp]
  simp only [Program.fieldsOf, underlying319]
  simp only [Op.eqFields, Sem.run_bind, Sem.run_ite, p0, p1, e3, e317, Result.andThen_ok]
  by_cases h0 : (decide (a0 = b0) && decide (a1 = b1)) = true <;> by_cases h1 : a2 = b2 <;> simp [h0, h1]

theorem key3_ok : KeyOK Tryz.prog 319 cd3 :=
  KeyOK.str (fs := Tryz.prog.fieldsOf 319) (by kernel_rfl) (fun ⟨a1, a2, a3⟩ ⟨b1, b2, b3⟩ w => by
    refine Eq.trans (eqIn319 9997 a1 a2 a3 b1 b2 b3 w) (congrArg (fun z => Result.ok z w) ?_)
    by_cases q1 : a1 = b1 <;> by_cases q2 : a2 = b2 <;> by_cases q3 : a3 = b3 <;> simp [q1, q2, q3]) (fun _ _ _ => by kernel_rfl) (fun a w => by simp [cd3, Instr.keyThatStays, Instr.sameBits])
theorem key2_ok : KeyOK Tryz.prog 317 cd2 :=
  KeyOK.str (fs := Tryz.prog.fieldsOf 317) (by kernel_rfl) (fun ⟨a1, a2⟩ ⟨b1, b2⟩ w => by
    refine Eq.trans (eqIn317 9998 a1 a2 b1 b2 w) (congrArg (fun z => Result.ok z w) ?_)
    by_cases q1 : a1 = b1 <;> by_cases q2 : a2 = b2 <;> simp [q1, q2]) (fun _ _ _ => by kernel_rfl) (fun a w => by simp [cd2, Instr.keyThatStays, Instr.sameBits])
theorem of_c (x : Msg) (w0 : World) :
    CallsV Tryz.prog 205 [.agg #[.int .i64 x.c, .int .i64 x.n, .int .i64 x.r, .int .i64 x.k, .int .i64 x.m, .int .i64 x.v]] w0 (fun v w' => v = cd3.k (edK x) ∧ Ext w0 w') := by
 refine f_n func205 ?_
 refine go ?_
 refine x_b fun bk2 w3 ebk2 sbk2 B4 u5 => ?_
 refine x_n fun bk7 w8 ebk7 sbk7 B9 u10 => ?_
 refine go ?_
 refine x_s fun w13 sw13 B15 u14 => ?_
 refine go ?_
 refine f_ret1 (v := .agg #[.int .i64 x.c, .int .i64 x.n, .int .i64 x.r]) results205 ⟨_, _, rfl, run_loadVarN (vs := [.int .i64 x.c, .int .i64 x.n, .int .i64 x.r]) isAgg319 sizeOf319 rfl (B15.at.sub 0 3)⟩ ?_
 exact ⟨rfl, u_d⟩
theorem read2_c (x y : Msg) (w0 : World) :
    CallsV Tryz.prog 207 [.agg #[.int .i64 x.c, .int .i64 x.n, .int .i64 x.r, .int .i64 x.k, .int .i64 x.m, .int .i64 x.v], .agg #[.int .i64 y.c, .int .i64 y.n, .int .i64 y.r, .int .i64 y.k, .int .i64 y.m, .int .i64 y.v]] w0 (fun v w' => (v = .int .i64 (cmpF x y) ∧ Gr w0 w') ∧ Ext w0 w') := by
 refine f_n func207 ?_
 refine go ?_
 refine t_boxG (cs := [.int .i64 x.c, .int .i64 x.n, .int .i64 x.r, .int .i64 x.k, .int .i64 x.m, .int .i64 x.v]) rfl rfl rfl rfl (fun bk2 w3 ebk2 sbk2 B4 u5 Gu5 => ?_)
 refine t_boxG (cs := [.int .i64 y.c, .int .i64 y.n, .int .i64 y.r, .int .i64 y.k, .int .i64 y.m, .int .i64 y.v]) rfl rfl rfl rfl (fun bk7 w8 ebk7 sbk7 B9 u10 Gu10 => ?_)
 refine go ?_
 refine c_drawnMG follows (fun _ => False) (OTl [0, 2, 4, 6, 10, 12, 14, 16, 20, 22, 24, 26, 9, 19, 29, 31, 33, 34]) (by kernel_rfl) fun w13 u14 Gu14 => ?_
 have zu14 := u14.size
 refine go ?_
 refine t_call own209 rfl rfl rfl rfl (cmpI_c x.c y.c _) (fun v16 w17 r19 => ?_)
 obtain ⟨⟨rfl, Gu18⟩, u18⟩ := r19
 have zu18 := u18.size
 refine go ?_
 refine t_call own209 rfl rfl rfl rfl (cmpI_c x.m y.m _) (fun v21 w22 r24 => ?_)
 obtain ⟨⟨rfl, Gu23⟩, u23⟩ := r24
 have zu23 := u23.size
 refine go ?_
 refine t_call own209 rfl rfl rfl rfl (cmpI_c x.n y.n _) (fun v26 w27 r29 => ?_)
 obtain ⟨⟨rfl, Gu28⟩, u28⟩ := r29
 have zu28 := u28.size
 refine go ?_
 refine t_bsliceG (ps := [(0, .int .i64 (cmpI3 x.c y.c)), (1, .int .i64 (cmpI3 x.m y.m)), (2, .int .i64 (cmpI3 x.n y.n))]) (cs := [.int .i64 (cmpI3 x.c y.c), .int .i64 (cmpI3 x.m y.m), .int .i64 (cmpI3 x.n y.n)]) (e := 3) rfl rfl ⟨rfl, rfl⟩ (fun w => by kernel_rfl) (fun bk31 w32 ebk31 sbk31 B33 u34 Gu34 => ?_)
 refine go ?_
 refine t_call own208 rfl rfl rfl rfl (or3_c (cmpI3 x.c y.c) (cmpI3 x.m y.m) (cmpI3 x.n y.n) bk31 _ B33) (fun v36 w37 r39 => ?_)
 obtain ⟨⟨rfl, Gu38⟩, u38⟩ := r39
 have zu38 := u38.size
 refine go ?_
 refine f_1 results207 ?_
 exact ⟨⟨rfl, (((((((((Gr.refl _).trans Gu5).trans Gu10).trans Gu14).trans Gu18).trans Gu23).trans Gu28).trans Gu34).trans Gu38)⟩, u_d⟩

end Go.Proofs.YtagmkfbbhfaceaaGreatDoor
namespace Go.Proofs
open Go.Shelf
def YtagmkfbbhfaceaaGreatDoor.sortQ_ren : Go.Shelf.Ren := ⟨fun | 14 => 229 | 20 => 250 | 21 => 251 | 22 => 252 | 23 => 253 | 24 => 254 | 25 => 255 | 26 => 256 | 27 => 257 | 46 => 270 | 47 => 259 | 48 => 260 | 49 => 271 | 50 => 272 | 15 => 121 | 57 => 276 | 28 => 172 | 29 => 173 | n => n, fun | 24 => 235 | 22 => 169 | 3 => 3 | 25 => 323 | 4 => 4 | 0 => 0 | 46 => 341 | 45 => 340 | 50 => 200 | 66 => 364 | 39 => 175 | 55 => 225 | 70 => 368 | 76 => 377 | 77 => 113 | 53 => 94 | 5 => 5 | 9 => 9 | n => n, fun | n => n⟩
theorem YtagmkfbbhfaceaaGreatDoor.sortQ : Go.Proofs.SlLaysF0.n14 Tryz.prog YtagmkfbbhfaceaaGreatDoor.sortQ_ren := {
  mixed := by kernel_rfl
  f14 := ⟨Tryz.f229.name, by decide, Tryz.func229.trans (congrArg some (by kernel_rfl))⟩
  f15 := Tryz.func121.trans (congrArg some (by kernel_rfl))
  f20 := ⟨Tryz.f250.name, by decide, Tryz.func250.trans (congrArg some (by kernel_rfl))⟩
  f21 := ⟨Tryz.f251.name, by decide, Tryz.func251.trans (congrArg some (by kernel_rfl))⟩
  f22 := ⟨Tryz.f252.name, by decide, Tryz.func252.trans (congrArg some (by kernel_rfl))⟩
  f23 := ⟨Tryz.f253.name, by decide, Tryz.func253.trans (congrArg some (by kernel_rfl))⟩
  f24 := ⟨Tryz.f254.name, by decide, Tryz.func254.trans (congrArg some (by kernel_rfl))⟩
  f25 := ⟨Tryz.f255.name, by decide, Tryz.func255.trans (congrArg some (by kernel_rfl))⟩
  f26 := ⟨Tryz.f256.name, by decide, Tryz.func256.trans (congrArg some (by kernel_rfl))⟩
  f27 := ⟨Tryz.f257.name, by decide, Tryz.func257.trans (congrArg some (by kernel_rfl))⟩
  f28 := Tryz.func172.trans (congrArg some (by kernel_rfl))
  f29 := Tryz.func173.trans (congrArg some (by kernel_rfl))
  f46 := ⟨Tryz.f270.name, by decide, Tryz.func270.trans (congrArg some (by kernel_rfl))⟩
  f47 := Tryz.func259.trans (congrArg some (by kernel_rfl))
  f48 := Tryz.func260.trans (congrArg some (by kernel_rfl))
  f49 := ⟨Tryz.f271.name, by decide, Tryz.func271.trans (congrArg some (by kernel_rfl))⟩
  f50 := ⟨Tryz.f272.name, by decide, Tryz.func272.trans (congrArg some (by kernel_rfl))⟩
  f57 := ⟨Tryz.f276.name, by decide, Tryz.func276.trans (congrArg some (by kernel_rfl))⟩
  t0 := Tryz.underlying0
  a0 := Tryz.isAgg0
  z0 := Tryz.sizeOf0
  v0 := Tryz.zeroValue0
  t3 := Tryz.underlying3
  a3 := Tryz.isAgg3
  z3 := Tryz.sizeOf3
  v3 := Tryz.zeroValue3
  t4 := Tryz.underlying4
  a4 := Tryz.isAgg4
  z4 := Tryz.sizeOf4
  v4 := Tryz.zeroValue4
  t5 := Tryz.underlying5
  a5 := Tryz.isAgg5
  z5 := Tryz.sizeOf5
  v5 := Tryz.zeroValue5
  t9 := Tryz.underlying9
  a9 := Tryz.isAgg9
  z9 := Tryz.sizeOf9
  v9 := Tryz.zeroValue9
  t22 := Tryz.underlying169
  a22 := Tryz.isAgg169
  z22 := Tryz.sizeOf169
  v22 := Tryz.zeroValue169
  t25 := Tryz.underlying323
  a25 := Tryz.isAgg323
  z25 := Tryz.sizeOf323
  v25 := Tryz.zeroValue323
  t39 := Tryz.underlying175
  a39 := Tryz.isAgg175
  z39 := Tryz.sizeOf175
  v39 := Tryz.zeroValue175
  t45 := Tryz.underlying340
  a45 := Tryz.isAgg340
  z45 := Tryz.sizeOf340
  v45 := Tryz.zeroValue340
  t46 := Tryz.underlying341
  a46 := Tryz.isAgg341
  z46 := Tryz.sizeOf341
  v46 := Tryz.zeroValue341
  t50 := Tryz.underlying200
  a50 := Tryz.isAgg200
  z50 := Tryz.sizeOf200
  v50 := Tryz.zeroValue200
  t53 := Tryz.underlying94
  a53 := Tryz.isAgg94
  z53 := Tryz.sizeOf94
  v53 := Tryz.zeroValue94
  t55 := Tryz.underlying225
  a55 := Tryz.isAgg225
  z55 := Tryz.sizeOf225
  v55 := Tryz.zeroValue225
  t66 := Tryz.underlying364
  a66 := Tryz.isAgg364
  z66 := Tryz.sizeOf364
  v66 := Tryz.zeroValue364
  t70 := Tryz.underlying368
  a70 := Tryz.isAgg368
  z70 := Tryz.sizeOf368
  v70 := Tryz.zeroValue368
  t76 := Tryz.underlying377
  a76 := Tryz.isAgg377
  z76 := Tryz.sizeOf377
  v76 := Tryz.zeroValue377
  t77 := Tryz.underlying113
  a77 := Tryz.isAgg113
  z77 := Tryz.sizeOf113
  v77 := Tryz.zeroValue113 }
end Go.Proofs
namespace Go.Proofs.YtagmkfbbhfaceaaGreatDoor
open Go Go.RowKit Go.Proofs.Tryz
set_option maxRecDepth 10000

theorem upG_len {α β : Type} [DecidableEq α] (m : List (α × β)) (a : α) (v : β) : (upG m a v).length ≤ m.length + 1 := by
  unfold upG
  split
  · simp
  · rw [List.length_set]; omega
theorem laS_len (l : List Msg) : ∀ k, (laS l k).length ≤ k
  | 0 => Nat.le_refl _
  | k + 1 => by
    have := laS_len l k
    have := upG_len (laS l k) (keK (nth l k)) (nth l k)
    unfold laS
    split <;> omega
abbrev notWd (m : Msg) : Bool := decide (m.k ≠ 7)
theorem rd_yes {out : List Msg} {l1 l2 : List ((Int × Int) × Msg)} {p : (Int × Int) × Msg} (h : p.2.k ≠ 7) : ((out ++ [p.2]) ++ ((l1 ++ l2).map (·.2)).filter notWd).Perm (out ++ ((l1 ++ p :: l2).map (·.2)).filter notWd) := by
  rw [List.append_assoc]
  refine List.Perm.append_left out ?_
  have e : notWd p.2 = true := decide_eq_true h
  simp only [List.map_append, List.map_cons, List.filter_append, List.filter_cons, e, if_true]
  rw [List.singleton_append]
  exact List.perm_middle.symm
theorem rd_no {out : List Msg} {l1 l2 : List ((Int × Int) × Msg)} {p : (Int × Int) × Msg} (h : ¬ p.2.k ≠ 7) : out ++ ((l1 ++ l2).map (·.2)).filter notWd = out ++ ((l1 ++ p :: l2).map (·.2)).filter notWd := by
  have e : notWd p.2 = false := decide_eq_false h
  simp [e]
theorem own229 : Own Tryz.prog 229 := ⟨Tryz.f229, func229, by kernel_rfl, by kernel_rfl⟩
theorem read2_ok : CmpOk Tryz.prog 207 encMsg cmpF := fun x y W => by
  refine Calls.mono (read2_c x y W) ?_
  rintro e w' ⟨v, rfl, ⟨rfl, hg⟩, _⟩
  exact ⟨rfl, hg.grow⟩
theorem sortFa_c (xs : List Msg) (ao : Option Addr) (gb cp base : Nat) (w0 : World) (ha : Acc encMsg 6 235 base w0 ao gb cp xs) (hl : xs.length ≤ 100000) :
    CallsV Tryz.prog 206 [.slice ao xs.length cp, .func (.func 207) #[] #[]] w0 (fun v w' => (v = .tuple #[] ∧ ∃ ys, ys.Perm xs ∧ AscC cmpF ys ∧ Acc encMsg 6 235 base w' ao gb cp ys) ∧ Upd (fun i => i = gb ∧ base ≤ i) w0 w') := by
 have hgl := ha.lt
 refine f_n func206 ?_
 refine go ?_
 refine t_conv underlying3 underlying175 rfl rfl rfl (IntWalk.u64_in _ (by omega)) (t_call own121 rfl rfl rfl rfl (len_cC (ρ := YtagmkfbbhfaceaaGreatDoor.sortQ_ren) YtagmkfbbhfaceaaGreatDoor.sortQ xs.length (by omega) _) (fun v2 w3 r5 => ?_))
 obtain ⟨kL, rfl, hkL, u4⟩ := r5
 have zu4 := u4.size
 refine go ?_
 have D7 := (ha.keep u4 (fun _ h => h))
 refine t_call own229 rfl rfl rfl rfl (pdq_c (ρ := YtagmkfbbhfaceaaGreatDoor.sortQ_ren) YtagmkfbbhfaceaaGreatDoor.sortQ 6 (by decide) isAgg235 sizeOf235 encMsg (fun _ => rfl) (by intro x; simp [encMsg, Value.oneCell']) cmpF cmpF_swo 207 own207 read2_ok 235 base ao gb cp xs kL hkL _ D7 (by omega)) (fun v8 w9 r11 => ?_)
 obtain ⟨ys, hperm, hasc, hacY, u10, rfl⟩ := r11
 have zu10 := u10.size
 have lt_gb := hacY.lt
 refine go ?_
 refine f_ret0 results206 ?_
 exact ⟨⟨rfl, ys, hperm, hasc, hacY⟩, u_d⟩
set_option maxHeartbeats 4000000 in
theorem read_c (l : List Msg) (al : Option Addr) (bl ol cl : Nat) (w0 : World) (hl : Sl encMsg 6 w0 al bl ol l) (hll : l.length ≤ 1000000) (hpos : 0 < w0.heap.size) :
    CallsV Tryz.prog 165 [.slice al l.length cl] w0 (fun v w' => (∃ out ao g cp e, v = .tuple #[.slice ao (List.length out) cp, .int .i64 e] ∧ Acc encMsg 6 235 w0.heap.size w' ao g cp out ∧ RdR l out e) ∧ Ext w0 w') := by
 refine f_n func165 ?_
 refine go ?_
 refine q_p (fun g15 => ?_) fun g15 => ?_
 ·
  refine go ?_
  refine f_ret2 (v1 := .slice none 0 0) (v2 := .int .i64 5) results165 rfl rfl ?_
  have hE : rdE l = 5 := if_pos (by omega)
  exact ⟨⟨[], none, 0, 0, 5, rfl, Acc.nil _ _ _ _ _ hpos (by omega), .inl ⟨by rw [hE]; decide, hE.symm, rfl⟩⟩, u_d⟩
 refine go ?_
 refine x_c func166 rfl rfl (containsM_c encMsg (fun _ => rfl) (fun x => !okMsg x) 203 [] l al bl ol cl _ own203 (fun x _ w _ => badMsg_c x w) hl hll) ?_
 rintro _ w7 ⟨rfl, u8⟩ zu8
 refine go ?_
 refine q_b (fun g19 => ?_) fun g19 => ?_
 ·
  refine go ?_
  refine f_ret2 (v1 := .slice none 0 0) (v2 := .int .i64 2) results165 rfl rfl ?_
  have hE : rdE l = 2 := by unfold rdE; rw [if_neg (by omega), if_pos g19]
  exact ⟨⟨[], none, 0, 0, 2, rfl, Acc.nil _ _ _ _ _ hpos (by omega), .inl ⟨by rw [hE]; decide, hE.symm, rfl⟩⟩, u_d⟩
 have hE0 : rdE l = 0 := by unfold rdE; rw [if_neg (by omega), if_neg (by rw [g19]; exact Bool.false_ne_true)]
 refine go ?_
 refine t_makemap rfl rfl (fun bk13 w14 ebk13 sbk13 M15 u16 => ?_)
 have zu16 := u16.size
 refine t_makemap rfl rfl (fun bk18 w19 ebk18 sbk18 M20 u21 => ?_)
 have zu21 := u21.size
 refine go ?_
 refine x_l1 (fun i => i = bk13 ∨ i = bk18) [4, 5, 24, 25] (fun (k : Nat) => [(2, .slice none 0 0), (26, .int .i64 (k : Int))]) (fun k w => (k ≤ l.length) ∧ (MapG cd3 (edS l k) w bk13) ∧ (MapG cd2 (laS l k) w bk18) ∧ (∀ j, j < k → ¬ edErr l j)) (fun k => l.length - k) 0 ⟨(Nat.zero_le _), ((MapG.ofMemo M15).keep u21 (fun h => h)), (MapG.ofMemo M20), (fun j h => absurd h (Nat.not_lt_zero j))⟩ ?_
 rintro k w26 ⟨hk, hm3, hm2, hne⟩ u27 zu27 K25 hK25
 have hm3l := hm3.lt
 have hm2l := hm2.lt
 refine go ?_
 refine q_p (fun g27 => ?_) fun g27 => ?_
 ·
  refine go ?_
  refine g_i k (hl.keep (((((Upd.refl (fun _ => False) w0).nx u8).nx u16).nx u21).next u27 (fun i hi h => by omega)) (fun _ h => h)) (fun _ => ?_)
  refine go ?_
  refine x_n fun bk34 w35 ebk34 sbk34 B36 u37 => ?_
  refine x_s fun w39 sw39 B41 u40 => ?_
  refine go ?_
  refine x_c func205 rfl rfl (of_c (nth l k) _) ?_
  rintro _ w45 ⟨rfl, u46⟩ zu46
  refine x_n fun bk49 w50 ebk49 sbk49 B51 u52 => ?_
  refine x_s fun w54 sw54 B56 u55 => ?_
  refine go ?_
  have D60 := (((((hm3.keep u37 (fun h => h)).keep u40 (show ¬ (bk13 = bk34) by omega)).keep u46 (fun h => h)).keep u52 (fun h => h)).keep u55 (show ¬ (bk13 = bk49) by omega))
  refine t_lookG (cd := cd3) (a := edK (nth l k)) (m := edS l k) (z := .agg #[.int .i64 0, .int .i64 0, .int .i64 0, .int .i64 0, .int .i64 0, .int .i64 0]) key3_ok underlying314 zeroValue235 rfl rfl rfl rfl D60 (fun hq35 => ?_) (fun o3 hq35 => ?_)
  ·
   iterate 2 refine st1 ?_
   refine t_same 36 (v := .agg #[.int .i64 0, .int .i64 0, .int .i64 0, .int .i64 0, .int .i64 0, .int .i64 0]) rfl rfl ?_
   refine go ?_
   refine x_n fun bk61 w62 ebk61 sbk61 B63 u64 => ?_
   refine x_s fun w66 sw66 B68 u67 => ?_
   refine go ?_
   have D75 := ((D60.keep u64 (fun h => h)).keep u67 (show ¬ (bk13 = bk61) by omega))
   refine t_mapG (cd := cd3) (a := edK (nth l k)) (v := (nth l k)) (m := edS l k) key3_ok underlying314 rfl rfl rfl rfl D75 (fun w72 sw72 M73 u74 => ?_)
   refine go ?_
   have D78 := ((((((((hm2.keep u37 (fun h => h)).keep u40 (show ¬ (bk18 = bk34) by omega)).keep u46 (fun h => h)).keep u52 (fun h => h)).keep u55 (show ¬ (bk18 = bk49) by omega)).keep u64 (fun h => h)).keep u67 (show ¬ (bk18 = bk61) by omega)).keep u74 (show ¬ (bk18 = bk13) by omega))
   refine t_lookG (cd := cd2) (a := keK (nth l k)) (m := laS l k) (z := .agg #[.int .i64 0, .int .i64 0, .int .i64 0, .int .i64 0, .int .i64 0, .int .i64 0]) key2_ok underlying315 zeroValue235 rfl rfl rfl rfl D78 (fun hq51 => ?_) (fun o2 hq51 => ?_)
   ·
    iterate 2 refine st1 ?_
    refine t_same 52 (v := .agg #[.int .i64 0, .int .i64 0, .int .i64 0, .int .i64 0, .int .i64 0, .int .i64 0]) rfl rfl ?_
    refine go ?_
    refine x_n fun bk79 w80 ebk79 sbk79 B81 u82 => ?_
    refine x_s fun w84 sw84 B86 u85 => ?_
    refine go ?_
    have D92 := ((D78.keep u82 (fun h => h)).keep u85 (show ¬ (bk18 = bk79) by omega))
    refine t_mapG (cd := cd2) (a := keK (nth l k)) (v := (nth l k)) (m := laS l k) key2_ok underlying315 rfl rfl rfl rfl D92 (fun w89 sw89 M90 u91 => ?_)
    refine go ?_
    have D94 := (((M73.keep u82 (fun h => h)).keep u85 (show ¬ (bk13 = bk79) by omega)).keep u91 (show ¬ (bk13 = bk18) by omega))
    exact hK25 (k + 1) ⟨(by omega), D94, (by rw [laS, if_pos (by unfold laOld; rw [hq51])]; exact M90), (fun j h => (Nat.lt_succ_iff_lt_or_eq.1 h).elim (hne j) (fun e => e ▸ (show ¬ edErr l k from (fun ⟨o, h1, _⟩ => by rw [hq35] at h1; cases h1))))⟩
   iterate 2 refine st1 ?_
   refine t_same 52 (v := .agg #[.int .i64 o2.c, .int .i64 o2.n, .int .i64 o2.r, .int .i64 o2.k, .int .i64 o2.m, .int .i64 o2.v]) rfl rfl ?_
   refine go ?_
   refine x_n fun bk95 w96 ebk95 sbk95 B97 u98 => ?_
   refine x_s fun w100 sw100 B102 u101 => ?_
   refine go ?_
   refine q_p (fun g62 => ?_) fun g62 => ?_
   ·
    refine go ?_
    have D108 := ((D78.keep u98 (fun h => h)).keep u101 (show ¬ (bk18 = bk95) by omega))
    refine t_mapG (cd := cd2) (a := keK (nth l k)) (v := (nth l k)) (m := laS l k) key2_ok underlying315 rfl rfl rfl rfl D108 (fun w105 sw105 M106 u107 => ?_)
    refine go ?_
    have D110 := (((M73.keep u98 (fun h => h)).keep u101 (show ¬ (bk13 = bk95) by omega)).keep u107 (show ¬ (bk13 = bk18) by omega))
    exact hK25 (k + 1) ⟨(by omega), D110, (by rw [laS, if_pos (by unfold laOld; rw [hq51]; exact decide_eq_true g62)]; exact M106), (fun j h => (Nat.lt_succ_iff_lt_or_eq.1 h).elim (hne j) (fun e => e ▸ (show ¬ edErr l k from (fun ⟨o, h1, _⟩ => by rw [hq35] at h1; cases h1))))⟩
   refine go ?_
   have D111 := ((D78.keep u98 (fun h => h)).keep u101 (show ¬ (bk18 = bk95) by omega))
   have D112 := ((M73.keep u98 (fun h => h)).keep u101 (show ¬ (bk13 = bk95) by omega))
   exact hK25 (k + 1) ⟨(by omega), D112, (by rw [laS, if_neg (by unfold laOld; rw [hq51]; simpa using g62)]; exact D111), (fun j h => (Nat.lt_succ_iff_lt_or_eq.1 h).elim (hne j) (fun e => e ▸ (show ¬ edErr l k from (fun ⟨o, h1, _⟩ => by rw [hq35] at h1; cases h1))))⟩
  iterate 2 refine st1 ?_
  refine t_same 36 (v := .agg #[.int .i64 o3.c, .int .i64 o3.n, .int .i64 o3.r, .int .i64 o3.k, .int .i64 o3.m, .int .i64 o3.v]) rfl rfl ?_
  refine go ?_
  refine x_n fun bk113 w114 ebk113 sbk113 B115 u116 => ?_
  refine x_s fun w118 sw118 B120 u119 => ?_
  refine go ?_
  refine t_neS (xs := [.int .i64 o3.c, .int .i64 o3.n, .int .i64 o3.r, .int .i64 o3.k, .int .i64 o3.m, .int .i64 o3.v]) (ys := [.int .i64 ((nth l k).c), .int .i64 ((nth l k).n), .int .i64 ((nth l k).r), .int .i64 ((nth l k).k), .int .i64 ((nth l k).m), .int .i64 ((nth l k).v)]) (by kernel_rfl) (eqIn235 9998 o3.c o3.n o3.r o3.k o3.m o3.v ((nth l k).c) ((nth l k).n) ((nth l k).r) ((nth l k).k) ((nth l k).m) ((nth l k).v)) rfl rfl rfl rfl ?_
  refine go ?_
  refine q_b (fun g43 => ?_) fun g43 => ?_
  ·
   have hoe : o3 ≠ (nth l k) := fun e => by subst e; simp at g43
   refine go ?_
   refine f_ret2 (v1 := .slice none 0 0) (v2 := .int .i64 6) results165 rfl rfl ?_
   exact ⟨⟨[], none, 0, 0, 6, rfl, Acc.nil _ _ _ _ _ hpos (by omega), .inr (.inl ⟨hE0, rfl, rfl, k, by omega, o3, hq35, hoe⟩)⟩, u_d⟩
  have hoe : o3 = (nth l k) := Msg.eq6 (by simpa [and_assoc] using g43)
  refine go ?_
  have D128 := ((D60.keep u116 (fun h => h)).keep u119 (show ¬ (bk13 = bk113) by omega))
  refine t_mapG (cd := cd3) (a := edK (nth l k)) (v := (nth l k)) (m := edS l k) key3_ok underlying314 rfl rfl rfl rfl D128 (fun w125 sw125 M126 u127 => ?_)
  refine go ?_
  have D131 := ((((((((hm2.keep u37 (fun h => h)).keep u40 (show ¬ (bk18 = bk34) by omega)).keep u46 (fun h => h)).keep u52 (fun h => h)).keep u55 (show ¬ (bk18 = bk49) by omega)).keep u116 (fun h => h)).keep u119 (show ¬ (bk18 = bk113) by omega)).keep u127 (show ¬ (bk18 = bk13) by omega))
  refine t_lookG (cd := cd2) (a := keK (nth l k)) (m := laS l k) (z := .agg #[.int .i64 0, .int .i64 0, .int .i64 0, .int .i64 0, .int .i64 0, .int .i64 0]) key2_ok underlying315 zeroValue235 rfl rfl rfl rfl D131 (fun hq51 => ?_) (fun o2 hq51 => ?_)
  ·
   iterate 2 refine st1 ?_
   refine t_same 52 (v := .agg #[.int .i64 0, .int .i64 0, .int .i64 0, .int .i64 0, .int .i64 0, .int .i64 0]) rfl rfl ?_
   refine go ?_
   refine x_n fun bk132 w133 ebk132 sbk132 B134 u135 => ?_
   refine x_s fun w137 sw137 B139 u138 => ?_
   refine go ?_
   have D145 := ((D131.keep u135 (fun h => h)).keep u138 (show ¬ (bk18 = bk132) by omega))
   refine t_mapG (cd := cd2) (a := keK (nth l k)) (v := (nth l k)) (m := laS l k) key2_ok underlying315 rfl rfl rfl rfl D145 (fun w142 sw142 M143 u144 => ?_)
   refine go ?_
   have D147 := (((M126.keep u135 (fun h => h)).keep u138 (show ¬ (bk13 = bk132) by omega)).keep u144 (show ¬ (bk13 = bk18) by omega))
   exact hK25 (k + 1) ⟨(by omega), D147, (by rw [laS, if_pos (by unfold laOld; rw [hq51])]; exact M143), (fun j h => (Nat.lt_succ_iff_lt_or_eq.1 h).elim (hne j) (fun e => e ▸ (show ¬ edErr l k from (fun ⟨o, h1, h2⟩ => by rw [hq35] at h1; cases h1; exact h2 hoe))))⟩
  iterate 2 refine st1 ?_
  refine t_same 52 (v := .agg #[.int .i64 o2.c, .int .i64 o2.n, .int .i64 o2.r, .int .i64 o2.k, .int .i64 o2.m, .int .i64 o2.v]) rfl rfl ?_
  refine go ?_
  refine x_n fun bk148 w149 ebk148 sbk148 B150 u151 => ?_
  refine x_s fun w153 sw153 B155 u154 => ?_
  refine go ?_
  refine q_p (fun g62 => ?_) fun g62 => ?_
  ·
   refine go ?_
   have D161 := ((D131.keep u151 (fun h => h)).keep u154 (show ¬ (bk18 = bk148) by omega))
   refine t_mapG (cd := cd2) (a := keK (nth l k)) (v := (nth l k)) (m := laS l k) key2_ok underlying315 rfl rfl rfl rfl D161 (fun w158 sw158 M159 u160 => ?_)
   refine go ?_
   have D163 := (((M126.keep u151 (fun h => h)).keep u154 (show ¬ (bk13 = bk148) by omega)).keep u160 (show ¬ (bk13 = bk18) by omega))
   exact hK25 (k + 1) ⟨(by omega), D163, (by rw [laS, if_pos (by unfold laOld; rw [hq51]; exact decide_eq_true g62)]; exact M159), (fun j h => (Nat.lt_succ_iff_lt_or_eq.1 h).elim (hne j) (fun e => e ▸ (show ¬ edErr l k from (fun ⟨o, h1, h2⟩ => by rw [hq35] at h1; cases h1; exact h2 hoe))))⟩
  refine go ?_
  have D164 := ((D131.keep u151 (fun h => h)).keep u154 (show ¬ (bk18 = bk148) by omega))
  have D165 := ((M126.keep u151 (fun h => h)).keep u154 (show ¬ (bk13 = bk148) by omega))
  exact hK25 (k + 1) ⟨(by omega), D165, (by rw [laS, if_neg (by unfold laOld; rw [hq51]; simpa using g62)]; exact D164), (fun j h => (Nat.lt_succ_iff_lt_or_eq.1 h).elim (hne j) (fun e => e ▸ (show ¬ edErr l k from (fun ⟨o, h1, h2⟩ => by rw [hq35] at h1; cases h1; exact h2 hoe))))⟩
 obtain rfl : k = l.length := by omega
 have hlal := laS_len l l.length
 refine go ?_
 refine t_rangeG (cd := cd2) underlying315 rfl rfl rfl hm2 (fun it171 w168 eit171 sit171 J170 u169 => ?_)
 have zu169 := u169.size
 refine go ?_
 refine x_l5 (fun i => i = it171 ∨ w168.heap.size ≤ i) [69] (fun (left : List ((Int × Int) × Msg)) (out : List Msg) (ao : Option Addr) (gx : Nat) (co : Nat) => [(2, .slice ao out.length co)]) (fun left out ao gx co w => (ItG cd2 (laS l l.length) left w bk18 it171) ∧ ((out ++ ((left.map (·.2)).filter notWd)).Perm (((laS l l.length).map (·.2)).filter notWd)) ∧ (Acc encMsg 6 235 w168.heap.size w ao gx co out)) (fun left out ao gx co => left.length) (laS l l.length) ([]) none 0 0 ⟨J170, (List.Perm.refl _), (Acc.nil _ _ _ _ _ (by omega) (by omega))⟩ ?_
 rintro left out ao gx co w174 ⟨hit, hpm, hout⟩ u175 zu175 K173 hK173
 have lt_gx := hout.lt
 have holn : out.length ≤ 100 := by
   have h1 := hpm.length_eq
   rw [List.length_append] at h1
   have h2 := List.length_filter_le notWd ((laS l l.length).map (·.2))
   rw [List.length_map] at h2
   omega
 refine go ?_
 refine t_nextG rfl rfl rfl hit (fun hlf => ?_) (fun l1 p l2 w178 hlf sw178 N180 u179 => ?_)
 ·
  refine go ?_
  refine x_c func206 rfl rfl (sortFa_c out ao gx co w168.heap.size _ hout (by omega)) ?_
  rintro _ w184 ⟨⟨rfl, ys, hysp, hysa, hys⟩, u185⟩ zu185
  have hysl := hysp.length_eq
  have lt_gx := hys.lt
  refine go ?_
  refine f_ret2 (v1 := .slice ao out.length co) (v2 := .int .i64 0) results165 rfl rfl ?_
  subst hlf
  have hpm2 : ys.Perm (((laS l l.length).map (·.2)).filter notWd) := hysp.trans (by simpa using hpm)
  obtain ⟨gz, hz⟩ := Acc.lower (base' := w0.heap.size) hys (by omega) hpos
  exact ⟨⟨ys, _, gz, _, 0, by rw [hysl], hz, .inr (.inr ⟨hE0, rfl, hne, hpm2, hysa⟩)⟩, u_d⟩
 refine go ?_
 refine t_entryG rfl rfl rfl N180 ?_
 refine st1 ?_
 refine t_same 73 (v := .agg #[.int .i64 p.2.c, .int .i64 p.2.n, .int .i64 p.2.r, .int .i64 p.2.k, .int .i64 p.2.m, .int .i64 p.2.v]) rfl rfl ?_
 refine x_n fun bk192 w193 ebk192 sbk192 B194 u195 => ?_
 refine x_s fun w197 sw197 B199 u198 => ?_
 refine go ?_
 refine q_p (fun g76 => ?_) fun g76 => ?_
 ·
  refine go ?_
  refine x_l fun bk202 w203 ebk202 sbk202 B204 u205 => ?_
  have D207 := ((((hout.keep u179 (fun hb => show ¬ (gx = it171) by first | omega | assumption)).keep u195 (fun _ h => h)).keep u198 (fun hb => show ¬ (gx = bk192) by first | omega | assumption)).keep u205 (fun _ h => h))
  refine t_append (z := .agg #[.int .i64 0, .int .i64 0, .int .i64 0, .int .i64 0, .int .i64 0, .int .i64 0]) (bytes := 48) (k := 6) (base := w168.heap.size) p.2 underlying272 (by kernel_rfl) rfl (by decide) (fun _ => rfl) (by intro x; simp [encMsg, Value.oneCell']) rfl rfl rfl rfl D207 B204 (by omega) (by omega) (by decide) (fun ao208 gb209 cp210 w211 A212 u213 gegb209 lngb209 => ?_)
  have zu213 := u213.size
  have lt_gb209 := A212.lt
  refine go ?_
  have D215 := ((((N180.1.keep u195 (fun h => h) (fun h => h)).keep u198 (show ¬ (bk18 = bk192) by omega) (show ¬ (it171 = bk192) by omega)).keep u205 (fun h => h) (fun h => h)).keep u213 (show ¬ ((bk18 = gx ∧ w168.heap.size ≤ bk18)) by omega) (show ¬ ((it171 = gx ∧ w168.heap.size ≤ it171)) by omega))
  exact hK173 (l1 ++ l2) (out ++ [p.2]) ao208 gb209 cp210 ⟨D215, ((rd_yes g76).trans (by rw [← hlf]; exact hpm)), A212⟩ (hm := (by show (l1 ++ l2).length < left.length; rw [hlf, List.length_append, List.length_append, List.length_cons]; omega)) (hu := (((((u175.next u179 (fun i hi (h : i = it171) => show i = it171 ∨ w168.heap.size ≤ i by first | omega | assumption)).nx u195).next u198 (fun i hi (h : i = bk192) => show i = it171 ∨ w168.heap.size ≤ i by first | omega | assumption)).nx u205).next u213 (fun i hi (h : (i = gx ∧ w168.heap.size ≤ i)) => show i = it171 ∨ w168.heap.size ≤ i by first | omega | assumption)))
 refine go ?_
 have D216 := ((N180.1.keep u195 (fun h => h) (fun h => h)).keep u198 (show ¬ (bk18 = bk192) by omega) (show ¬ (it171 = bk192) by omega))
 have D217 := (((hout.keep u179 (fun hb => show ¬ (gx = it171) by first | omega | assumption)).keep u195 (fun _ h => h)).keep u198 (fun hb => show ¬ (gx = bk192) by first | omega | assumption))
 exact hK173 (l1 ++ l2) out ao gx co ⟨D216, (by rw [rd_no g76, ← hlf]; exact hpm), D217⟩ (hm := (by show (l1 ++ l2).length < left.length; rw [hlf, List.length_append, List.length_append, List.length_cons]; omega)) (hu := (((u175.next u179 (fun i hi (h : i = it171) => show i = it171 ∨ w168.heap.size ≤ i by first | omega | assumption)).nx u195).next u198 (fun i hi (h : i = bk192) => show i = it171 ∨ w168.heap.size ≤ i by first | omega | assumption)))

end Go.Proofs.YtagmkfbbhfaceaaGreatDoor
namespace Go.Proofs.YtagmkfbbhfaceaaGreatDoor
open Go Go.RowKit Go.Proofs.Tryz
set_option maxRecDepth 10000

/-- The first rows of a table of low water: one is not valid, or they do not ascend. -/
def lowK (ws : List Low) : Nat → Bool
  | 0 => ws.any fun x => !okLow x
  | k + 1 => lowK ws k || decide ((nth ws (k + 1)).b ≤ (nth ws k).b)
def okCh (c : Chr) (ws : List Low) : Bool := decide (lowK ws (ws.length - 1) = false ∧ ws.length ≤ 10 ∧ ((0 ≤ c.s ∧ c.s ≤ 99) ∧ (0 ≤ c.c ∧ c.c ≤ 99) ∧ (0 ≤ c.k ∧ c.k ≤ 99)) ∧ (0 ≤ c.r ∧ c.r ≤ 1000000) ∧ (0 ≤ c.n ∧ c.n ≤ 1000000) ∧ ((0 ≤ c.l ∧ c.l ≤ 100000) ∧ (0 ≤ c.o ∧ c.o ≤ 100000)) ∧ ((0 ≤ c.d ∧ c.d ≤ 100000000) ∧ (0 ≤ c.e ∧ c.e ≤ 100000000)) ∧ (0 ≤ c.m ∧ c.m ≤ 100))
def chkCh (c : Chr) (ws : List Low) : Int := if okCh c ws = true then 0 else 2
set_option maxHeartbeats 4000000 in
theorem CheckCharter_c (c : Chr) (ws : List Low) (aw : Option Addr) (bw ow cw : Nat) (w0 : World) (hws : Sl encLow 2 w0 aw bw ow ws) (hwl : ws.length ≤ 1000000) :
    CallsV Tryz.prog 163 [.agg #[.int .i64 c.s, .int .i64 c.c, .int .i64 c.k, .int .i64 c.r, .int .i64 c.n, .int .i64 c.l, .int .i64 c.o, .int .i64 c.d, .int .i64 c.e, .int .i64 c.m, .slice aw ws.length cw]] w0 (fun v w' => v = .int .i64 (chkCh c ws) ∧ Ext w0 w') := by
 refine f_n func163 ?_
 refine go ?_
 refine x_b fun bk2 w3 ebk2 sbk2 B4 u5 => ?_
 have E6 := Sc.mk ((Upd.refl (fun _ => False) w0).nx u5)
 refine go ?_
 refine x_c func198 rfl rfl (containsL_c encLow (fun _ => rfl) (fun x => !okLow x) 199 [] ws aw bw ow cw _ own199 (fun x _ w _ => badLow_c x w) (hws.keep E6.u (fun _ h => h)) hwl) ?_
 rintro _ w9 ⟨rfl, u10⟩ zu10
 refine go ?_
 refine x_l1 (fun _ => False) [1] (fun (k : Nat) => [(3, .bool (lowK ws k)), (4, .int .i64 ((k + 1 : Nat) : Int))]) (fun k w => (k + 1 ≤ ws.length ∨ k = 0)) (fun k => ws.length - k) 0 (.inr rfl) ?_
 rintro k w16 hk u17 zu17 K15 hK15
 refine go ?_
 refine q_p (fun g12 => ?_) fun g12 => ?_
 ·
  refine go ?_
  refine c_drawnM follows (fun _ => False) (OTl [0, 2, 4, 6, 8, 10, 12, 14, 16, 18, 20, 22, 24, 26, 28, 30, 32, 34]) (by kernel_rfl) fun w22 u23 => ?_
  have zu23 := u23.size
  have E24 := Sc.mk (((E6.u.nx u10).nx u17).nx u23)
  refine go ?_
  refine y_split 16 rfl (fun g16 => ?_) (fun g16 => ?_)
  ·
   refine go ?_
   exact hK15 (k + 1) (.inl (by omega)) (hs := by exact ⟨(congrArg (fun z => some (Value.bool z)) (by simp [lowK, g16])), rfl, rfl, trivial⟩)
  refine go ?_
  refine y_i k (hws.keep E24.u (fun _ h => h)) (fun _ => ?_) (hj := (by omega))
  refine go ?_
  refine y_i (k + 1 : Nat) (hws.keep E24.u (fun _ h => h)) (fun _ => ?_)
  refine go ?_
  exact hK15 (k + 1) (.inl (by omega)) (hs := by exact ⟨(congrArg (fun z => some (Value.bool z)) (by simp [lowK, g16])), rfl, rfl, trivial⟩)
 obtain rfl : k = ws.length - 1 := by omega
 refine go ?_
 refine t_split 33 rfl (fun g33 => ?_) (fun g33 => ?_)
 ·
  refine go ?_
  refine f_1 results163 ?_
  have hO : okCh c ws = false := by
    rw [Bool.eq_iff_iff]; simp only [okCh, decide_eq_true_eq] <;> grind
  exact ⟨congrArg (Value.int .i64) (by unfold chkCh; rw [hO]; rfl), u_d⟩
 refine go ?_
 refine t_splitp 39 rfl (fun g39 => ?_) (fun g39 => ?_)
 ·
  refine go ?_
  refine f_1 results163 ?_
  have hO : okCh c ws = false := by
    rw [Bool.eq_iff_iff]; simp only [okCh, decide_eq_true_eq] <;> grind
  exact ⟨congrArg (Value.int .i64) (by unfold chkCh; rw [hO]; rfl), u_d⟩
 refine go ?_
 refine x_l fun bk31 w32 ebk31 sbk31 B33 u34 => ?_
 refine x_c func200 rfl rfl (within3_v 0 99 c.s c.c c.k _ _ _ B33) ?_
 rintro _ w37 ⟨rfl, u38⟩ zu38
 refine go ?_
 refine t_splitp 50 rfl (fun g50 => ?_) (fun g50 => ?_)
 ·
  refine go ?_
  refine f_1 results163 ?_
  have hO : okCh c ws = false := by
    rw [Bool.eq_iff_iff]; simp only [okCh, decide_eq_true_eq] <;> grind
  exact ⟨congrArg (Value.int .i64) (by unfold chkCh; rw [hO]; rfl), u_d⟩
 refine go ?_
 refine x_l fun bk42 w43 ebk42 sbk42 B44 u45 => ?_
 refine x_c func200 rfl rfl (within1_vF 0 1000000 c.r _ _ _ B44) ?_
 rintro _ w48 ⟨rfl, u49⟩ zu49
 refine go ?_
 refine t_splitp 57 rfl (fun g57 => ?_) (fun g57 => ?_)
 ·
  refine go ?_
  refine f_1 results163 ?_
  have hO : okCh c ws = false := by
    rw [Bool.eq_iff_iff]; simp only [okCh, decide_eq_true_eq] <;> grind
  exact ⟨congrArg (Value.int .i64) (by unfold chkCh; rw [hO]; rfl), u_d⟩
 refine go ?_
 refine x_l fun bk53 w54 ebk53 sbk53 B55 u56 => ?_
 refine x_c func200 rfl rfl (within1_vF 0 1000000 c.n _ _ _ B55) ?_
 rintro _ w59 ⟨rfl, u60⟩ zu60
 refine go ?_
 refine t_splitp 64 rfl (fun g64 => ?_) (fun g64 => ?_)
 ·
  refine go ?_
  refine f_1 results163 ?_
  have hO : okCh c ws = false := by
    rw [Bool.eq_iff_iff]; simp only [okCh, decide_eq_true_eq] <;> grind
  exact ⟨congrArg (Value.int .i64) (by unfold chkCh; rw [hO]; rfl), u_d⟩
 refine go ?_
 refine x_l fun bk64 w65 ebk64 sbk64 B66 u67 => ?_
 refine x_c func200 rfl rfl (within2_vF 0 100000 c.l c.o _ _ _ B66) ?_
 rintro _ w70 ⟨rfl, u71⟩ zu71
 refine go ?_
 refine t_splitp 73 rfl (fun g73 => ?_) (fun g73 => ?_)
 ·
  refine go ?_
  refine f_1 results163 ?_
  have hO : okCh c ws = false := by
    rw [Bool.eq_iff_iff]; simp only [okCh, decide_eq_true_eq] <;> grind
  exact ⟨congrArg (Value.int .i64) (by unfold chkCh; rw [hO]; rfl), u_d⟩
 refine go ?_
 refine x_l fun bk75 w76 ebk75 sbk75 B77 u78 => ?_
 refine x_c func200 rfl rfl (within2_vF 0 100000000 c.d c.e _ _ _ B77) ?_
 rintro _ w81 ⟨rfl, u82⟩ zu82
 refine go ?_
 refine t_splitp 82 rfl (fun g82 => ?_) (fun g82 => ?_)
 ·
  refine go ?_
  refine f_1 results163 ?_
  have hO : okCh c ws = false := by
    rw [Bool.eq_iff_iff]; simp only [okCh, decide_eq_true_eq] <;> grind
  exact ⟨congrArg (Value.int .i64) (by unfold chkCh; rw [hO]; rfl), u_d⟩
 refine go ?_
 refine x_l fun bk86 w87 ebk86 sbk86 B88 u89 => ?_
 refine x_c func200 rfl rfl (within1_vF 0 100 c.m _ _ _ B88) ?_
 rintro _ w92 ⟨rfl, u93⟩ zu93
 refine go ?_
 refine q_p (fun g88 => ?_) fun g88 => ?_
 ·
  refine go ?_
  refine f_1 results163 ?_
  have hO : okCh c ws = false := by
    rw [Bool.eq_iff_iff]; simp only [okCh, decide_eq_true_eq] <;> grind
  exact ⟨congrArg (Value.int .i64) (by unfold chkCh; rw [hO]; rfl), u_d⟩
 refine go ?_
 refine f_1 results163 ?_
 have hO : okCh c ws = true := by
   rw [Bool.eq_iff_iff]; simp only [okCh, decide_eq_true_eq] <;> grind
 exact ⟨congrArg (Value.int .i64) (by unfold chkCh; rw [hO]; rfl), u_d⟩

end Go.Proofs.YtagmkfbbhfaceaaGreatDoor
namespace Go.Proofs.YtagmkfbbhfaceaaGreatDoor
open Go Go.RowKit Go.Proofs.Tryz
set_option maxRecDepth 10000

/-- A hull that moves empty: its place, the minute, minutes and cost of a place. -/
structure HulF where
  p : Int
  m : Int
  s : Int
  c : Int
theorem cloneF_c (l : List Fre) (al : Option Addr) (bl ol cl : Nat) (w0 : World) (hl : Sl encFre 2 w0 al bl ol l) (hll : l.length ≤ 1000000) (hpos : 0 < w0.heap.size) :
    CallsV Tryz.prog 211 [.slice al l.length cl] w0 (fun v w' => (∃ ao g cp, v = .slice ao (List.length l) cp ∧ Acc encFre 2 283 w0.heap.size w' ao g cp l) ∧ Ext w0 w') := by
 refine f_n func211 ?_
 refine go ?_
 refine t_nilS underlying228 rfl rfl rfl rfl ?_
 refine go ?_
 refine q_b (fun g4 => ?_) fun g4 => ?_
 ·
  refine go ?_
  refine f_1 results211 ?_
  have hl0 : l = [] := List.eq_nil_of_length_eq_zero (by
    rcases Nat.eq_zero_or_pos l.length with h | h
    · exact h
    · rw [hl.addr h] at g4; cases g4)
  exact ⟨⟨none, 0, 0, by rw [hl0]; rfl, by rw [hl0]; exact Acc.nil _ _ _ _ _ hpos (by omega)⟩, u_d⟩
 refine go ?_
 refine x_l fun bk6 w7 ebk6 sbk6 B8 u9 => ?_
 refine go ?_
 refine t_copyE (enc := encFre) (z := .agg #[.int .i64 0, .int .i64 0]) (bytes := 16) (k := 2) (ys := l) underlying228 (by kernel_rfl) rfl (by decide) (fun _ => rfl) (by intro x; simp [encFre, Value.oneCell']) rfl rfl rfl rfl B8 (hl.keep ((Upd.refl (fun _ => False) w0).nx u9) (fun _ h => h)) (by omega) (by decide) (fun ao1 g1 c1 w11 A13 u12 ge1 => ?_)
 have zu12 := u12.size
 refine go ?_
 refine f_1 results211 ?_
 obtain ⟨g9, ha9⟩ := Acc.lower (base' := w0.heap.size) A13 (by omega) hpos
 exact ⟨⟨ao1, g9, c1, rfl, ha9⟩, u_d⟩
end Go.Proofs.YtagmkfbbhfaceaaGreatDoor
