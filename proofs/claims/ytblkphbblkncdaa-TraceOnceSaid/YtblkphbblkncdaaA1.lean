/-
  Contracts of the small functions of package trace. Conditions: none.
-/
import Derived.Test.YtblkphbblkncdaaAcc
import Derived.Test.YtblkphbblkncdaaPure
import Derived.Test.YtblkphbblkncdaaEq
import Derived.Test.YtblkphbblkncdaaProg
namespace Go.Proofs.Ytblkphbblkncdaa
open Go Go.RowKit

theorem any_snoc {α : Type} [Inhabited α] {p : α → Bool} {xs : List α} {k : Nat} (hk : k < xs.length) (h : (xs.take k).any p = false) (hx : p (nth xs k) = false) : (xs.take (k + 1)).any p = false := by
  rw [take_nth hk, List.any_append, h]; simp [hx]
theorem any_hit {α : Type} [Inhabited α] {p : α → Bool} {xs : List α} {k : Nat} (hk : k < xs.length) (hx : p (nth xs k) = true) : decide ((0 : Int) ≤ (k : Int)) = xs.any p := by
  have : xs.any p = true := List.any_eq_true.2 ⟨nth xs k, nth_mem hk, hx⟩
  rw [this]; simp
theorem any_none {α : Type} {p : α → Bool} {xs : List α} {k : Nat} (hk : xs.length ≤ k) (h : (xs.take k).any p = false) : decide ((0 : Int) ≤ -1) = xs.any p := by
  rw [List.take_of_length_le hk] at h; rw [h]; decide
theorem not_any_out (lo hi : Int) (xs : List Int) : (!(xs.any fun n => decide (n < lo ∨ hi < n))) = decide (∀ n ∈ xs, lo ≤ n ∧ n ≤ hi) := by
  rw [Bool.eq_iff_iff]
  simp only [Bool.not_eq_true', List.any_eq_false, decide_eq_true_eq]
  exact ⟨fun h n hn => by have := h n hn; omega, fun h n hn => by have := h n hn; omega⟩
def encI (n : Int) : List Value := [.int .i64 n]
theorem SlI.own {w : World} {b : Nat} {t : TypeId} {xs : List Int} (h : Blk w b t (xs.map (Value.int .i64))) : Sl encI 1 w (some ⟨b, 0, none⟩) b 0 xs :=
  ⟨fun _ => rfl, fun _ => h.lt, fun i hi j v hv => by
    cases j with
    | zero =>
      rw [nth_eq hi] at hv
      simp [encI] at hv
      subst hv
      exact h.get (off := 0 + i * 1 + 0) (by simp [hi])
    | succ j => simp [encI] at hv⟩
structure Bil where
  tons : Int
  frm : Int
  to : Int
instance : Inhabited Bil := ⟨⟨default, default, default⟩⟩
structure Hld where
  hull : Int
  cap : Int
instance : Inhabited Hld := ⟨⟨default, default⟩⟩
structure Ev where
  kind : Int
  minute : Int
  bill : Int
  frm : Int
  to : Int
  tons : Int
  port : Int
  sn : Int
instance : Inhabited Ev := ⟨⟨default, default, default, default, default, default, default, default⟩⟩
structure Sur where
  book : Int
  lo : Int
  hi : Int
  sealed : Bool
instance : Inhabited Sur := ⟨⟨default, default, default, default⟩⟩
def encBil (x : Bil) : List Value := [.int .i64 x.tons, .int .i64 x.frm, .int .i64 x.to]
def encHld (x : Hld) : List Value := [.int .i64 x.hull, .int .i64 x.cap]
def encEv (x : Ev) : List Value := [.int .i64 x.kind, .int .i64 x.minute, .int .i64 x.bill, .int .i64 x.frm, .int .i64 x.to, .int .i64 x.tons, .int .i64 x.port, .int .i64 x.sn]
def encSur (x : Sur) : List Value := [.int .i64 x.book, .int .i64 x.lo, .int .i64 x.hi, .bool x.sealed]
def okBil (b : Bil) : Bool := decide ((1 ≤ b.tons ∧ b.tons ≤ 1000000) ∧ ((0 ≤ b.frm ∧ b.frm ≤ 99) ∧ (0 ≤ b.to ∧ b.to ≤ 99)))
def okHld (h : Hld) : Bool := decide ((0 ≤ h.hull ∧ h.hull ≤ 19) ∧ (0 ≤ h.cap ∧ h.cap ≤ 1000000))
def chkM (bs : List Bil) (hs : List Hld) : Int := if (bs.any fun b => !okBil b) = true ∨ (hs.any fun h => !okHld h) = true ∨ 30 < bs.length ∨ 20 < hs.length then 2 else 0
def okEv0 (x : Ev) : Bool := decide ((0 ≤ x.minute ∧ x.minute ≤ 1000000) ∧ 0 ≤ x.bill ∧ 0 ≤ x.frm ∧ 0 ≤ x.to)
def okTons (x : Ev) : Bool := decide (1 ≤ x.tons ∧ x.tons ≤ 1000000)
def okPort (x : Ev) : Bool := decide (0 ≤ x.port ∧ x.port ≤ 99)
/-- A valid event. -/
def okEv (x : Ev) : Bool := okEv0 x && (
  (decide (x.kind = 1) && okTons x && okPort x && decide (x.frm = 0 ∧ x.sn = 0)) ||
  (decide (x.kind = 2) && okTons x && decide (x.bill = 0 ∧ x.port = 0 ∧ x.sn = 0)) ||
  (decide (x.kind = 3) && okTons x && okPort x && decide (x.bill = 0 ∧ x.to = 0 ∧ x.sn = 0)) ||
  (decide (x.kind = 4) && decide (1 ≤ x.sn ∧ x.sn ≤ 1000000) && decide (x.bill = 0 ∧ x.frm = 0 ∧ x.tons = 0 ∧ x.port = 0)) ||
  (decide (x.kind = 5) && decide (x.bill = 0 ∧ x.to = 0 ∧ x.tons = 0 ∧ x.port = 0 ∧ x.sn = 0)))
def okSur (x : Sur) : Bool := decide (((0 ≤ x.book ∧ x.book ≤ 1000000) ∧ (0 ≤ x.lo ∧ x.lo ≤ 1000000) ∧ (0 ≤ x.hi ∧ x.hi ≤ 1000000)) ∧ x.lo ≤ x.hi)

theorem follows : Try.prog.follows .mixedOrders = true := by kernel_rfl

theorem own14 : Own Try.prog 14 := ⟨Try.f14, Try.func14, by kernel_rfl, by kernel_rfl⟩
theorem own38 : Own Try.prog 38 := ⟨Try.f38, Try.func38, by kernel_rfl, by kernel_rfl⟩
theorem own39 : Own Try.prog 39 := ⟨Try.f39, Try.func39, by kernel_rfl, by kernel_rfl⟩
theorem own40 : Own Try.prog 40 := ⟨Try.f40, Try.func40, by kernel_rfl, by kernel_rfl⟩
theorem own41 : Own Try.prog 41 := ⟨Try.f41, Try.func41, by kernel_rfl, by kernel_rfl⟩
theorem own42 : Own Try.prog 42 := ⟨Try.f42, Try.func42, by kernel_rfl, by kernel_rfl⟩
theorem own59 : Own Try.prog 59 := ⟨Try.f59, Try.func59, by kernel_rfl, by kernel_rfl⟩
theorem own60 : Own Try.prog 60 := ⟨Try.f60, Try.func60, by kernel_rfl, by kernel_rfl⟩
theorem own61 : Own Try.prog 61 := ⟨Try.f61, Try.func61, by kernel_rfl, by kernel_rfl⟩
theorem own66 : Own Try.prog 66 := ⟨Try.f66, Try.func66, by kernel_rfl, by kernel_rfl⟩
theorem own67 : Own Try.prog 67 := ⟨Try.f67, Try.func67, by kernel_rfl, by kernel_rfl⟩
theorem own68 : Own Try.prog 68 := ⟨Try.f68, Try.func68, by kernel_rfl, by kernel_rfl⟩
theorem own69 : Own Try.prog 69 := ⟨Try.f69, Try.func69, by kernel_rfl, by kernel_rfl⟩
theorem own70 : Own Try.prog 70 := ⟨Try.f70, Try.func70, by kernel_rfl, by kernel_rfl⟩
theorem own71 : Own Try.prog 71 := ⟨Try.f71, Try.func71, by kernel_rfl, by kernel_rfl⟩
theorem own72 : Own Try.prog 72 := ⟨Try.f72, Try.func72, by kernel_rfl, by kernel_rfl⟩
theorem own81 : Own Try.prog 81 := ⟨Try.f81, Try.func81, by kernel_rfl, by kernel_rfl⟩
theorem own83 : Own Try.prog 83 := ⟨Try.f83, Try.func83, by kernel_rfl, by kernel_rfl⟩
theorem own84 : Own Try.prog 84 := ⟨Try.f84, Try.func84, by kernel_rfl, by kernel_rfl⟩
theorem own85 : Own Try.prog 85 := ⟨Try.f85, Try.func85, by kernel_rfl, by kernel_rfl⟩

theorem eqIn41 (n : Nat) (a0 : Int) (a1 : Int) (a2 : Int) (a3 : Int) (a4 : Int) (a5 : Int) (a6 : Int) (a7 : Int) (b0 : Int) (b1 : Int) (b2 : Int) (b3 : Int) (b4 : Int) (b5 : Int) (b6 : Int) (b7 : Int) (w : World) : (Op.equalIn (n + 2) 41 (.agg #[.int .i64 a0, .int .i64 a1, .int .i64 a2, .int .i64 a3, .int .i64 a4, .int .i64 a5, .int .i64 a6, .int .i64 a7]) (.agg #[.int .i64 b0, .int .i64 b1, .int .i64 b2, .int .i64 b3, .int .i64 b4, .int .i64 b5, .int .i64 b6, .int .i64 b7])).run Try.prog w = .ok (decide (a0 = b0) && decide (a1 = b1) && decide (a2 = b2) && decide (a3 = b3) && decide (a4 = b4) && decide (a5 = b5) && decide (a6 = b6) && decide (a7 = b7)) w := by
  have hS : Try.prog.underlying 41 = some (.struct (Try.prog.fieldsOf 41)) := by kernel_rfl
  have hp : Try.prog.stoodInHeld 41 = false := by kernel_rfl
  have p0 : ∀ (a0 : Int) (a1 : Int) (a2 : Int) (a3 : Int) (a4 : Int) (a5 : Int) (a6 : Int) (a7 : Int), (part 39 #[.int .i64 a0, .int .i64 a1, .int .i64 a2, .int .i64 a3, .int .i64 a4, .int .i64 a5, .int .i64 a6, .int .i64 a7] 0).run Try.prog w = .ok (.int .i64 a0) w := fun _ _ _ _ _ _ _ _ => by simp [part, Try.isAgg39]
  have p1 : ∀ (a0 : Int) (a1 : Int) (a2 : Int) (a3 : Int) (a4 : Int) (a5 : Int) (a6 : Int) (a7 : Int), (part 3 #[.int .i64 a0, .int .i64 a1, .int .i64 a2, .int .i64 a3, .int .i64 a4, .int .i64 a5, .int .i64 a6, .int .i64 a7] 1).run Try.prog w = .ok (.int .i64 a1) w := fun _ _ _ _ _ _ _ _ => by simp [part, Try.isAgg3]
  have p2 : ∀ (a0 : Int) (a1 : Int) (a2 : Int) (a3 : Int) (a4 : Int) (a5 : Int) (a6 : Int) (a7 : Int), (part 3 #[.int .i64 a0, .int .i64 a1, .int .i64 a2, .int .i64 a3, .int .i64 a4, .int .i64 a5, .int .i64 a6, .int .i64 a7] 2).run Try.prog w = .ok (.int .i64 a2) w := fun _ _ _ _ _ _ _ _ => by simp [part, Try.isAgg3]
  have p3 : ∀ (a0 : Int) (a1 : Int) (a2 : Int) (a3 : Int) (a4 : Int) (a5 : Int) (a6 : Int) (a7 : Int), (part 3 #[.int .i64 a0, .int .i64 a1, .int .i64 a2, .int .i64 a3, .int .i64 a4, .int .i64 a5, .int .i64 a6, .int .i64 a7] 3).run Try.prog w = .ok (.int .i64 a3) w := fun _ _ _ _ _ _ _ _ => by simp [part, Try.isAgg3]
  have p4 : ∀ (a0 : Int) (a1 : Int) (a2 : Int) (a3 : Int) (a4 : Int) (a5 : Int) (a6 : Int) (a7 : Int), (part 3 #[.int .i64 a0, .int .i64 a1, .int .i64 a2, .int .i64 a3, .int .i64 a4, .int .i64 a5, .int .i64 a6, .int .i64 a7] 4).run Try.prog w = .ok (.int .i64 a4) w := fun _ _ _ _ _ _ _ _ => by simp [part, Try.isAgg3]
  have p5 : ∀ (a0 : Int) (a1 : Int) (a2 : Int) (a3 : Int) (a4 : Int) (a5 : Int) (a6 : Int) (a7 : Int), (part 3 #[.int .i64 a0, .int .i64 a1, .int .i64 a2, .int .i64 a3, .int .i64 a4, .int .i64 a5, .int .i64 a6, .int .i64 a7] 5).run Try.prog w = .ok (.int .i64 a5) w := fun _ _ _ _ _ _ _ _ => by simp [part, Try.isAgg3]
  have p6 : ∀ (a0 : Int) (a1 : Int) (a2 : Int) (a3 : Int) (a4 : Int) (a5 : Int) (a6 : Int) (a7 : Int), (part 3 #[.int .i64 a0, .int .i64 a1, .int .i64 a2, .int .i64 a3, .int .i64 a4, .int .i64 a5, .int .i64 a6, .int .i64 a7] 6).run Try.prog w = .ok (.int .i64 a6) w := fun _ _ _ _ _ _ _ _ => by simp [part, Try.isAgg3]
  have p7 : ∀ (a0 : Int) (a1 : Int) (a2 : Int) (a3 : Int) (a4 : Int) (a5 : Int) (a6 : Int) (a7 : Int), (part 3 #[.int .i64 a0, .int .i64 a1, .int .i64 a2, .int .i64 a3, .int .i64 a4, .int .i64 a5, .int .i64 a6, .int .i64 a7] 7).run Try.prog w = .ok (.int .i64 a7) w := fun _ _ _ _ _ _ _ _ => by simp [part, Try.isAgg3]
  have e3 := fun a b w => equal_i64 Try.underlying3 (n + 0) a b w
  have e39 := fun a b w => equal_i64 Try.underlying39 (n + 0) a b w
  rw [run_equalIn_struct w (n + 1) 41 _ _ hS hp]
  simp only [Program.fieldsOf, Try.underlying41]
  simp only [Op.eqFields, Sem.run_bind, Sem.run_ite, p0, p1, p2, p3, p4, p5, p6, p7, e3, e39, Result.andThen_ok]
  by_cases h0 : a0 = b0 <;> by_cases h1 : a1 = b1 <;> by_cases h2 : a2 = b2 <;> by_cases h3 : a3 = b3 <;> by_cases h4 : a4 = b4 <;> by_cases h5 : a5 = b5 <;> by_cases h6 : a6 = b6 <;> by_cases h7 : a7 = b7 <;> simp [h0, h1, h2, h3, h4, h5, h6, h7, p0, p1, p2, p3, p4, p5, p6, p7, e3, e39]

abbrev out1 (lo hi n : Int) : Bool := decide (n < lo ∨ hi < n)

theorem within1_c (lo hi n : Int) (b c : Nat) (t1 t2 : TypeId) (w0 : World) (hb : Blk w0 b t1 [.int .i64 lo]) (hc : Blk w0 c t2 [.int .i64 hi]) :
    CallsV Try.prog 68 [.int .i64 n, .pointer (some ⟨b, 0, none⟩), .pointer (some ⟨c, 0, none⟩)] w0 (fun v w' => v = .bool (out1 lo hi n) ∧ Ext w0 w') := by
 have E0 := Upd.refl (fun _ => False) w0
 refine f_enter (N := 13) Try.func68 rfl rfl rfl (c_seq fun K1 hK1 => (c_region (t_assign rfl rfl rfl (t_nil' (hK1 _ _ (c_seq fun K2 hK2 => (c_region (t_move rfl rfl rfl (t_load Try.isAgg3 rfl rfl rfl (hb.get rfl) (t_cmp rfl rfl rfl rfl rfl (t_move rfl rfl rfl (t_splitp 8 rfl (fun g8 => ?_) (fun g8 => ?_)))))))))))))
 ·
  refine t_skip rfl rfl rfl (t_skip rfl rfl rfl (t_skip rfl rfl rfl (t_pick_t rfl rfl rfl rfl (t_assign rfl rfl rfl (t_nil' (hK2 _ _ (c_ret (f_ret1 (v := .bool true) Try.results68 rfl ?_))))))))
  exact ⟨by simp [out1, *], E0⟩
 refine t_move rfl rfl rfl (t_load Try.isAgg3 rfl rfl rfl (hc.get rfl) (t_cmp rfl rfl rfl rfl rfl (t_pick_f rfl rfl rfl rfl (t_assign rfl rfl rfl (t_nil' (hK2 _ _ (c_ret (f_ret1 (v := .bool (decide (hi < n))) Try.results68 rfl ?_))))))))
 exact ⟨by simp [out1, *], E0⟩

theorem indexI_c (p : Int → Bool) (fv : FuncId) (caps : List Value) (xs : List Int) (ao : Option Addr) (b o cap : Nat) (w0 : World) (ho : Own Try.prog fv) (hp : ∀ x ∈ xs, ∀ w, Ext w0 w → CallsV Try.prog fv ([.int .i64 x] ++ caps) w fun v w' => v = .bool (p x) ∧ Ext w w') (hs : Sl encI 1 w0 ao b o xs) (hl : xs.length ≤ 1000000) :
    CallsV Try.prog 83 [.slice ao xs.length cap, .func (.func fv) #[] (caps).toArray] w0 (fun v w' => (∃ n : Int, v = .int .i64 n ∧ decide (0 ≤ n) = xs.any p) ∧ Ext w0 w') := by
 refine f_enter (N := 19) Try.func83 rfl rfl rfl (c_seq fun K1 hK1 => (c_region (t_assign rfl rfl rfl (t_nil' (hK1 _ _ (c_seq fun K2 hK2 => (c_seq fun K3 hK3 => (c_region (t_move rfl rfl rfl (t_len Try.underlying45 rfl rfl rfl rfl (t_move rfl rfl rfl (t_nil' (hK3 _ _ (c_block (c_loop (γ := Nat) (fun k => [(0, .slice ao xs.length cap), (1, .func (.func fv) #[] (caps).toArray), (7, .int .i64 (xs.length : Int)), (8, .int .i64 (k : Int))]) (fun k w => Upd (fun _ => False) w0 w ∧ (k ≤ xs.length) ∧ ((xs.take k).any p = false)) (fun k => xs.length - k) 0 ⟨rfl, rfl, rfl, rfl, trivial⟩ ⟨Upd.refl _ _, Nat.zero_le _, (by simp)⟩ ?_)))))))))))))))
 intro k w5 hW K4 hK4
 obtain ⟨u6, I7, I8⟩ := hW
 have zu6 := u6.size
 have E9 := (Upd.refl (fun _ => False) w0).nx u6
 have hle := I7; clear I7
 have hnot := I8; clear I8
 refine c_seq fun K10 hK10 => (c_region (t_cmp rfl rfl rfl rfl rfl (t_nil' (hK10 _ _ (c_seq fun K11 hK11 => (c_condp rfl (fun g9 => ?_) (fun g9 => ?_)))))))
 ·
  refine c_skip (hK11 _ _ (c_seq fun K12 hK12 => (c_block (c_seq fun K13 hK13 => (c_region (t_move rfl rfl rfl (t_assign rfl rfl rfl (t_nil' (hK13 _ _ (c_seq fun K14 hK14 => (c_region (t_move rfl rfl rfl (t_move rfl rfl rfl (t_move rfl rfl rfl ?_))))))))))))))
  have i15 : k < xs.length := (by omega)
  refine t_index (j := k) Try.underlying45 Try.sizeOf3 rfl rfl rfl rfl ((hs.keep E9 (fun _ h => h)).addr (by omega)) rfl i15 (t_load Try.isAgg3 rfl rfl rfl (((hs.keep E9 (fun _ h => h)).at_ k (by omega)) 0 _ rfl) (t_call (fs := []) (cs := caps) ho rfl rfl rfl rfl (hp (nth xs k) (nth_mem (by omega)) _ E9) (fun v16 w17 r19 => ?_)))
  obtain ⟨rfl, u18⟩ := r19
  have zu18 := u18.size
  refine t_nil' (hK14 _ _ (c_cond rfl (fun g16 => ?_) (fun g16 => ?_)))
  ·
   refine c_seq fun K21 hK21 => (c_region (t_move rfl rfl rfl (t_assign rfl rfl rfl (t_nil' (hK21 _ _ (c_ret (f_ret1 (v := .int .i64 (k : Int)) Try.results83 rfl ?_)))))))
   exact ⟨⟨_, rfl, any_hit (by omega) g16⟩, (E9.nx u18)⟩
  refine c_skip (hK12 _ _ (c_region (t_ari rfl rfl rfl rfl rfl (by omega) (t_move rfl rfl rfl (t_nil' ?_)))))
  exact hK4 (k + 1) _ _ (by omega) ⟨rfl, rfl, rfl, rfl, trivial⟩ ⟨(u6.next u18 (fun _ _ h => h.elim)), (by omega), (any_snoc (by omega) hnot g16)⟩
 refine c_exit (hK2 _ _ (c_seq fun K22 hK22 => (c_region (t_assign rfl rfl rfl (t_nil' (hK22 _ _ (c_ret (f_ret1 (v := .int .i64 (-1)) Try.results83 rfl ?_))))))))
 exact ⟨⟨_, rfl, any_none (by omega) hnot⟩, E9⟩

theorem containsI_c (p : Int → Bool) (fv : FuncId) (caps : List Value) (xs : List Int) (ao : Option Addr) (b o cap : Nat) (w0 : World) (ho : Own Try.prog fv) (hp : ∀ x ∈ xs, ∀ w, Ext w0 w → CallsV Try.prog fv ([.int .i64 x] ++ caps) w fun v w' => v = .bool (p x) ∧ Ext w w') (hs : Sl encI 1 w0 ao b o xs) (hl : xs.length ≤ 1000000) :
    CallsV Try.prog 67 [.slice ao xs.length cap, .func (.func fv) #[] (caps).toArray] w0 (fun v w' => v = .bool (xs.any p) ∧ Ext w0 w') := by
 refine f_enter (N := 9) Try.func67 rfl rfl rfl (c_seq fun K1 hK1 => (c_region (t_assign rfl rfl rfl (t_nil' (hK1 _ _ (c_seq fun K2 hK2 => (c_region (t_move rfl rfl rfl (t_move rfl rfl rfl (t_call own83 rfl rfl rfl rfl (indexI_c p fv caps xs ao b o cap _ ho hp hs hl) (fun v3 w4 r6 => ?_)))))))))))
 obtain ⟨⟨n, rfl, hn⟩, u5⟩ := r6
 have zu5 := u5.size
 refine t_cmp rfl rfl rfl rfl rfl (t_assign rfl rfl rfl (t_nil' (hK2 _ _ (c_ret (f_ret1 (v := .bool (decide (0 ≤ n))) Try.results67 rfl ?_)))))
 exact ⟨by rw [hn], ((Upd.refl (fun _ => False) w0).nx u5)⟩

theorem indexB_c {α : Type} [Inhabited α] (enc : α → List Value) (hk : ∀ x, (enc x).length = 3) (p : α → Bool) (fv : FuncId) (caps : List Value) (xs : List α) (ao : Option Addr) (b o cap : Nat) (w0 : World) (ho : Own Try.prog fv) (hp : ∀ x ∈ xs, ∀ w, Ext w0 w → CallsV Try.prog fv ([.agg (enc x).toArray] ++ caps) w fun v w' => v = .bool (p x) ∧ Ext w w') (hs : Sl enc 3 w0 ao b o xs) (hl : xs.length ≤ 1000000) :
    CallsV Try.prog 66 [.slice ao xs.length cap, .func (.func fv) #[] (caps).toArray] w0 (fun v w' => (∃ n : Int, v = .int .i64 n ∧ decide (0 ≤ n) = xs.any p) ∧ Ext w0 w') := by
 refine f_enter (N := 19) Try.func66 rfl rfl rfl (c_seq fun K1 hK1 => (c_region (t_assign rfl rfl rfl (t_nil' (hK1 _ _ (c_seq fun K2 hK2 => (c_seq fun K3 hK3 => (c_region (t_move rfl rfl rfl (t_len Try.underlying22 rfl rfl rfl rfl (t_move rfl rfl rfl (t_nil' (hK3 _ _ (c_block (c_loop (γ := Nat) (fun k => [(0, .slice ao xs.length cap), (1, .func (.func fv) #[] (caps).toArray), (7, .int .i64 (xs.length : Int)), (8, .int .i64 (k : Int))]) (fun k w => Upd (fun _ => False) w0 w ∧ (k ≤ xs.length) ∧ ((xs.take k).any p = false)) (fun k => xs.length - k) 0 ⟨rfl, rfl, rfl, rfl, trivial⟩ ⟨Upd.refl _ _, Nat.zero_le _, (by simp)⟩ ?_)))))))))))))))
 intro k w5 hW K4 hK4
 obtain ⟨u6, I7, I8⟩ := hW
 have zu6 := u6.size
 have E9 := (Upd.refl (fun _ => False) w0).nx u6
 have hle := I7; clear I7
 have hnot := I8; clear I8
 refine c_seq fun K10 hK10 => (c_region (t_cmp rfl rfl rfl rfl rfl (t_nil' (hK10 _ _ (c_seq fun K11 hK11 => (c_condp rfl (fun g9 => ?_) (fun g9 => ?_)))))))
 ·
  refine c_skip (hK11 _ _ (c_seq fun K12 hK12 => (c_block (c_seq fun K13 hK13 => (c_region (t_move rfl rfl rfl (t_assign rfl rfl rfl (t_nil' (hK13 _ _ (c_seq fun K14 hK14 => (c_region (t_move rfl rfl rfl (t_move rfl rfl rfl (t_move rfl rfl rfl ?_))))))))))))))
  have i15 : k < xs.length := (by omega)
  refine t_index (j := k) Try.underlying22 Try.sizeOf93 rfl rfl rfl rfl ((hs.keep E9 (fun _ h => h)).addr (by omega)) rfl i15 (t_loadN (vs := enc (nth xs k)) Try.isAgg93 Try.sizeOf93 rfl rfl rfl ((hs.keep E9 (fun _ h => h)).at_ k (by omega)) (hk _) (t_call (fs := []) (cs := caps) ho rfl rfl rfl rfl (hp (nth xs k) (nth_mem (by omega)) _ E9) (fun v16 w17 r19 => ?_)))
  obtain ⟨rfl, u18⟩ := r19
  have zu18 := u18.size
  refine t_nil' (hK14 _ _ (c_cond rfl (fun g16 => ?_) (fun g16 => ?_)))
  ·
   refine c_seq fun K21 hK21 => (c_region (t_move rfl rfl rfl (t_assign rfl rfl rfl (t_nil' (hK21 _ _ (c_ret (f_ret1 (v := .int .i64 (k : Int)) Try.results66 rfl ?_)))))))
   exact ⟨⟨_, rfl, any_hit (by omega) g16⟩, (E9.nx u18)⟩
  refine c_skip (hK12 _ _ (c_region (t_ari rfl rfl rfl rfl rfl (by omega) (t_move rfl rfl rfl (t_nil' ?_)))))
  exact hK4 (k + 1) _ _ (by omega) ⟨rfl, rfl, rfl, rfl, trivial⟩ ⟨(u6.next u18 (fun _ _ h => h.elim)), (by omega), (any_snoc (by omega) hnot g16)⟩
 refine c_exit (hK2 _ _ (c_seq fun K22 hK22 => (c_region (t_assign rfl rfl rfl (t_nil' (hK22 _ _ (c_ret (f_ret1 (v := .int .i64 (-1)) Try.results66 rfl ?_))))))))
 exact ⟨⟨_, rfl, any_none (by omega) hnot⟩, E9⟩

theorem containsB_c {α : Type} [Inhabited α] (enc : α → List Value) (hk : ∀ x, (enc x).length = 3) (p : α → Bool) (fv : FuncId) (caps : List Value) (xs : List α) (ao : Option Addr) (b o cap : Nat) (w0 : World) (ho : Own Try.prog fv) (hp : ∀ x ∈ xs, ∀ w, Ext w0 w → CallsV Try.prog fv ([.agg (enc x).toArray] ++ caps) w fun v w' => v = .bool (p x) ∧ Ext w w') (hs : Sl enc 3 w0 ao b o xs) (hl : xs.length ≤ 1000000) :
    CallsV Try.prog 38 [.slice ao xs.length cap, .func (.func fv) #[] (caps).toArray] w0 (fun v w' => v = .bool (xs.any p) ∧ Ext w0 w') := by
 refine f_enter (N := 9) Try.func38 rfl rfl rfl (c_seq fun K1 hK1 => (c_region (t_assign rfl rfl rfl (t_nil' (hK1 _ _ (c_seq fun K2 hK2 => (c_region (t_move rfl rfl rfl (t_move rfl rfl rfl (t_call own66 rfl rfl rfl rfl (indexB_c enc hk p fv caps xs ao b o cap _ ho hp hs hl) (fun v3 w4 r6 => ?_)))))))))))
 obtain ⟨⟨n, rfl, hn⟩, u5⟩ := r6
 have zu5 := u5.size
 refine t_cmp rfl rfl rfl rfl rfl (t_assign rfl rfl rfl (t_nil' (hK2 _ _ (c_ret (f_ret1 (v := .bool (decide (0 ≤ n))) Try.results38 rfl ?_)))))
 exact ⟨by rw [hn], ((Upd.refl (fun _ => False) w0).nx u5)⟩

theorem indexH_c {α : Type} [Inhabited α] (enc : α → List Value) (hk : ∀ x, (enc x).length = 2) (p : α → Bool) (fv : FuncId) (caps : List Value) (xs : List α) (ao : Option Addr) (b o cap : Nat) (w0 : World) (ho : Own Try.prog fv) (hp : ∀ x ∈ xs, ∀ w, Ext w0 w → CallsV Try.prog fv ([.agg (enc x).toArray] ++ caps) w fun v w' => v = .bool (p x) ∧ Ext w w') (hs : Sl enc 2 w0 ao b o xs) (hl : xs.length ≤ 1000000) :
    CallsV Try.prog 69 [.slice ao xs.length cap, .func (.func fv) #[] (caps).toArray] w0 (fun v w' => (∃ n : Int, v = .int .i64 n ∧ decide (0 ≤ n) = xs.any p) ∧ Ext w0 w') := by
 refine f_enter (N := 19) Try.func69 rfl rfl rfl (c_seq fun K1 hK1 => (c_region (t_assign rfl rfl rfl (t_nil' (hK1 _ _ (c_seq fun K2 hK2 => (c_seq fun K3 hK3 => (c_region (t_move rfl rfl rfl (t_len Try.underlying23 rfl rfl rfl rfl (t_move rfl rfl rfl (t_nil' (hK3 _ _ (c_block (c_loop (γ := Nat) (fun k => [(0, .slice ao xs.length cap), (1, .func (.func fv) #[] (caps).toArray), (7, .int .i64 (xs.length : Int)), (8, .int .i64 (k : Int))]) (fun k w => Upd (fun _ => False) w0 w ∧ (k ≤ xs.length) ∧ ((xs.take k).any p = false)) (fun k => xs.length - k) 0 ⟨rfl, rfl, rfl, rfl, trivial⟩ ⟨Upd.refl _ _, Nat.zero_le _, (by simp)⟩ ?_)))))))))))))))
 intro k w5 hW K4 hK4
 obtain ⟨u6, I7, I8⟩ := hW
 have zu6 := u6.size
 have E9 := (Upd.refl (fun _ => False) w0).nx u6
 have hle := I7; clear I7
 have hnot := I8; clear I8
 refine c_seq fun K10 hK10 => (c_region (t_cmp rfl rfl rfl rfl rfl (t_nil' (hK10 _ _ (c_seq fun K11 hK11 => (c_condp rfl (fun g9 => ?_) (fun g9 => ?_)))))))
 ·
  refine c_skip (hK11 _ _ (c_seq fun K12 hK12 => (c_block (c_seq fun K13 hK13 => (c_region (t_move rfl rfl rfl (t_assign rfl rfl rfl (t_nil' (hK13 _ _ (c_seq fun K14 hK14 => (c_region (t_move rfl rfl rfl (t_move rfl rfl rfl (t_move rfl rfl rfl ?_))))))))))))))
  have i15 : k < xs.length := (by omega)
  refine t_index (j := k) Try.underlying23 Try.sizeOf90 rfl rfl rfl rfl ((hs.keep E9 (fun _ h => h)).addr (by omega)) rfl i15 (t_loadN (vs := enc (nth xs k)) Try.isAgg90 Try.sizeOf90 rfl rfl rfl ((hs.keep E9 (fun _ h => h)).at_ k (by omega)) (hk _) (t_call (fs := []) (cs := caps) ho rfl rfl rfl rfl (hp (nth xs k) (nth_mem (by omega)) _ E9) (fun v16 w17 r19 => ?_)))
  obtain ⟨rfl, u18⟩ := r19
  have zu18 := u18.size
  refine t_nil' (hK14 _ _ (c_cond rfl (fun g16 => ?_) (fun g16 => ?_)))
  ·
   refine c_seq fun K21 hK21 => (c_region (t_move rfl rfl rfl (t_assign rfl rfl rfl (t_nil' (hK21 _ _ (c_ret (f_ret1 (v := .int .i64 (k : Int)) Try.results69 rfl ?_)))))))
   exact ⟨⟨_, rfl, any_hit (by omega) g16⟩, (E9.nx u18)⟩
  refine c_skip (hK12 _ _ (c_region (t_ari rfl rfl rfl rfl rfl (by omega) (t_move rfl rfl rfl (t_nil' ?_)))))
  exact hK4 (k + 1) _ _ (by omega) ⟨rfl, rfl, rfl, rfl, trivial⟩ ⟨(u6.next u18 (fun _ _ h => h.elim)), (by omega), (any_snoc (by omega) hnot g16)⟩
 refine c_exit (hK2 _ _ (c_seq fun K22 hK22 => (c_region (t_assign rfl rfl rfl (t_nil' (hK22 _ _ (c_ret (f_ret1 (v := .int .i64 (-1)) Try.results69 rfl ?_))))))))
 exact ⟨⟨_, rfl, any_none (by omega) hnot⟩, E9⟩

theorem containsH_c {α : Type} [Inhabited α] (enc : α → List Value) (hk : ∀ x, (enc x).length = 2) (p : α → Bool) (fv : FuncId) (caps : List Value) (xs : List α) (ao : Option Addr) (b o cap : Nat) (w0 : World) (ho : Own Try.prog fv) (hp : ∀ x ∈ xs, ∀ w, Ext w0 w → CallsV Try.prog fv ([.agg (enc x).toArray] ++ caps) w fun v w' => v = .bool (p x) ∧ Ext w w') (hs : Sl enc 2 w0 ao b o xs) (hl : xs.length ≤ 1000000) :
    CallsV Try.prog 41 [.slice ao xs.length cap, .func (.func fv) #[] (caps).toArray] w0 (fun v w' => v = .bool (xs.any p) ∧ Ext w0 w') := by
 refine f_enter (N := 9) Try.func41 rfl rfl rfl (c_seq fun K1 hK1 => (c_region (t_assign rfl rfl rfl (t_nil' (hK1 _ _ (c_seq fun K2 hK2 => (c_region (t_move rfl rfl rfl (t_move rfl rfl rfl (t_call own69 rfl rfl rfl rfl (indexH_c enc hk p fv caps xs ao b o cap _ ho hp hs hl) (fun v3 w4 r6 => ?_)))))))))))
 obtain ⟨⟨n, rfl, hn⟩, u5⟩ := r6
 have zu5 := u5.size
 refine t_cmp rfl rfl rfl rfl rfl (t_assign rfl rfl rfl (t_nil' (hK2 _ _ (c_ret (f_ret1 (v := .bool (decide (0 ≤ n))) Try.results41 rfl ?_)))))
 exact ⟨by rw [hn], ((Upd.refl (fun _ => False) w0).nx u5)⟩

theorem indexE_c {α : Type} [Inhabited α] (enc : α → List Value) (hk : ∀ x, (enc x).length = 8) (p : α → Bool) (fv : FuncId) (caps : List Value) (xs : List α) (ao : Option Addr) (b o cap : Nat) (w0 : World) (ho : Own Try.prog fv) (hp : ∀ x ∈ xs, ∀ w, Ext w0 w → CallsV Try.prog fv ([.agg (enc x).toArray] ++ caps) w fun v w' => v = .bool (p x) ∧ Ext w w') (hs : Sl enc 8 w0 ao b o xs) (hl : xs.length ≤ 1000000) :
    CallsV Try.prog 84 [.slice ao xs.length cap, .func (.func fv) #[] (caps).toArray] w0 (fun v w' => (∃ n : Int, v = .int .i64 n ∧ decide (0 ≤ n) = xs.any p) ∧ Ext w0 w') := by
 refine f_enter (N := 19) Try.func84 rfl rfl rfl (c_seq fun K1 hK1 => (c_region (t_assign rfl rfl rfl (t_nil' (hK1 _ _ (c_seq fun K2 hK2 => (c_seq fun K3 hK3 => (c_region (t_move rfl rfl rfl (t_len Try.underlying26 rfl rfl rfl rfl (t_move rfl rfl rfl (t_nil' (hK3 _ _ (c_block (c_loop (γ := Nat) (fun k => [(0, .slice ao xs.length cap), (1, .func (.func fv) #[] (caps).toArray), (7, .int .i64 (xs.length : Int)), (8, .int .i64 (k : Int))]) (fun k w => Upd (fun _ => False) w0 w ∧ (k ≤ xs.length) ∧ ((xs.take k).any p = false)) (fun k => xs.length - k) 0 ⟨rfl, rfl, rfl, rfl, trivial⟩ ⟨Upd.refl _ _, Nat.zero_le _, (by simp)⟩ ?_)))))))))))))))
 intro k w5 hW K4 hK4
 obtain ⟨u6, I7, I8⟩ := hW
 have zu6 := u6.size
 have E9 := (Upd.refl (fun _ => False) w0).nx u6
 have hle := I7; clear I7
 have hnot := I8; clear I8
 refine c_seq fun K10 hK10 => (c_region (t_cmp rfl rfl rfl rfl rfl (t_nil' (hK10 _ _ (c_seq fun K11 hK11 => (c_condp rfl (fun g9 => ?_) (fun g9 => ?_)))))))
 ·
  refine c_skip (hK11 _ _ (c_seq fun K12 hK12 => (c_block (c_seq fun K13 hK13 => (c_region (t_move rfl rfl rfl (t_assign rfl rfl rfl (t_nil' (hK13 _ _ (c_seq fun K14 hK14 => (c_region (t_move rfl rfl rfl (t_move rfl rfl rfl (t_move rfl rfl rfl ?_))))))))))))))
  have i15 : k < xs.length := (by omega)
  refine t_index (j := k) Try.underlying26 Try.sizeOf41 rfl rfl rfl rfl ((hs.keep E9 (fun _ h => h)).addr (by omega)) rfl i15 (t_loadN (vs := enc (nth xs k)) Try.isAgg41 Try.sizeOf41 rfl rfl rfl ((hs.keep E9 (fun _ h => h)).at_ k (by omega)) (hk _) (t_call (fs := []) (cs := caps) ho rfl rfl rfl rfl (hp (nth xs k) (nth_mem (by omega)) _ E9) (fun v16 w17 r19 => ?_)))
  obtain ⟨rfl, u18⟩ := r19
  have zu18 := u18.size
  refine t_nil' (hK14 _ _ (c_cond rfl (fun g16 => ?_) (fun g16 => ?_)))
  ·
   refine c_seq fun K21 hK21 => (c_region (t_move rfl rfl rfl (t_assign rfl rfl rfl (t_nil' (hK21 _ _ (c_ret (f_ret1 (v := .int .i64 (k : Int)) Try.results84 rfl ?_)))))))
   exact ⟨⟨_, rfl, any_hit (by omega) g16⟩, (E9.nx u18)⟩
  refine c_skip (hK12 _ _ (c_region (t_ari rfl rfl rfl rfl rfl (by omega) (t_move rfl rfl rfl (t_nil' ?_)))))
  exact hK4 (k + 1) _ _ (by omega) ⟨rfl, rfl, rfl, rfl, trivial⟩ ⟨(u6.next u18 (fun _ _ h => h.elim)), (by omega), (any_snoc (by omega) hnot g16)⟩
 refine c_exit (hK2 _ _ (c_seq fun K22 hK22 => (c_region (t_assign rfl rfl rfl (t_nil' (hK22 _ _ (c_ret (f_ret1 (v := .int .i64 (-1)) Try.results84 rfl ?_))))))))
 exact ⟨⟨_, rfl, any_none (by omega) hnot⟩, E9⟩

theorem containsE_c {α : Type} [Inhabited α] (enc : α → List Value) (hk : ∀ x, (enc x).length = 8) (p : α → Bool) (fv : FuncId) (caps : List Value) (xs : List α) (ao : Option Addr) (b o cap : Nat) (w0 : World) (ho : Own Try.prog fv) (hp : ∀ x ∈ xs, ∀ w, Ext w0 w → CallsV Try.prog fv ([.agg (enc x).toArray] ++ caps) w fun v w' => v = .bool (p x) ∧ Ext w w') (hs : Sl enc 8 w0 ao b o xs) (hl : xs.length ≤ 1000000) :
    CallsV Try.prog 70 [.slice ao xs.length cap, .func (.func fv) #[] (caps).toArray] w0 (fun v w' => v = .bool (xs.any p) ∧ Ext w0 w') := by
 refine f_enter (N := 9) Try.func70 rfl rfl rfl (c_seq fun K1 hK1 => (c_region (t_assign rfl rfl rfl (t_nil' (hK1 _ _ (c_seq fun K2 hK2 => (c_region (t_move rfl rfl rfl (t_move rfl rfl rfl (t_call own84 rfl rfl rfl rfl (indexE_c enc hk p fv caps xs ao b o cap _ ho hp hs hl) (fun v3 w4 r6 => ?_)))))))))))
 obtain ⟨⟨n, rfl, hn⟩, u5⟩ := r6
 have zu5 := u5.size
 refine t_cmp rfl rfl rfl rfl rfl (t_assign rfl rfl rfl (t_nil' (hK2 _ _ (c_ret (f_ret1 (v := .bool (decide (0 ≤ n))) Try.results70 rfl ?_)))))
 exact ⟨by rw [hn], ((Upd.refl (fun _ => False) w0).nx u5)⟩

theorem indexS_c {α : Type} [Inhabited α] (enc : α → List Value) (hk : ∀ x, (enc x).length = 4) (p : α → Bool) (fv : FuncId) (caps : List Value) (xs : List α) (ao : Option Addr) (b o cap : Nat) (w0 : World) (ho : Own Try.prog fv) (hp : ∀ x ∈ xs, ∀ w, Ext w0 w → CallsV Try.prog fv ([.agg (enc x).toArray] ++ caps) w fun v w' => v = .bool (p x) ∧ Ext w w') (hs : Sl enc 4 w0 ao b o xs) (hl : xs.length ≤ 1000000) :
    CallsV Try.prog 81 [.slice ao xs.length cap, .func (.func fv) #[] (caps).toArray] w0 (fun v w' => (∃ n : Int, v = .int .i64 n ∧ decide (0 ≤ n) = xs.any p) ∧ Ext w0 w') := by
 refine f_enter (N := 19) Try.func81 rfl rfl rfl (c_seq fun K1 hK1 => (c_region (t_assign rfl rfl rfl (t_nil' (hK1 _ _ (c_seq fun K2 hK2 => (c_seq fun K3 hK3 => (c_region (t_move rfl rfl rfl (t_len Try.underlying72 rfl rfl rfl rfl (t_move rfl rfl rfl (t_nil' (hK3 _ _ (c_block (c_loop (γ := Nat) (fun k => [(0, .slice ao xs.length cap), (1, .func (.func fv) #[] (caps).toArray), (7, .int .i64 (xs.length : Int)), (8, .int .i64 (k : Int))]) (fun k w => Upd (fun _ => False) w0 w ∧ (k ≤ xs.length) ∧ ((xs.take k).any p = false)) (fun k => xs.length - k) 0 ⟨rfl, rfl, rfl, rfl, trivial⟩ ⟨Upd.refl _ _, Nat.zero_le _, (by simp)⟩ ?_)))))))))))))))
 intro k w5 hW K4 hK4
 obtain ⟨u6, I7, I8⟩ := hW
 have zu6 := u6.size
 have E9 := (Upd.refl (fun _ => False) w0).nx u6
 have hle := I7; clear I7
 have hnot := I8; clear I8
 refine c_seq fun K10 hK10 => (c_region (t_cmp rfl rfl rfl rfl rfl (t_nil' (hK10 _ _ (c_seq fun K11 hK11 => (c_condp rfl (fun g9 => ?_) (fun g9 => ?_)))))))
 ·
  refine c_skip (hK11 _ _ (c_seq fun K12 hK12 => (c_block (c_seq fun K13 hK13 => (c_region (t_move rfl rfl rfl (t_assign rfl rfl rfl (t_nil' (hK13 _ _ (c_seq fun K14 hK14 => (c_region (t_move rfl rfl rfl (t_move rfl rfl rfl (t_move rfl rfl rfl ?_))))))))))))))
  have i15 : k < xs.length := (by omega)
  refine t_index (j := k) Try.underlying72 Try.sizeOf79 rfl rfl rfl rfl ((hs.keep E9 (fun _ h => h)).addr (by omega)) rfl i15 (t_loadN (vs := enc (nth xs k)) Try.isAgg79 Try.sizeOf79 rfl rfl rfl ((hs.keep E9 (fun _ h => h)).at_ k (by omega)) (hk _) (t_call (fs := []) (cs := caps) ho rfl rfl rfl rfl (hp (nth xs k) (nth_mem (by omega)) _ E9) (fun v16 w17 r19 => ?_)))
  obtain ⟨rfl, u18⟩ := r19
  have zu18 := u18.size
  refine t_nil' (hK14 _ _ (c_cond rfl (fun g16 => ?_) (fun g16 => ?_)))
  ·
   refine c_seq fun K21 hK21 => (c_region (t_move rfl rfl rfl (t_assign rfl rfl rfl (t_nil' (hK21 _ _ (c_ret (f_ret1 (v := .int .i64 (k : Int)) Try.results81 rfl ?_)))))))
   exact ⟨⟨_, rfl, any_hit (by omega) g16⟩, (E9.nx u18)⟩
  refine c_skip (hK12 _ _ (c_region (t_ari rfl rfl rfl rfl rfl (by omega) (t_move rfl rfl rfl (t_nil' ?_)))))
  exact hK4 (k + 1) _ _ (by omega) ⟨rfl, rfl, rfl, rfl, trivial⟩ ⟨(u6.next u18 (fun _ _ h => h.elim)), (by omega), (any_snoc (by omega) hnot g16)⟩
 refine c_exit (hK2 _ _ (c_seq fun K22 hK22 => (c_region (t_assign rfl rfl rfl (t_nil' (hK22 _ _ (c_ret (f_ret1 (v := .int .i64 (-1)) Try.results81 rfl ?_))))))))
 exact ⟨⟨_, rfl, any_none (by omega) hnot⟩, E9⟩

theorem containsS_c {α : Type} [Inhabited α] (enc : α → List Value) (hk : ∀ x, (enc x).length = 4) (p : α → Bool) (fv : FuncId) (caps : List Value) (xs : List α) (ao : Option Addr) (b o cap : Nat) (w0 : World) (ho : Own Try.prog fv) (hp : ∀ x ∈ xs, ∀ w, Ext w0 w → CallsV Try.prog fv ([.agg (enc x).toArray] ++ caps) w fun v w' => v = .bool (p x) ∧ Ext w w') (hs : Sl enc 4 w0 ao b o xs) (hl : xs.length ≤ 1000000) :
    CallsV Try.prog 59 [.slice ao xs.length cap, .func (.func fv) #[] (caps).toArray] w0 (fun v w' => v = .bool (xs.any p) ∧ Ext w0 w') := by
 refine f_enter (N := 9) Try.func59 rfl rfl rfl (c_seq fun K1 hK1 => (c_region (t_assign rfl rfl rfl (t_nil' (hK1 _ _ (c_seq fun K2 hK2 => (c_region (t_move rfl rfl rfl (t_move rfl rfl rfl (t_call own81 rfl rfl rfl rfl (indexS_c enc hk p fv caps xs ao b o cap _ ho hp hs hl) (fun v3 w4 r6 => ?_)))))))))))
 obtain ⟨⟨n, rfl, hn⟩, u5⟩ := r6
 have zu5 := u5.size
 refine t_cmp rfl rfl rfl rfl rfl (t_assign rfl rfl rfl (t_nil' (hK2 _ _ (c_ret (f_ret1 (v := .bool (decide (0 ≤ n))) Try.results59 rfl ?_)))))
 exact ⟨by rw [hn], ((Upd.refl (fun _ => False) w0).nx u5)⟩

theorem within_c (lo hi : Int) (xs : List Int) (ao : Option Addr) (b o cap : Nat) (w0 : World) (hs : Sl encI 1 w0 ao b o xs) (hl : xs.length ≤ 1000000) :
    CallsV Try.prog 40 [.int .i64 lo, .int .i64 hi, .slice ao xs.length cap] w0 (fun v w' => v = .bool (decide (∀ n ∈ xs, lo ≤ n ∧ n ≤ hi)) ∧ Ext w0 w') := by
 refine f_enter (N := 11) Try.func40 rfl rfl rfl (c_seq fun K1 hK1 => (c_region (t_box (cs := [.int .i64 lo]) rfl rfl rfl rfl (fun bk2 w3 ebk2 sbk2 B4 u5 => ?_))))
 have zu5 := u5.size
 refine t_box (cs := [.int .i64 hi]) rfl rfl rfl rfl (fun bk7 w8 ebk7 sbk7 B9 u10 => ?_)
 have zu10 := u10.size
 have E11 := ((Upd.refl (fun _ => False) w0).nx u5).nx u10
 refine t_assign rfl rfl rfl (t_nil' (hK1 _ _ (c_seq fun K12 hK12 => (c_region (t_move rfl rfl rfl (t_mkfunc (vs := []) (us := [.pointer (some ⟨bk2, 0, none⟩), .pointer (some ⟨bk7, 0, none⟩)]) rfl rfl rfl rfl ?_))))))
 have B13 := (B4.kx u10)
 refine t_call own67 rfl rfl rfl rfl (containsI_c (out1 lo hi) 68 [.pointer (some ⟨bk2, 0, none⟩), .pointer (some ⟨bk7, 0, none⟩)] xs ao b o cap _ own68 (fun x _ w u => within1_c lo hi x bk2 bk7 _ _ w (B13.keep u (fun h => h)) (B9.keep u (fun h => h))) (hs.keep E11 (fun _ h => h)) hl) (fun v14 w15 r17 => ?_)
 obtain ⟨rfl, u16⟩ := r17
 have zu16 := u16.size
 refine t_not rfl rfl rfl (t_assign rfl rfl rfl (t_nil' (hK12 _ _ (c_ret (f_ret1 (v := .bool (!(xs.any (out1 lo hi)))) Try.results40 rfl ?_)))))
 exact ⟨by rw [not_any_out], (E11.nx u16)⟩

theorem within1_v (lo hi m : Int) (b : Nat) (t : TypeId) (w : World) (h : Blk w b t [.int .i64 m]) :
    CallsV Try.prog 40 [.int .i64 lo, .int .i64 hi, .slice (some ⟨b, 0, none⟩) 1 1] w (fun v w' => v = .bool (decide ((lo ≤ m ∧ m ≤ hi))) ∧ Ext w w') :=
  (within_c lo hi [m] _ b 0 1 w (SlI.own (xs := [m]) h) (by simp)).mono fun v w' ⟨e, u⟩ => ⟨by rw [e]; simp, u⟩

theorem within2_v (lo hi m n : Int) (b : Nat) (t : TypeId) (w : World) (h : Blk w b t [.int .i64 m, .int .i64 n]) :
    CallsV Try.prog 40 [.int .i64 lo, .int .i64 hi, .slice (some ⟨b, 0, none⟩) 2 2] w (fun v w' => v = .bool (decide ((lo ≤ m ∧ m ≤ hi) ∧ (lo ≤ n ∧ n ≤ hi))) ∧ Ext w w') :=
  (within_c lo hi [m, n] _ b 0 2 w (SlI.own (xs := [m, n]) h) (by simp)).mono fun v w' ⟨e, u⟩ => ⟨by rw [e]; simp, u⟩

theorem within3_v (lo hi m n q : Int) (b : Nat) (t : TypeId) (w : World) (h : Blk w b t [.int .i64 m, .int .i64 n, .int .i64 q]) :
    CallsV Try.prog 40 [.int .i64 lo, .int .i64 hi, .slice (some ⟨b, 0, none⟩) 3 3] w (fun v w' => v = .bool (decide ((lo ≤ m ∧ m ≤ hi) ∧ (lo ≤ n ∧ n ≤ hi) ∧ (lo ≤ q ∧ q ≤ hi))) ∧ Ext w w') :=
  (within_c lo hi [m, n, q] _ b 0 3 w (SlI.own (xs := [m, n, q]) h) (by simp)).mono fun v w' ⟨e, u⟩ => ⟨by rw [e]; simp, u⟩

theorem badBil_c (b : Bil) (w0 : World) :
    CallsV Try.prog 39 [.agg #[.int .i64 b.tons, .int .i64 b.frm, .int .i64 b.to]] w0 (fun v w' => v = .bool (!okBil b) ∧ Ext w0 w') := by
 refine f_enter (N := 17) Try.func39 rfl rfl rfl (c_seq fun K1 hK1 => (c_region (t_box (cs := [.int .i64 b.tons, .int .i64 b.frm, .int .i64 b.to]) rfl rfl rfl rfl (fun bk2 w3 ebk2 sbk2 B4 u5 => ?_))))
 have zu5 := u5.size
 refine t_assign rfl rfl rfl (t_nil' (hK1 _ _ (c_seq fun K7 hK7 => (c_region (t_field Try.underlying93 rfl Try.sizeOf3 (0) rfl rfl rfl rfl (t_load Try.isAgg3 rfl rfl rfl (B4.get rfl) (t_bslice (ps := [(0, .int .i64 b.tons)]) (cs := [.int .i64 b.tons]) (e := 3) rfl rfl ⟨rfl, rfl⟩ (fun w => by kernel_rfl) (fun bk8 w9 ebk8 sbk8 B10 u11 => ?_))))))))
 have zu11 := u11.size
 refine t_call own40 rfl rfl rfl rfl (within1_v 1 1000000 b.tons _ _ _ B10) (fun v13 w14 r16 => ?_)
 obtain ⟨rfl, u15⟩ := r16
 have zu15 := u15.size
 have E17 := (((Upd.refl (fun _ => False) w0).nx u5).nx u11).nx u15
 refine t_notp rfl rfl rfl (t_move rfl rfl rfl (t_splitp 8 rfl (fun g8 => ?_) (fun g8 => ?_)))
 ·
  refine t_skip rfl rfl rfl (t_skip rfl rfl rfl (t_skip rfl rfl rfl (t_skip rfl rfl rfl (t_skip rfl rfl rfl (t_skip rfl rfl rfl (t_skip rfl rfl rfl (t_pick_t rfl rfl rfl rfl (t_assign rfl rfl rfl (t_nil' (hK7 _ _ (c_ret (f_ret1 (v := .bool true) Try.results39 rfl ?_))))))))))))
  exact ⟨congrArg Value.bool (by rw [Bool.eq_iff_iff]; simp [okBil] <;> omega), E17⟩
 refine t_field Try.underlying93 rfl Try.sizeOf3 (1) rfl rfl rfl rfl ?_
 have B18 := ((B4.kx u11).kx u15)
 refine t_load Try.isAgg3 rfl rfl rfl (B18.get rfl) (t_field Try.underlying93 rfl Try.sizeOf3 (2) rfl rfl rfl rfl (t_load Try.isAgg3 rfl rfl rfl (B18.get rfl) (t_bslice (ps := [(0, .int .i64 b.frm), (1, .int .i64 b.to)]) (cs := [.int .i64 b.frm, .int .i64 b.to]) (e := 3) rfl rfl ⟨rfl, rfl⟩ (fun w => by kernel_rfl) (fun bk19 w20 ebk19 sbk19 B21 u22 => ?_))))
 have zu22 := u22.size
 refine t_call own40 rfl rfl rfl rfl (within2_v 0 99 b.frm b.to _ _ _ B21) (fun v24 w25 r27 => ?_)
 obtain ⟨rfl, u26⟩ := r27
 have zu26 := u26.size
 refine t_notp rfl rfl rfl (t_pick_f rfl rfl rfl rfl (t_assign rfl rfl rfl (t_nil' (hK7 _ _ (c_ret (f_ret1 (v := .bool (decide (¬ ((0 ≤ b.frm ∧ b.frm ≤ 99) ∧ (0 ≤ b.to ∧ b.to ≤ 99))))) Try.results39 rfl ?_))))))
 exact ⟨congrArg Value.bool (by rw [Bool.eq_iff_iff]; simp [okBil] <;> omega), ((E17.nx u22).nx u26)⟩

theorem badHld_c (h : Hld) (w0 : World) :
    CallsV Try.prog 42 [.agg #[.int .i64 h.hull, .int .i64 h.cap]] w0 (fun v w' => v = .bool (!okHld h) ∧ Ext w0 w') := by
 refine f_enter (N := 15) Try.func42 rfl rfl rfl (c_seq fun K1 hK1 => (c_region (t_box (cs := [.int .i64 h.hull, .int .i64 h.cap]) rfl rfl rfl rfl (fun bk2 w3 ebk2 sbk2 B4 u5 => ?_))))
 have zu5 := u5.size
 refine t_assign rfl rfl rfl (t_nil' (hK1 _ _ (c_seq fun K7 hK7 => (c_region (t_field Try.underlying90 rfl Try.sizeOf3 (0) rfl rfl rfl rfl (t_load Try.isAgg3 rfl rfl rfl (B4.get rfl) (t_bslice (ps := [(0, .int .i64 h.hull)]) (cs := [.int .i64 h.hull]) (e := 3) rfl rfl ⟨rfl, rfl⟩ (fun w => by kernel_rfl) (fun bk8 w9 ebk8 sbk8 B10 u11 => ?_))))))))
 have zu11 := u11.size
 refine t_call own40 rfl rfl rfl rfl (within1_v 0 19 h.hull _ _ _ B10) (fun v13 w14 r16 => ?_)
 obtain ⟨rfl, u15⟩ := r16
 have zu15 := u15.size
 have E17 := (((Upd.refl (fun _ => False) w0).nx u5).nx u11).nx u15
 refine t_notp rfl rfl rfl (t_move rfl rfl rfl (t_splitp 8 rfl (fun g8 => ?_) (fun g8 => ?_)))
 ·
  refine t_skip rfl rfl rfl (t_skip rfl rfl rfl (t_skip rfl rfl rfl (t_skip rfl rfl rfl (t_skip rfl rfl rfl (t_pick_t rfl rfl rfl rfl (t_assign rfl rfl rfl (t_nil' (hK7 _ _ (c_ret (f_ret1 (v := .bool true) Try.results42 rfl ?_))))))))))
  exact ⟨congrArg Value.bool (by rw [Bool.eq_iff_iff]; simp [okHld] <;> omega), E17⟩
 refine t_field Try.underlying90 rfl Try.sizeOf3 (1) rfl rfl rfl rfl ?_
 have B18 := ((B4.kx u11).kx u15)
 refine t_load Try.isAgg3 rfl rfl rfl (B18.get rfl) (t_bslice (ps := [(0, .int .i64 h.cap)]) (cs := [.int .i64 h.cap]) (e := 3) rfl rfl ⟨rfl, rfl⟩ (fun w => by kernel_rfl) (fun bk19 w20 ebk19 sbk19 B21 u22 => ?_))
 have zu22 := u22.size
 refine t_call own40 rfl rfl rfl rfl (within1_v 0 1000000 h.cap _ _ _ B21) (fun v24 w25 r27 => ?_)
 obtain ⟨rfl, u26⟩ := r27
 have zu26 := u26.size
 refine t_notp rfl rfl rfl (t_pick_f rfl rfl rfl rfl (t_assign rfl rfl rfl (t_nil' (hK7 _ _ (c_ret (f_ret1 (v := .bool (decide (¬ ((0 ≤ h.cap ∧ h.cap ≤ 1000000))))) Try.results42 rfl ?_))))))
 exact ⟨congrArg Value.bool (by rw [Bool.eq_iff_iff]; simp [okHld] <;> omega), ((E17.nx u22).nx u26)⟩

theorem Check_c (bs : List Bil) (ab : Option Addr) (bb ob cb : Nat) (hs : List Hld) (ah : Option Addr) (bh oh ch : Nat) (w0 : World) (hbs : Sl encBil 3 w0 ab bb ob bs) (hhs : Sl encHld 2 w0 ah bh oh hs) (hbl : bs.length ≤ 1000000) (hhl : hs.length ≤ 1000000) :
    CallsV Try.prog 14 [.agg #[.slice ab bs.length cb, .slice ah hs.length ch]] w0 (fun v w' => v = .int .i64 (chkM bs hs) ∧ Ext w0 w') := by
 refine f_enter (N := 27) Try.func14 rfl rfl rfl (c_seq fun K1 hK1 => (c_region (t_box (cs := [.slice ab bs.length cb, .slice ah hs.length ch]) rfl rfl rfl rfl (fun bk2 w3 ebk2 sbk2 B4 u5 => ?_))))
 have zu5 := u5.size
 have E6 := (Upd.refl (fun _ => False) w0).nx u5
 refine t_assign rfl rfl rfl (t_nil' (hK1 _ _ (c_seq fun K7 hK7 => (c_region (t_field Try.underlying25 rfl Try.sizeOf22 (0) rfl rfl rfl rfl (t_load Try.isAgg22 rfl rfl rfl (B4.get rfl) (t_call own38 rfl rfl rfl rfl (containsB_c encBil (fun _ => rfl) (fun x => !okBil x) 39 [] bs ab bb ob cb _ own39 (fun x _ w _ => badBil_c x w) (hbs.keep E6 (fun _ h => h)) hbl) (fun v8 w9 r11 => ?_))))))))
 obtain ⟨rfl, u10⟩ := r11
 have zu10 := u10.size
 have E12 := E6.nx u10
 refine t_assign rfl rfl rfl (t_nil' (hK7 _ _ (c_seq fun K13 hK13 => (c_region (t_field Try.underlying25 rfl Try.sizeOf23 (1) rfl rfl rfl rfl ?_)))))
 have B14 := (B4.kx u10)
 refine t_load Try.isAgg23 rfl rfl rfl (B14.get rfl) (t_call own41 rfl rfl rfl rfl (containsH_c encHld (fun _ => rfl) (fun x => !okHld x) 42 [] hs ah bh oh ch _ own42 (fun x _ w _ => badHld_c x w) (hhs.keep E12 (fun _ h => h)) hhl) (fun v15 w16 r18 => ?_))
 obtain ⟨rfl, u17⟩ := r18
 have zu17 := u17.size
 have E19 := E12.nx u17
 refine t_assign rfl rfl rfl (t_nil' (hK13 _ _ (c_seq fun K20 hK20 => (c_seq fun K21 hK21 => (c_region (t_move rfl rfl rfl (t_move rfl rfl rfl (t_split 12 rfl (fun g12 => ?_) (fun g12 => ?_)))))))))
 ·
  refine t_skip rfl rfl rfl (t_pick_t rfl rfl rfl rfl (t_move rfl rfl rfl (t_skip rfl rfl rfl (t_skip rfl rfl rfl (t_skip rfl rfl rfl (t_skip rfl rfl rfl (t_pick_t rfl rfl rfl rfl (t_move rfl rfl rfl (t_skip rfl rfl rfl (t_skip rfl rfl rfl (t_skip rfl rfl rfl (t_skip rfl rfl rfl (t_pick_t rfl rfl rfl rfl (t_nil' (hK21 _ _ (c_cond_t rfl (c_seq fun K22 hK22 => (c_region (t_assign rfl rfl rfl (t_nil' (hK22 _ _ (c_ret (f_ret1 (v := .int .i64 2) Try.results14 rfl ?_)))))))))))))))))))))))
  exact ⟨congrArg (Value.int .i64) (by unfold chkM; rw [if_pos (by simp only [*, Bool.false_eq_true, false_or, true_or, or_true, not_false_eq_true, not_true_eq_false] <;> omega)]), E19⟩
 refine t_move rfl rfl rfl (t_pick_f rfl rfl rfl rfl (t_move rfl rfl rfl (t_split 15 rfl (fun g15 => ?_) (fun g15 => ?_))))
 ·
  refine t_skip rfl rfl rfl (t_skip rfl rfl rfl (t_skip rfl rfl rfl (t_skip rfl rfl rfl (t_pick_t rfl rfl rfl rfl (t_move rfl rfl rfl (t_skip rfl rfl rfl (t_skip rfl rfl rfl (t_skip rfl rfl rfl (t_skip rfl rfl rfl (t_pick_t rfl rfl rfl rfl (t_nil' (hK21 _ _ (c_cond_t rfl (c_seq fun K23 hK23 => (c_region (t_assign rfl rfl rfl (t_nil' (hK23 _ _ (c_ret (f_ret1 (v := .int .i64 2) Try.results14 rfl ?_))))))))))))))))))))
  exact ⟨congrArg (Value.int .i64) (by unfold chkM; rw [if_pos (by simp only [*, Bool.false_eq_true, false_or, true_or, or_true, not_false_eq_true, not_true_eq_false] <;> omega)]), E19⟩
 refine t_field Try.underlying25 rfl Try.sizeOf22 (0) rfl rfl rfl rfl ?_
 have B24 := (B14.kx u17)
 refine t_load Try.isAgg22 rfl rfl rfl (B24.get rfl) (t_len Try.underlying22 rfl rfl rfl rfl (t_cmp rfl rfl rfl rfl rfl (t_pick_f rfl rfl rfl rfl (t_move rfl rfl rfl (t_splitp 21 rfl (fun g21 => ?_) (fun g21 => ?_))))))
 ·
  refine t_skip rfl rfl rfl (t_skip rfl rfl rfl (t_skip rfl rfl rfl (t_skip rfl rfl rfl (t_pick_t rfl rfl rfl rfl (t_nil' (hK21 _ _ (c_cond_t rfl (c_seq fun K25 hK25 => (c_region (t_assign rfl rfl rfl (t_nil' (hK25 _ _ (c_ret (f_ret1 (v := .int .i64 2) Try.results14 rfl ?_))))))))))))))
  exact ⟨congrArg (Value.int .i64) (by unfold chkM; rw [if_pos (by simp only [*, Bool.false_eq_true, false_or, true_or, or_true, not_false_eq_true, not_true_eq_false] <;> omega)]), E19⟩
 refine t_field Try.underlying25 rfl Try.sizeOf23 (1) rfl rfl rfl rfl (t_load Try.isAgg23 rfl rfl rfl (B24.get rfl) (t_len Try.underlying23 rfl rfl rfl rfl (t_cmp rfl rfl rfl rfl rfl (t_pick_f rfl rfl rfl rfl (t_nil' (hK21 _ _ (c_condp rfl (fun g26 => ?_) (fun g26 => ?_))))))))
 ·
  refine c_seq fun K26 hK26 => (c_region (t_assign rfl rfl rfl (t_nil' (hK26 _ _ (c_ret (f_ret1 (v := .int .i64 2) Try.results14 rfl ?_))))))
  exact ⟨congrArg (Value.int .i64) (by unfold chkM; rw [if_pos (by simp only [*, Bool.false_eq_true, false_or, true_or, or_true, not_false_eq_true, not_true_eq_false] <;> omega)]), E19⟩
 refine c_skip (hK20 _ _ (c_seq fun K27 hK27 => (c_region (t_assign rfl rfl rfl (t_nil' (hK27 _ _ (c_ret (f_ret1 (v := .int .i64 0) Try.results14 rfl ?_))))))))
 exact ⟨congrArg (Value.int .i64) (by unfold chkM; rw [if_neg (by simp only [*, Bool.false_eq_true, false_or, true_or, or_true, not_false_eq_true, not_true_eq_false] <;> omega)]), E19⟩

theorem isSurvey_c (x : Sur) (w0 : World) :
    CallsV Try.prog 61 [.agg #[.int .i64 x.book, .int .i64 x.lo, .int .i64 x.hi, .bool x.sealed]] w0 (fun v w' => v = .bool (okSur x) ∧ Ext w0 w') := by
 refine f_enter (N := 22) Try.func61 rfl rfl rfl (c_seq fun K1 hK1 => (c_region (t_box (cs := [.int .i64 x.book, .int .i64 x.lo, .int .i64 x.hi, .bool x.sealed]) rfl rfl rfl rfl (fun bk2 w3 ebk2 sbk2 B4 u5 => ?_))))
 have zu5 := u5.size
 refine t_assign rfl rfl rfl (t_nil' (hK1 _ _ (c_seq fun K7 hK7 => (c_region (t_field Try.underlying79 rfl Try.sizeOf3 (0) rfl rfl rfl rfl (t_load Try.isAgg3 rfl rfl rfl (B4.get rfl) (t_field Try.underlying79 rfl Try.sizeOf77 (1) rfl rfl rfl rfl (t_field Try.underlying77 rfl Try.sizeOf3 (1) rfl rfl rfl rfl (t_load Try.isAgg3 rfl rfl rfl (B4.get rfl) (t_field Try.underlying79 rfl Try.sizeOf77 (1) rfl rfl rfl rfl (t_field Try.underlying77 rfl Try.sizeOf3 (2) rfl rfl rfl rfl (t_load Try.isAgg3 rfl rfl rfl (B4.get rfl) (t_bslice (ps := [(0, .int .i64 x.book), (1, .int .i64 x.lo), (2, .int .i64 x.hi)]) (cs := [.int .i64 x.book, .int .i64 x.lo, .int .i64 x.hi]) (e := 3) rfl rfl ⟨rfl, rfl⟩ (fun w => by kernel_rfl) (fun bk8 w9 ebk8 sbk8 B10 u11 => ?_))))))))))))))
 have zu11 := u11.size
 refine t_call own40 rfl rfl rfl rfl (within3_v 0 1000000 x.book x.lo x.hi _ _ _ B10) (fun v13 w14 r16 => ?_)
 obtain ⟨rfl, u15⟩ := r16
 have zu15 := u15.size
 have E17 := (((Upd.refl (fun _ => False) w0).nx u5).nx u11).nx u15
 refine t_move rfl rfl rfl (t_splitp 13 rfl (fun g13 => ?_) (fun g13 => ?_))
 ·
  refine t_field Try.underlying79 rfl Try.sizeOf77 (1) rfl rfl rfl rfl (t_field Try.underlying77 rfl Try.sizeOf3 (1) rfl rfl rfl rfl ?_)
  have B18 := ((B4.kx u11).kx u15)
  refine t_load Try.isAgg3 rfl rfl rfl (B18.get rfl) (t_field Try.underlying79 rfl Try.sizeOf77 (1) rfl rfl rfl rfl (t_field Try.underlying77 rfl Try.sizeOf3 (2) rfl rfl rfl rfl (t_load Try.isAgg3 rfl rfl rfl (B18.get rfl) (t_cmp rfl rfl rfl rfl rfl (t_pick_t rfl rfl rfl rfl (t_assign rfl rfl rfl (t_nil' (hK7 _ _ (c_ret (f_ret1 (v := .bool (decide (x.lo ≤ x.hi))) Try.results61 rfl ?_))))))))))
  exact ⟨congrArg Value.bool (by rw [Bool.eq_iff_iff]; simp [okSur] <;> omega), E17⟩
 refine t_skip rfl rfl rfl (t_skip rfl rfl rfl (t_skip rfl rfl rfl (t_skip rfl rfl rfl (t_skip rfl rfl rfl (t_skip rfl rfl rfl (t_skip rfl rfl rfl (t_pick_f rfl rfl rfl rfl (t_assign rfl rfl rfl (t_nil' (hK7 _ _ (c_ret (f_ret1 (v := .bool false) Try.results61 rfl ?_))))))))))))
 exact ⟨congrArg Value.bool (by rw [Bool.eq_iff_iff]; simp [okSur] <;> omega), E17⟩

theorem badSur_c (x : Sur) (w0 : World) :
    CallsV Try.prog 60 [.agg #[.int .i64 x.book, .int .i64 x.lo, .int .i64 x.hi, .bool x.sealed]] w0 (fun v w' => v = .bool (!okSur x) ∧ Ext w0 w') := by
 refine f_enter (N := 6) Try.func60 rfl rfl rfl (c_seq fun K1 hK1 => (c_region (t_box (cs := [.int .i64 x.book, .int .i64 x.lo, .int .i64 x.hi, .bool x.sealed]) rfl rfl rfl rfl (fun bk2 w3 ebk2 sbk2 B4 u5 => ?_))))
 have zu5 := u5.size
 refine t_assign rfl rfl rfl (t_nil' (hK1 _ _ (c_seq fun K7 hK7 => (c_region (t_loadN (vs := [.int .i64 x.book, .int .i64 x.lo, .int .i64 x.hi, .bool x.sealed]) Try.isAgg79 Try.sizeOf79 rfl rfl rfl (B4.at.sub 0 4) rfl (t_call own61 rfl rfl rfl rfl (isSurvey_c x _) (fun v8 w9 r11 => ?_)))))))
 obtain ⟨rfl, u10⟩ := r11
 have zu10 := u10.size
 refine t_not rfl rfl rfl (t_assign rfl rfl rfl (t_nil' (hK7 _ _ (c_ret (f_ret1 (v := .bool (!(okSur x))) Try.results60 rfl ?_)))))
 exact ⟨rfl, (((Upd.refl (fun _ => False) w0).nx u5).nx u10)⟩

theorem isEvent_c (x : Ev) (w0 : World) :
    CallsV Try.prog 72 [.agg #[.int .i64 x.kind, .int .i64 x.minute, .int .i64 x.bill, .int .i64 x.frm, .int .i64 x.to, .int .i64 x.tons, .int .i64 x.port, .int .i64 x.sn]] w0 (fun v w' => v = .bool (okEv x) ∧ Ext w0 w') := by
 refine f_enter (N := 93) Try.func72 rfl rfl rfl (c_seq fun K1 hK1 => (c_region (t_box (cs := [.int .i64 x.kind, .int .i64 x.minute, .int .i64 x.bill, .int .i64 x.frm, .int .i64 x.to, .int .i64 x.tons, .int .i64 x.port, .int .i64 x.sn]) rfl rfl rfl rfl (fun bk2 w3 ebk2 sbk2 B4 u5 => ?_))))
 have zu5 := u5.size
 refine t_assign rfl rfl rfl (t_nil' (hK1 _ _ (c_cut (γ := Unit) (fun _x => [(1, .pointer (some ⟨bk2, 0, none⟩)), (3, .bool (okEv0 x))]) (fun _x w => Upd (fun _ => False) w3 w) (fun K8 hK8 => ?_) ?_)))
 ·
  refine c_region (t_field Try.underlying41 rfl Try.sizeOf3 (1) rfl rfl rfl rfl (t_load Try.isAgg3 rfl rfl rfl (B4.get rfl) (t_bslice (ps := [(0, .int .i64 x.minute)]) (cs := [.int .i64 x.minute]) (e := 3) rfl rfl ⟨rfl, rfl⟩ (fun w => by kernel_rfl) (fun bk11 w12 ebk11 sbk11 B13 u14 => ?_))))
  have zu14 := u14.size
  refine t_call own40 rfl rfl rfl rfl (within1_v 0 1000000 x.minute _ _ _ B13) (fun v16 w17 r19 => ?_)
  obtain ⟨rfl, u18⟩ := r19
  have zu18 := u18.size
  refine t_move rfl rfl rfl (t_splitp 11 rfl (fun g11 => ?_) (fun g11 => ?_))
  ·
   try simp only [okEv0, decide_eq_true_eq, decide_eq_false_iff_not] at g11
   refine t_field Try.underlying41 rfl Try.sizeOf3 (2) rfl rfl rfl rfl ?_
   have B21 := ((B4.kx u14).kx u18)
   refine t_load Try.isAgg3 rfl rfl rfl (B21.get rfl) (t_cmp rfl rfl rfl rfl rfl (t_pick_t rfl rfl rfl rfl (t_move rfl rfl rfl (t_splitp 16 rfl (fun g16 => ?_) (fun g16 => ?_)))))
   ·
    try simp only [okEv0, decide_eq_true_eq, decide_eq_false_iff_not] at g16
    refine t_field Try.underlying41 rfl Try.sizeOf3 (3) rfl rfl rfl rfl (t_load Try.isAgg3 rfl rfl rfl (B21.get rfl) (t_cmp rfl rfl rfl rfl rfl (t_pick_t rfl rfl rfl rfl (t_move rfl rfl rfl (t_splitp 21 rfl (fun g21 => ?_) (fun g21 => ?_))))))
    ·
     try simp only [okEv0, decide_eq_true_eq, decide_eq_false_iff_not] at g21
     refine t_field Try.underlying41 rfl Try.sizeOf3 (4) rfl rfl rfl rfl (t_load Try.isAgg3 rfl rfl rfl (B21.get rfl) (t_cmp rfl rfl rfl rfl rfl (t_pick_t rfl rfl rfl rfl (t_assign rfl rfl rfl (t_nil' ?_)))))
     exact hK8 () _ _ ⟨rfl, (congrArg some (congrArg Value.bool (by first | (simp [okEv0, *]; done) | (simp [okEv0]; omega)))), trivial⟩ (((Upd.refl _ _).next u14 (fun _ _ h => h.elim)).next u18 (fun _ _ h => h.elim))
    try simp only [okEv0, decide_eq_true_eq, decide_eq_false_iff_not] at g21
    refine t_skip rfl rfl rfl (t_skip rfl rfl rfl (t_skip rfl rfl rfl (t_pick_f rfl rfl rfl rfl (t_assign rfl rfl rfl (t_nil' ?_)))))
    exact hK8 () _ _ ⟨rfl, (congrArg some (congrArg Value.bool (by first | (simp [okEv0, *]; done) | (simp [okEv0]; omega)))), trivial⟩ (((Upd.refl _ _).next u14 (fun _ _ h => h.elim)).next u18 (fun _ _ h => h.elim))
   try simp only [okEv0, decide_eq_true_eq, decide_eq_false_iff_not] at g16
   refine t_skip rfl rfl rfl (t_skip rfl rfl rfl (t_skip rfl rfl rfl (t_pick_f rfl rfl rfl rfl (t_move rfl rfl rfl (t_skip rfl rfl rfl (t_skip rfl rfl rfl (t_skip rfl rfl rfl (t_pick_f rfl rfl rfl rfl (t_assign rfl rfl rfl (t_nil' ?_))))))))))
   exact hK8 () _ _ ⟨rfl, (congrArg some (congrArg Value.bool (by first | (simp [okEv0, *]; done) | (simp [okEv0]; omega)))), trivial⟩ (((Upd.refl _ _).next u14 (fun _ _ h => h.elim)).next u18 (fun _ _ h => h.elim))
  try simp only [okEv0, decide_eq_true_eq, decide_eq_false_iff_not] at g11
  refine t_skip rfl rfl rfl (t_skip rfl rfl rfl (t_skip rfl rfl rfl (t_pick_f rfl rfl rfl rfl (t_move rfl rfl rfl (t_skip rfl rfl rfl (t_skip rfl rfl rfl (t_skip rfl rfl rfl (t_pick_f rfl rfl rfl rfl (t_move rfl rfl rfl (t_skip rfl rfl rfl (t_skip rfl rfl rfl (t_skip rfl rfl rfl (t_pick_f rfl rfl rfl rfl (t_assign rfl rfl rfl (t_nil' ?_)))))))))))))))
  exact hK8 () _ _ ⟨rfl, (congrArg some (congrArg Value.bool (by first | (simp [okEv0, *]; done) | (simp [okEv0]; omega)))), trivial⟩ (((Upd.refl _ _).next u14 (fun _ _ h => h.elim)).next u18 (fun _ _ h => h.elim))
 intro _x w9 u10
 have zu10 := u10.size
 refine c_seq fun K23 hK23 => (c_region (t_field Try.underlying41 rfl Try.sizeOf3 (5) rfl rfl rfl rfl ?_))
 have B24 := (B4.kx u10)
 refine t_load Try.isAgg3 rfl rfl rfl (B24.get rfl) (t_bslice (ps := [(0, .int .i64 x.tons)]) (cs := [.int .i64 x.tons]) (e := 3) rfl rfl ⟨rfl, rfl⟩ (fun w => by kernel_rfl) (fun bk25 w26 ebk25 sbk25 B27 u28 => ?_))
 have zu28 := u28.size
 refine t_call own40 rfl rfl rfl rfl (within1_v 1 1000000 x.tons _ _ _ B27) (fun v30 w31 r33 => ?_)
 obtain ⟨rfl, u32⟩ := r33
 have zu32 := u32.size
 refine t_assign rfl rfl rfl (t_nil' (hK23 _ _ (c_seq fun K35 hK35 => (c_region (t_field Try.underlying41 rfl Try.sizeOf3 (6) rfl rfl rfl rfl ?_)))))
 have B36 := ((B24.kx u28).kx u32)
 refine t_load Try.isAgg3 rfl rfl rfl (B36.get rfl) (t_bslice (ps := [(0, .int .i64 x.port)]) (cs := [.int .i64 x.port]) (e := 3) rfl rfl ⟨rfl, rfl⟩ (fun w => by kernel_rfl) (fun bk37 w38 ebk37 sbk37 B39 u40 => ?_))
 have zu40 := u40.size
 refine t_call own40 rfl rfl rfl rfl (within1_v 0 99 x.port _ _ _ B39) (fun v42 w43 r45 => ?_)
 obtain ⟨rfl, u44⟩ := r45
 have zu44 := u44.size
 refine t_assign rfl rfl rfl (t_nil' (hK35 _ _ (c_seq fun K47 hK47 => (c_region (t_field Try.underlying41 rfl Try.sizeOf39 (0) rfl rfl rfl rfl ?_)))))
 have B48 := ((B36.kx u40).kx u44)
 refine t_load Try.isAgg39 rfl rfl rfl (B48.get rfl) (t_assign rfl rfl rfl (t_nil' (hK47 _ _ (c_seq fun K49 hK49 => (c_region (t_field Try.underlying41 rfl Try.sizeOf39 (0) rfl rfl rfl rfl (t_st (vs := [.int .i64 0]) Try.sizeOf39 rfl rfl rfl B48 rfl rfl rfl rfl (fun w50 sw50 B52 u51 => ?_))))))))
 have zu51 := u51.size
 have B52 : Blk w50 bk2 41 [.int .i64 0, .int .i64 x.minute, .int .i64 x.bill, .int .i64 x.frm, .int .i64 x.to, .int .i64 x.tons, .int .i64 x.port, .int .i64 x.sn] := B52
 refine t_field Try.underlying41 rfl Try.sizeOf3 (1) rfl rfl rfl rfl (t_st (vs := [.int .i64 0]) Try.sizeOf3 rfl rfl rfl B52 rfl rfl rfl rfl (fun w54 sw54 B56 u55 => ?_))
 have zu55 := u55.size
 have E57 := ((((((((Upd.refl (fun _ => False) w0).nx u5).nx u10).nx u28).nx u32).nx u40).nx u44).next u51 (fun i hi h => by omega)).next u55 (fun i hi h => by omega)
 have B56 : Blk w54 bk2 41 [.int .i64 0, .int .i64 0, .int .i64 x.bill, .int .i64 x.frm, .int .i64 x.to, .int .i64 x.tons, .int .i64 x.port, .int .i64 x.sn] := B56
 refine t_nil' (hK49 _ _ (c_seq fun K58 hK58 => (c_seq fun K59 hK59 => (c_region (t_move rfl rfl rfl (t_nil' (hK59 _ _ (c_block (c_seq fun K60 hK60 => (c_region (t_cmp rfl rfl rfl rfl rfl (t_assign rfl rfl rfl (t_nil' (hK60 _ _ (c_condp rfl (fun g39 => ?_) (fun g39 => ?_))))))))))))))))
 ·
  try simp only [okEv0, decide_eq_true_eq, decide_eq_false_iff_not] at g39
  refine c_seq fun K61 hK61 => (c_region (t_move rfl rfl rfl (t_move rfl rfl rfl (t_split 42 rfl (fun g42 => ?_) (fun g42 => ?_)))))
  ·
   try simp only [okEv0, decide_eq_true_eq, decide_eq_false_iff_not] at g42
   refine t_move rfl rfl rfl (t_pick_t rfl rfl rfl rfl (t_move rfl rfl rfl (t_splitp 45 rfl (fun g45 => ?_) (fun g45 => ?_))))
   ·
    try simp only [okEv0, decide_eq_true_eq, decide_eq_false_iff_not] at g45
    refine t_move rfl rfl rfl (t_pick_t rfl rfl rfl rfl (t_assign rfl rfl rfl (t_nil' (hK61 _ _ (c_region (t_field Try.underlying41 rfl Try.sizeOf3 (2) rfl rfl rfl rfl (t_st (vs := [.int .i64 0]) Try.sizeOf3 rfl rfl rfl B56 rfl rfl rfl rfl (fun w62 sw62 B64 u63 => ?_))))))))
    have zu63 := u63.size
    have B64 : Blk w62 bk2 41 [.int .i64 0, .int .i64 0, .int .i64 0, .int .i64 x.frm, .int .i64 x.to, .int .i64 x.tons, .int .i64 x.port, .int .i64 x.sn] := B64
    refine t_field Try.underlying41 rfl Try.sizeOf3 (4) rfl rfl rfl rfl (t_st (vs := [.int .i64 0]) Try.sizeOf3 rfl rfl rfl B64 rfl rfl rfl rfl (fun w66 sw66 B68 u67 => ?_))
    have zu67 := u67.size
    have B68 : Blk w66 bk2 41 [.int .i64 0, .int .i64 0, .int .i64 0, .int .i64 x.frm, .int .i64 0, .int .i64 x.tons, .int .i64 x.port, .int .i64 x.sn] := B68
    refine t_field Try.underlying41 rfl Try.sizeOf3 (5) rfl rfl rfl rfl (t_st (vs := [.int .i64 0]) Try.sizeOf3 rfl rfl rfl B68 rfl rfl rfl rfl (fun w70 sw70 B72 u71 => ?_))
    have zu71 := u71.size
    have B72 : Blk w70 bk2 41 [.int .i64 0, .int .i64 0, .int .i64 0, .int .i64 x.frm, .int .i64 0, .int .i64 0, .int .i64 x.port, .int .i64 x.sn] := B72
    refine t_field Try.underlying41 rfl Try.sizeOf3 (6) rfl rfl rfl rfl (t_st (vs := [.int .i64 0]) Try.sizeOf3 rfl rfl rfl B72 rfl rfl rfl rfl (fun w74 sw74 B76 u75 => ?_))
    have zu75 := u75.size
    have E77 := (((E57.next u63 (fun i hi h => by omega)).next u67 (fun i hi h => by omega)).next u71 (fun i hi h => by omega)).next u75 (fun i hi h => by omega)
    have B76 : Blk w74 bk2 41 [.int .i64 0, .int .i64 0, .int .i64 0, .int .i64 x.frm, .int .i64 0, .int .i64 0, .int .i64 0, .int .i64 x.sn] := B76
    refine t_nil' (hK58 _ _ (c_seq fun K78 hK78 => (c_region (t_move rfl rfl rfl (t_move rfl rfl rfl (t_splitp 88 rfl (fun g88 => ?_) (fun g88 => ?_)))))))
    ·
     try simp only [okEv0, decide_eq_true_eq, decide_eq_false_iff_not] at g88
     refine t_loadN (vs := [.int .i64 0, .int .i64 0, .int .i64 0, .int .i64 x.frm, .int .i64 0, .int .i64 0, .int .i64 0, .int .i64 x.sn]) Try.isAgg41 Try.sizeOf41 rfl rfl rfl (B76.at.sub 0 8) rfl (t_build (ps := []) (v := .agg #[.int .i64 0, .int .i64 0, .int .i64 0, .int .i64 0, .int .i64 0, .int .i64 0, .int .i64 0, .int .i64 0]) rfl rfl ⟨rfl, rfl⟩ (fun w => by kernel_rfl) (t_eqS (xs := [.int .i64 0, .int .i64 0, .int .i64 0, .int .i64 x.frm, .int .i64 0, .int .i64 0, .int .i64 0, .int .i64 x.sn]) (ys := [.int .i64 0, .int .i64 0, .int .i64 0, .int .i64 0, .int .i64 0, .int .i64 0, .int .i64 0, .int .i64 0]) (by kernel_rfl) (eqIn41 9998 0 0 0 x.frm 0 0 0 x.sn 0 0 0 0 0 0 0 0) rfl rfl rfl rfl (t_pick_t rfl rfl rfl rfl (t_assign rfl rfl rfl (t_nil' (hK78 _ _ (c_ret (f_ret1 (v := .bool (decide (0 = 0) && decide (0 = 0) && decide (0 = 0) && decide (x.frm = 0) && decide (0 = 0) && decide (0 = 0) && decide (0 = 0) && decide (x.sn = 0))) Try.results72 rfl ?_))))))))
     exact ⟨congrArg Value.bool (by rw [Bool.eq_iff_iff]; simp [okEv, okEv0, okTons, okPort] <;> omega), E77⟩
    try simp only [okEv0, decide_eq_true_eq, decide_eq_false_iff_not] at g88
    refine t_skip rfl rfl rfl (t_skip rfl rfl rfl (t_skip rfl rfl rfl (t_pick_f rfl rfl rfl rfl (t_assign rfl rfl rfl (t_nil' (hK78 _ _ (c_ret (f_ret1 (v := .bool false) Try.results72 rfl ?_))))))))
    exact ⟨congrArg Value.bool (by rw [Bool.eq_iff_iff]; simp [okEv, okEv0, okTons, okPort] <;> omega), E77⟩
   try simp only [okEv0, decide_eq_true_eq, decide_eq_false_iff_not] at g45
   refine t_skip rfl rfl rfl (t_pick_f rfl rfl rfl rfl (t_assign rfl rfl rfl (t_nil' (hK61 _ _ (c_region (t_field Try.underlying41 rfl Try.sizeOf3 (2) rfl rfl rfl rfl (t_st (vs := [.int .i64 0]) Try.sizeOf3 rfl rfl rfl B56 rfl rfl rfl rfl (fun w79 sw79 B81 u80 => ?_))))))))
   have zu80 := u80.size
   have B81 : Blk w79 bk2 41 [.int .i64 0, .int .i64 0, .int .i64 0, .int .i64 x.frm, .int .i64 x.to, .int .i64 x.tons, .int .i64 x.port, .int .i64 x.sn] := B81
   refine t_field Try.underlying41 rfl Try.sizeOf3 (4) rfl rfl rfl rfl (t_st (vs := [.int .i64 0]) Try.sizeOf3 rfl rfl rfl B81 rfl rfl rfl rfl (fun w83 sw83 B85 u84 => ?_))
   have zu84 := u84.size
   have B85 : Blk w83 bk2 41 [.int .i64 0, .int .i64 0, .int .i64 0, .int .i64 x.frm, .int .i64 0, .int .i64 x.tons, .int .i64 x.port, .int .i64 x.sn] := B85
   refine t_field Try.underlying41 rfl Try.sizeOf3 (5) rfl rfl rfl rfl (t_st (vs := [.int .i64 0]) Try.sizeOf3 rfl rfl rfl B85 rfl rfl rfl rfl (fun w87 sw87 B89 u88 => ?_))
   have zu88 := u88.size
   have B89 : Blk w87 bk2 41 [.int .i64 0, .int .i64 0, .int .i64 0, .int .i64 x.frm, .int .i64 0, .int .i64 0, .int .i64 x.port, .int .i64 x.sn] := B89
   refine t_field Try.underlying41 rfl Try.sizeOf3 (6) rfl rfl rfl rfl (t_st (vs := [.int .i64 0]) Try.sizeOf3 rfl rfl rfl B89 rfl rfl rfl rfl (fun w91 sw91 B93 u92 => ?_))
   have zu92 := u92.size
   refine t_nil' (hK58 _ _ (c_seq fun K95 hK95 => (c_region (t_move rfl rfl rfl (t_move rfl rfl rfl (t_skip rfl rfl rfl (t_skip rfl rfl rfl (t_skip rfl rfl rfl (t_pick_f rfl rfl rfl rfl (t_assign rfl rfl rfl (t_nil' (hK95 _ _ (c_ret (f_ret1 (v := .bool false) Try.results72 rfl ?_))))))))))))))
   exact ⟨congrArg Value.bool (by rw [Bool.eq_iff_iff]; simp [okEv, okEv0, okTons, okPort] <;> omega), ((((E57.next u80 (fun i hi h => by omega)).next u84 (fun i hi h => by omega)).next u88 (fun i hi h => by omega)).next u92 (fun i hi h => by omega))⟩
  try simp only [okEv0, decide_eq_true_eq, decide_eq_false_iff_not] at g42
  refine t_skip rfl rfl rfl (t_pick_f rfl rfl rfl rfl (t_move rfl rfl rfl (t_skip rfl rfl rfl (t_pick_f rfl rfl rfl rfl (t_assign rfl rfl rfl (t_nil' (hK61 _ _ (c_region (t_field Try.underlying41 rfl Try.sizeOf3 (2) rfl rfl rfl rfl (t_st (vs := [.int .i64 0]) Try.sizeOf3 rfl rfl rfl B56 rfl rfl rfl rfl (fun w96 sw96 B98 u97 => ?_)))))))))))
  have zu97 := u97.size
  have B98 : Blk w96 bk2 41 [.int .i64 0, .int .i64 0, .int .i64 0, .int .i64 x.frm, .int .i64 x.to, .int .i64 x.tons, .int .i64 x.port, .int .i64 x.sn] := B98
  refine t_field Try.underlying41 rfl Try.sizeOf3 (4) rfl rfl rfl rfl (t_st (vs := [.int .i64 0]) Try.sizeOf3 rfl rfl rfl B98 rfl rfl rfl rfl (fun w100 sw100 B102 u101 => ?_))
  have zu101 := u101.size
  have B102 : Blk w100 bk2 41 [.int .i64 0, .int .i64 0, .int .i64 0, .int .i64 x.frm, .int .i64 0, .int .i64 x.tons, .int .i64 x.port, .int .i64 x.sn] := B102
  refine t_field Try.underlying41 rfl Try.sizeOf3 (5) rfl rfl rfl rfl (t_st (vs := [.int .i64 0]) Try.sizeOf3 rfl rfl rfl B102 rfl rfl rfl rfl (fun w104 sw104 B106 u105 => ?_))
  have zu105 := u105.size
  have B106 : Blk w104 bk2 41 [.int .i64 0, .int .i64 0, .int .i64 0, .int .i64 x.frm, .int .i64 0, .int .i64 0, .int .i64 x.port, .int .i64 x.sn] := B106
  refine t_field Try.underlying41 rfl Try.sizeOf3 (6) rfl rfl rfl rfl (t_st (vs := [.int .i64 0]) Try.sizeOf3 rfl rfl rfl B106 rfl rfl rfl rfl (fun w108 sw108 B110 u109 => ?_))
  have zu109 := u109.size
  refine t_nil' (hK58 _ _ (c_seq fun K112 hK112 => (c_region (t_move rfl rfl rfl (t_move rfl rfl rfl (t_skip rfl rfl rfl (t_skip rfl rfl rfl (t_skip rfl rfl rfl (t_pick_f rfl rfl rfl rfl (t_assign rfl rfl rfl (t_nil' (hK112 _ _ (c_ret (f_ret1 (v := .bool false) Try.results72 rfl ?_))))))))))))))
  exact ⟨congrArg Value.bool (by rw [Bool.eq_iff_iff]; simp [okEv, okEv0, okTons, okPort] <;> omega), ((((E57.next u97 (fun i hi h => by omega)).next u101 (fun i hi h => by omega)).next u105 (fun i hi h => by omega)).next u109 (fun i hi h => by omega))⟩
 try simp only [okEv0, decide_eq_true_eq, decide_eq_false_iff_not] at g39
 refine c_seq fun K113 hK113 => (c_region (t_cmp rfl rfl rfl rfl rfl (t_assign rfl rfl rfl (t_nil' (hK113 _ _ (c_condp rfl (fun g52 => ?_) (fun g52 => ?_)))))))
 ·
  try simp only [okEv0, decide_eq_true_eq, decide_eq_false_iff_not] at g52
  refine c_seq fun K114 hK114 => (c_region (t_move rfl rfl rfl (t_move rfl rfl rfl (t_split 55 rfl (fun g55 => ?_) (fun g55 => ?_)))))
  ·
   try simp only [okEv0, decide_eq_true_eq, decide_eq_false_iff_not] at g55
   refine t_move rfl rfl rfl (t_pick_t rfl rfl rfl rfl (t_assign rfl rfl rfl (t_nil' (hK114 _ _ (c_region (t_field Try.underlying41 rfl Try.sizeOf3 (3) rfl rfl rfl rfl (t_st (vs := [.int .i64 0]) Try.sizeOf3 rfl rfl rfl B56 rfl rfl rfl rfl (fun w115 sw115 B117 u116 => ?_))))))))
   have zu116 := u116.size
   have B117 : Blk w115 bk2 41 [.int .i64 0, .int .i64 0, .int .i64 x.bill, .int .i64 0, .int .i64 x.to, .int .i64 x.tons, .int .i64 x.port, .int .i64 x.sn] := B117
   refine t_field Try.underlying41 rfl Try.sizeOf3 (4) rfl rfl rfl rfl (t_st (vs := [.int .i64 0]) Try.sizeOf3 rfl rfl rfl B117 rfl rfl rfl rfl (fun w119 sw119 B121 u120 => ?_))
   have zu120 := u120.size
   have B121 : Blk w119 bk2 41 [.int .i64 0, .int .i64 0, .int .i64 x.bill, .int .i64 0, .int .i64 0, .int .i64 x.tons, .int .i64 x.port, .int .i64 x.sn] := B121
   refine t_field Try.underlying41 rfl Try.sizeOf3 (5) rfl rfl rfl rfl (t_st (vs := [.int .i64 0]) Try.sizeOf3 rfl rfl rfl B121 rfl rfl rfl rfl (fun w123 sw123 B125 u124 => ?_))
   have zu124 := u124.size
   have E126 := ((E57.next u116 (fun i hi h => by omega)).next u120 (fun i hi h => by omega)).next u124 (fun i hi h => by omega)
   have B125 : Blk w123 bk2 41 [.int .i64 0, .int .i64 0, .int .i64 x.bill, .int .i64 0, .int .i64 0, .int .i64 0, .int .i64 x.port, .int .i64 x.sn] := B125
   refine t_nil' (hK58 _ _ (c_seq fun K127 hK127 => (c_region (t_move rfl rfl rfl (t_move rfl rfl rfl (t_splitp 88 rfl (fun g88 => ?_) (fun g88 => ?_)))))))
   ·
    try simp only [okEv0, decide_eq_true_eq, decide_eq_false_iff_not] at g88
    refine t_loadN (vs := [.int .i64 0, .int .i64 0, .int .i64 x.bill, .int .i64 0, .int .i64 0, .int .i64 0, .int .i64 x.port, .int .i64 x.sn]) Try.isAgg41 Try.sizeOf41 rfl rfl rfl (B125.at.sub 0 8) rfl (t_build (ps := []) (v := .agg #[.int .i64 0, .int .i64 0, .int .i64 0, .int .i64 0, .int .i64 0, .int .i64 0, .int .i64 0, .int .i64 0]) rfl rfl ⟨rfl, rfl⟩ (fun w => by kernel_rfl) (t_eqS (xs := [.int .i64 0, .int .i64 0, .int .i64 x.bill, .int .i64 0, .int .i64 0, .int .i64 0, .int .i64 x.port, .int .i64 x.sn]) (ys := [.int .i64 0, .int .i64 0, .int .i64 0, .int .i64 0, .int .i64 0, .int .i64 0, .int .i64 0, .int .i64 0]) (by kernel_rfl) (eqIn41 9998 0 0 x.bill 0 0 0 x.port x.sn 0 0 0 0 0 0 0 0) rfl rfl rfl rfl (t_pick_t rfl rfl rfl rfl (t_assign rfl rfl rfl (t_nil' (hK127 _ _ (c_ret (f_ret1 (v := .bool (decide (0 = 0) && decide (0 = 0) && decide (x.bill = 0) && decide (0 = 0) && decide (0 = 0) && decide (0 = 0) && decide (x.port = 0) && decide (x.sn = 0))) Try.results72 rfl ?_))))))))
    exact ⟨congrArg Value.bool (by rw [Bool.eq_iff_iff]; simp [okEv, okEv0, okTons, okPort] <;> omega), E126⟩
   try simp only [okEv0, decide_eq_true_eq, decide_eq_false_iff_not] at g88
   refine t_skip rfl rfl rfl (t_skip rfl rfl rfl (t_skip rfl rfl rfl (t_pick_f rfl rfl rfl rfl (t_assign rfl rfl rfl (t_nil' (hK127 _ _ (c_ret (f_ret1 (v := .bool false) Try.results72 rfl ?_))))))))
   exact ⟨congrArg Value.bool (by rw [Bool.eq_iff_iff]; simp [okEv, okEv0, okTons, okPort] <;> omega), E126⟩
  try simp only [okEv0, decide_eq_true_eq, decide_eq_false_iff_not] at g55
  refine t_skip rfl rfl rfl (t_pick_f rfl rfl rfl rfl (t_assign rfl rfl rfl (t_nil' (hK114 _ _ (c_region (t_field Try.underlying41 rfl Try.sizeOf3 (3) rfl rfl rfl rfl (t_st (vs := [.int .i64 0]) Try.sizeOf3 rfl rfl rfl B56 rfl rfl rfl rfl (fun w128 sw128 B130 u129 => ?_))))))))
  have zu129 := u129.size
  have B130 : Blk w128 bk2 41 [.int .i64 0, .int .i64 0, .int .i64 x.bill, .int .i64 0, .int .i64 x.to, .int .i64 x.tons, .int .i64 x.port, .int .i64 x.sn] := B130
  refine t_field Try.underlying41 rfl Try.sizeOf3 (4) rfl rfl rfl rfl (t_st (vs := [.int .i64 0]) Try.sizeOf3 rfl rfl rfl B130 rfl rfl rfl rfl (fun w132 sw132 B134 u133 => ?_))
  have zu133 := u133.size
  have B134 : Blk w132 bk2 41 [.int .i64 0, .int .i64 0, .int .i64 x.bill, .int .i64 0, .int .i64 0, .int .i64 x.tons, .int .i64 x.port, .int .i64 x.sn] := B134
  refine t_field Try.underlying41 rfl Try.sizeOf3 (5) rfl rfl rfl rfl (t_st (vs := [.int .i64 0]) Try.sizeOf3 rfl rfl rfl B134 rfl rfl rfl rfl (fun w136 sw136 B138 u137 => ?_))
  have zu137 := u137.size
  refine t_nil' (hK58 _ _ (c_seq fun K140 hK140 => (c_region (t_move rfl rfl rfl (t_move rfl rfl rfl (t_skip rfl rfl rfl (t_skip rfl rfl rfl (t_skip rfl rfl rfl (t_pick_f rfl rfl rfl rfl (t_assign rfl rfl rfl (t_nil' (hK140 _ _ (c_ret (f_ret1 (v := .bool false) Try.results72 rfl ?_))))))))))))))
  exact ⟨congrArg Value.bool (by rw [Bool.eq_iff_iff]; simp [okEv, okEv0, okTons, okPort] <;> omega), (((E57.next u129 (fun i hi h => by omega)).next u133 (fun i hi h => by omega)).next u137 (fun i hi h => by omega))⟩
 try simp only [okEv0, decide_eq_true_eq, decide_eq_false_iff_not] at g52
 refine c_seq fun K141 hK141 => (c_region (t_cmp rfl rfl rfl rfl rfl (t_assign rfl rfl rfl (t_nil' (hK141 _ _ (c_condp rfl (fun g61 => ?_) (fun g61 => ?_)))))))
 ·
  try simp only [okEv0, decide_eq_true_eq, decide_eq_false_iff_not] at g61
  refine c_seq fun K142 hK142 => (c_region (t_move rfl rfl rfl (t_move rfl rfl rfl (t_split 64 rfl (fun g64 => ?_) (fun g64 => ?_)))))
  ·
   try simp only [okEv0, decide_eq_true_eq, decide_eq_false_iff_not] at g64
   refine t_move rfl rfl rfl (t_pick_t rfl rfl rfl rfl (t_move rfl rfl rfl (t_splitp 67 rfl (fun g67 => ?_) (fun g67 => ?_))))
   ·
    try simp only [okEv0, decide_eq_true_eq, decide_eq_false_iff_not] at g67
    refine t_move rfl rfl rfl (t_pick_t rfl rfl rfl rfl (t_assign rfl rfl rfl (t_nil' (hK142 _ _ (c_region (t_field Try.underlying41 rfl Try.sizeOf3 (3) rfl rfl rfl rfl (t_st (vs := [.int .i64 0]) Try.sizeOf3 rfl rfl rfl B56 rfl rfl rfl rfl (fun w143 sw143 B145 u144 => ?_))))))))
    have zu144 := u144.size
    have B145 : Blk w143 bk2 41 [.int .i64 0, .int .i64 0, .int .i64 x.bill, .int .i64 0, .int .i64 x.to, .int .i64 x.tons, .int .i64 x.port, .int .i64 x.sn] := B145
    refine t_field Try.underlying41 rfl Try.sizeOf3 (5) rfl rfl rfl rfl (t_st (vs := [.int .i64 0]) Try.sizeOf3 rfl rfl rfl B145 rfl rfl rfl rfl (fun w147 sw147 B149 u148 => ?_))
    have zu148 := u148.size
    have B149 : Blk w147 bk2 41 [.int .i64 0, .int .i64 0, .int .i64 x.bill, .int .i64 0, .int .i64 x.to, .int .i64 0, .int .i64 x.port, .int .i64 x.sn] := B149
    refine t_field Try.underlying41 rfl Try.sizeOf3 (6) rfl rfl rfl rfl (t_st (vs := [.int .i64 0]) Try.sizeOf3 rfl rfl rfl B149 rfl rfl rfl rfl (fun w151 sw151 B153 u152 => ?_))
    have zu152 := u152.size
    have E154 := ((E57.next u144 (fun i hi h => by omega)).next u148 (fun i hi h => by omega)).next u152 (fun i hi h => by omega)
    have B153 : Blk w151 bk2 41 [.int .i64 0, .int .i64 0, .int .i64 x.bill, .int .i64 0, .int .i64 x.to, .int .i64 0, .int .i64 0, .int .i64 x.sn] := B153
    refine t_nil' (hK58 _ _ (c_seq fun K155 hK155 => (c_region (t_move rfl rfl rfl (t_move rfl rfl rfl (t_splitp 88 rfl (fun g88 => ?_) (fun g88 => ?_)))))))
    ·
     try simp only [okEv0, decide_eq_true_eq, decide_eq_false_iff_not] at g88
     refine t_loadN (vs := [.int .i64 0, .int .i64 0, .int .i64 x.bill, .int .i64 0, .int .i64 x.to, .int .i64 0, .int .i64 0, .int .i64 x.sn]) Try.isAgg41 Try.sizeOf41 rfl rfl rfl (B153.at.sub 0 8) rfl (t_build (ps := []) (v := .agg #[.int .i64 0, .int .i64 0, .int .i64 0, .int .i64 0, .int .i64 0, .int .i64 0, .int .i64 0, .int .i64 0]) rfl rfl ⟨rfl, rfl⟩ (fun w => by kernel_rfl) (t_eqS (xs := [.int .i64 0, .int .i64 0, .int .i64 x.bill, .int .i64 0, .int .i64 x.to, .int .i64 0, .int .i64 0, .int .i64 x.sn]) (ys := [.int .i64 0, .int .i64 0, .int .i64 0, .int .i64 0, .int .i64 0, .int .i64 0, .int .i64 0, .int .i64 0]) (by kernel_rfl) (eqIn41 9998 0 0 x.bill 0 x.to 0 0 x.sn 0 0 0 0 0 0 0 0) rfl rfl rfl rfl (t_pick_t rfl rfl rfl rfl (t_assign rfl rfl rfl (t_nil' (hK155 _ _ (c_ret (f_ret1 (v := .bool (decide (0 = 0) && decide (0 = 0) && decide (x.bill = 0) && decide (0 = 0) && decide (x.to = 0) && decide (0 = 0) && decide (0 = 0) && decide (x.sn = 0))) Try.results72 rfl ?_))))))))
     exact ⟨congrArg Value.bool (by rw [Bool.eq_iff_iff]; simp [okEv, okEv0, okTons, okPort] <;> omega), E154⟩
    try simp only [okEv0, decide_eq_true_eq, decide_eq_false_iff_not] at g88
    refine t_skip rfl rfl rfl (t_skip rfl rfl rfl (t_skip rfl rfl rfl (t_pick_f rfl rfl rfl rfl (t_assign rfl rfl rfl (t_nil' (hK155 _ _ (c_ret (f_ret1 (v := .bool false) Try.results72 rfl ?_))))))))
    exact ⟨congrArg Value.bool (by rw [Bool.eq_iff_iff]; simp [okEv, okEv0, okTons, okPort] <;> omega), E154⟩
   try simp only [okEv0, decide_eq_true_eq, decide_eq_false_iff_not] at g67
   refine t_skip rfl rfl rfl (t_pick_f rfl rfl rfl rfl (t_assign rfl rfl rfl (t_nil' (hK142 _ _ (c_region (t_field Try.underlying41 rfl Try.sizeOf3 (3) rfl rfl rfl rfl (t_st (vs := [.int .i64 0]) Try.sizeOf3 rfl rfl rfl B56 rfl rfl rfl rfl (fun w156 sw156 B158 u157 => ?_))))))))
   have zu157 := u157.size
   have B158 : Blk w156 bk2 41 [.int .i64 0, .int .i64 0, .int .i64 x.bill, .int .i64 0, .int .i64 x.to, .int .i64 x.tons, .int .i64 x.port, .int .i64 x.sn] := B158
   refine t_field Try.underlying41 rfl Try.sizeOf3 (5) rfl rfl rfl rfl (t_st (vs := [.int .i64 0]) Try.sizeOf3 rfl rfl rfl B158 rfl rfl rfl rfl (fun w160 sw160 B162 u161 => ?_))
   have zu161 := u161.size
   have B162 : Blk w160 bk2 41 [.int .i64 0, .int .i64 0, .int .i64 x.bill, .int .i64 0, .int .i64 x.to, .int .i64 0, .int .i64 x.port, .int .i64 x.sn] := B162
   refine t_field Try.underlying41 rfl Try.sizeOf3 (6) rfl rfl rfl rfl (t_st (vs := [.int .i64 0]) Try.sizeOf3 rfl rfl rfl B162 rfl rfl rfl rfl (fun w164 sw164 B166 u165 => ?_))
   have zu165 := u165.size
   refine t_nil' (hK58 _ _ (c_seq fun K168 hK168 => (c_region (t_move rfl rfl rfl (t_move rfl rfl rfl (t_skip rfl rfl rfl (t_skip rfl rfl rfl (t_skip rfl rfl rfl (t_pick_f rfl rfl rfl rfl (t_assign rfl rfl rfl (t_nil' (hK168 _ _ (c_ret (f_ret1 (v := .bool false) Try.results72 rfl ?_))))))))))))))
   exact ⟨congrArg Value.bool (by rw [Bool.eq_iff_iff]; simp [okEv, okEv0, okTons, okPort] <;> omega), (((E57.next u157 (fun i hi h => by omega)).next u161 (fun i hi h => by omega)).next u165 (fun i hi h => by omega))⟩
  try simp only [okEv0, decide_eq_true_eq, decide_eq_false_iff_not] at g64
  refine t_skip rfl rfl rfl (t_pick_f rfl rfl rfl rfl (t_move rfl rfl rfl (t_skip rfl rfl rfl (t_pick_f rfl rfl rfl rfl (t_assign rfl rfl rfl (t_nil' (hK142 _ _ (c_region (t_field Try.underlying41 rfl Try.sizeOf3 (3) rfl rfl rfl rfl (t_st (vs := [.int .i64 0]) Try.sizeOf3 rfl rfl rfl B56 rfl rfl rfl rfl (fun w169 sw169 B171 u170 => ?_)))))))))))
  have zu170 := u170.size
  have B171 : Blk w169 bk2 41 [.int .i64 0, .int .i64 0, .int .i64 x.bill, .int .i64 0, .int .i64 x.to, .int .i64 x.tons, .int .i64 x.port, .int .i64 x.sn] := B171
  refine t_field Try.underlying41 rfl Try.sizeOf3 (5) rfl rfl rfl rfl (t_st (vs := [.int .i64 0]) Try.sizeOf3 rfl rfl rfl B171 rfl rfl rfl rfl (fun w173 sw173 B175 u174 => ?_))
  have zu174 := u174.size
  have B175 : Blk w173 bk2 41 [.int .i64 0, .int .i64 0, .int .i64 x.bill, .int .i64 0, .int .i64 x.to, .int .i64 0, .int .i64 x.port, .int .i64 x.sn] := B175
  refine t_field Try.underlying41 rfl Try.sizeOf3 (6) rfl rfl rfl rfl (t_st (vs := [.int .i64 0]) Try.sizeOf3 rfl rfl rfl B175 rfl rfl rfl rfl (fun w177 sw177 B179 u178 => ?_))
  have zu178 := u178.size
  refine t_nil' (hK58 _ _ (c_seq fun K181 hK181 => (c_region (t_move rfl rfl rfl (t_move rfl rfl rfl (t_skip rfl rfl rfl (t_skip rfl rfl rfl (t_skip rfl rfl rfl (t_pick_f rfl rfl rfl rfl (t_assign rfl rfl rfl (t_nil' (hK181 _ _ (c_ret (f_ret1 (v := .bool false) Try.results72 rfl ?_))))))))))))))
  exact ⟨congrArg Value.bool (by rw [Bool.eq_iff_iff]; simp [okEv, okEv0, okTons, okPort] <;> omega), (((E57.next u170 (fun i hi h => by omega)).next u174 (fun i hi h => by omega)).next u178 (fun i hi h => by omega))⟩
 try simp only [okEv0, decide_eq_true_eq, decide_eq_false_iff_not] at g61
 refine c_seq fun K182 hK182 => (c_region (t_cmp rfl rfl rfl rfl rfl (t_assign rfl rfl rfl (t_nil' (hK182 _ _ (c_condp rfl (fun g73 => ?_) (fun g73 => ?_)))))))
 ·
  try simp only [okEv0, decide_eq_true_eq, decide_eq_false_iff_not] at g73
  refine c_seq fun K183 hK183 => (c_region (t_move rfl rfl rfl (t_move rfl rfl rfl (t_split 76 rfl (fun g76 => ?_) (fun g76 => ?_)))))
  ·
   try simp only [okEv0, decide_eq_true_eq, decide_eq_false_iff_not] at g76
   refine t_field Try.underlying41 rfl Try.sizeOf3 (7) rfl rfl rfl rfl (t_load Try.isAgg3 rfl rfl rfl (B56.get rfl) (t_bslice (ps := [(0, .int .i64 x.sn)]) (cs := [.int .i64 x.sn]) (e := 3) rfl rfl ⟨rfl, rfl⟩ (fun w => by kernel_rfl) (fun bk184 w185 ebk184 sbk184 B186 u187 => ?_)))
   have zu187 := u187.size
   refine t_call own40 rfl rfl rfl rfl (within1_v 1 1000000 x.sn _ _ _ B186) (fun v189 w190 r192 => ?_)
   obtain ⟨rfl, u191⟩ := r192
   have zu191 := u191.size
   refine t_pick_t rfl rfl rfl rfl (t_assign rfl rfl rfl (t_nil' (hK183 _ _ (c_region (t_field Try.underlying41 rfl Try.sizeOf3 (4) rfl rfl rfl rfl ?_)))))
   have B194 := ((B56.kx u187).kx u191)
   refine t_st (vs := [.int .i64 0]) Try.sizeOf3 rfl rfl rfl B194 rfl rfl rfl rfl (fun w195 sw195 B197 u196 => ?_)
   have zu196 := u196.size
   have B197 : Blk w195 bk2 41 [.int .i64 0, .int .i64 0, .int .i64 x.bill, .int .i64 x.frm, .int .i64 0, .int .i64 x.tons, .int .i64 x.port, .int .i64 x.sn] := B197
   refine t_field Try.underlying41 rfl Try.sizeOf3 (7) rfl rfl rfl rfl (t_st (vs := [.int .i64 0]) Try.sizeOf3 rfl rfl rfl B197 rfl rfl rfl rfl (fun w199 sw199 B201 u200 => ?_))
   have zu200 := u200.size
   have E202 := (((E57.nx u187).nx u191).next u196 (fun i hi h => by omega)).next u200 (fun i hi h => by omega)
   have B201 : Blk w199 bk2 41 [.int .i64 0, .int .i64 0, .int .i64 x.bill, .int .i64 x.frm, .int .i64 0, .int .i64 x.tons, .int .i64 x.port, .int .i64 0] := B201
   refine t_nil' (hK58 _ _ (c_seq fun K203 hK203 => (c_region (t_move rfl rfl rfl (t_move rfl rfl rfl (t_splitp 88 rfl (fun g88 => ?_) (fun g88 => ?_)))))))
   ·
    try simp only [okEv0, decide_eq_true_eq, decide_eq_false_iff_not] at g88
    refine t_loadN (vs := [.int .i64 0, .int .i64 0, .int .i64 x.bill, .int .i64 x.frm, .int .i64 0, .int .i64 x.tons, .int .i64 x.port, .int .i64 0]) Try.isAgg41 Try.sizeOf41 rfl rfl rfl (B201.at.sub 0 8) rfl (t_build (ps := []) (v := .agg #[.int .i64 0, .int .i64 0, .int .i64 0, .int .i64 0, .int .i64 0, .int .i64 0, .int .i64 0, .int .i64 0]) rfl rfl ⟨rfl, rfl⟩ (fun w => by kernel_rfl) (t_eqS (xs := [.int .i64 0, .int .i64 0, .int .i64 x.bill, .int .i64 x.frm, .int .i64 0, .int .i64 x.tons, .int .i64 x.port, .int .i64 0]) (ys := [.int .i64 0, .int .i64 0, .int .i64 0, .int .i64 0, .int .i64 0, .int .i64 0, .int .i64 0, .int .i64 0]) (by kernel_rfl) (eqIn41 9998 0 0 x.bill x.frm 0 x.tons x.port 0 0 0 0 0 0 0 0 0) rfl rfl rfl rfl (t_pick_t rfl rfl rfl rfl (t_assign rfl rfl rfl (t_nil' (hK203 _ _ (c_ret (f_ret1 (v := .bool (decide (0 = 0) && decide (0 = 0) && decide (x.bill = 0) && decide (x.frm = 0) && decide (0 = 0) && decide (x.tons = 0) && decide (x.port = 0) && decide (0 = 0))) Try.results72 rfl ?_))))))))
    exact ⟨congrArg Value.bool (by rw [Bool.eq_iff_iff]; simp [okEv, okEv0, okTons, okPort] <;> omega), E202⟩
   try simp only [okEv0, decide_eq_true_eq, decide_eq_false_iff_not] at g88
   refine t_skip rfl rfl rfl (t_skip rfl rfl rfl (t_skip rfl rfl rfl (t_pick_f rfl rfl rfl rfl (t_assign rfl rfl rfl (t_nil' (hK203 _ _ (c_ret (f_ret1 (v := .bool false) Try.results72 rfl ?_))))))))
   exact ⟨congrArg Value.bool (by rw [Bool.eq_iff_iff]; simp [okEv, okEv0, okTons, okPort] <;> omega), E202⟩
  try simp only [okEv0, decide_eq_true_eq, decide_eq_false_iff_not] at g76
  refine t_skip rfl rfl rfl (t_skip rfl rfl rfl (t_skip rfl rfl rfl (t_skip rfl rfl rfl (t_pick_f rfl rfl rfl rfl (t_assign rfl rfl rfl (t_nil' (hK183 _ _ (c_region (t_field Try.underlying41 rfl Try.sizeOf3 (4) rfl rfl rfl rfl (t_st (vs := [.int .i64 0]) Try.sizeOf3 rfl rfl rfl B56 rfl rfl rfl rfl (fun w204 sw204 B206 u205 => ?_)))))))))))
  have zu205 := u205.size
  have B206 : Blk w204 bk2 41 [.int .i64 0, .int .i64 0, .int .i64 x.bill, .int .i64 x.frm, .int .i64 0, .int .i64 x.tons, .int .i64 x.port, .int .i64 x.sn] := B206
  refine t_field Try.underlying41 rfl Try.sizeOf3 (7) rfl rfl rfl rfl (t_st (vs := [.int .i64 0]) Try.sizeOf3 rfl rfl rfl B206 rfl rfl rfl rfl (fun w208 sw208 B210 u209 => ?_))
  have zu209 := u209.size
  refine t_nil' (hK58 _ _ (c_seq fun K212 hK212 => (c_region (t_move rfl rfl rfl (t_move rfl rfl rfl (t_skip rfl rfl rfl (t_skip rfl rfl rfl (t_skip rfl rfl rfl (t_pick_f rfl rfl rfl rfl (t_assign rfl rfl rfl (t_nil' (hK212 _ _ (c_ret (f_ret1 (v := .bool false) Try.results72 rfl ?_))))))))))))))
  exact ⟨congrArg Value.bool (by rw [Bool.eq_iff_iff]; simp [okEv, okEv0, okTons, okPort] <;> omega), ((E57.next u205 (fun i hi h => by omega)).next u209 (fun i hi h => by omega))⟩
 try simp only [okEv0, decide_eq_true_eq, decide_eq_false_iff_not] at g73
 refine c_seq fun K213 hK213 => (c_region (t_cmp rfl rfl rfl rfl rfl (t_assign rfl rfl rfl (t_nil' (hK213 _ _ (c_condp rfl (fun g84 => ?_) (fun g84 => ?_)))))))
 ·
  try simp only [okEv0, decide_eq_true_eq, decide_eq_false_iff_not] at g84
  refine c_region (t_field Try.underlying41 rfl Try.sizeOf3 (3) rfl rfl rfl rfl (t_st (vs := [.int .i64 0]) Try.sizeOf3 rfl rfl rfl B56 rfl rfl rfl rfl (fun w214 sw214 B216 u215 => ?_)))
  have zu215 := u215.size
  have E217 := E57.next u215 (fun i hi h => by omega)
  have B216 : Blk w214 bk2 41 [.int .i64 0, .int .i64 0, .int .i64 x.bill, .int .i64 0, .int .i64 x.to, .int .i64 x.tons, .int .i64 x.port, .int .i64 x.sn] := B216
  refine t_nil' (hK58 _ _ (c_seq fun K218 hK218 => (c_region (t_move rfl rfl rfl (t_move rfl rfl rfl (t_split 88 rfl (fun g88 => ?_) (fun g88 => ?_)))))))
  ·
   try simp only [okEv0, decide_eq_true_eq, decide_eq_false_iff_not] at g88
   refine t_loadN (vs := [.int .i64 0, .int .i64 0, .int .i64 x.bill, .int .i64 0, .int .i64 x.to, .int .i64 x.tons, .int .i64 x.port, .int .i64 x.sn]) Try.isAgg41 Try.sizeOf41 rfl rfl rfl (B216.at.sub 0 8) rfl (t_build (ps := []) (v := .agg #[.int .i64 0, .int .i64 0, .int .i64 0, .int .i64 0, .int .i64 0, .int .i64 0, .int .i64 0, .int .i64 0]) rfl rfl ⟨rfl, rfl⟩ (fun w => by kernel_rfl) (t_eqS (xs := [.int .i64 0, .int .i64 0, .int .i64 x.bill, .int .i64 0, .int .i64 x.to, .int .i64 x.tons, .int .i64 x.port, .int .i64 x.sn]) (ys := [.int .i64 0, .int .i64 0, .int .i64 0, .int .i64 0, .int .i64 0, .int .i64 0, .int .i64 0, .int .i64 0]) (by kernel_rfl) (eqIn41 9998 0 0 x.bill 0 x.to x.tons x.port x.sn 0 0 0 0 0 0 0 0) rfl rfl rfl rfl (t_pick_t rfl rfl rfl rfl (t_assign rfl rfl rfl (t_nil' (hK218 _ _ (c_ret (f_ret1 (v := .bool (decide (0 = 0) && decide (0 = 0) && decide (x.bill = 0) && decide (0 = 0) && decide (x.to = 0) && decide (x.tons = 0) && decide (x.port = 0) && decide (x.sn = 0))) Try.results72 rfl ?_))))))))
   exact ⟨congrArg Value.bool (by rw [Bool.eq_iff_iff]; simp [okEv, okEv0, okTons, okPort] <;> omega), E217⟩
  try simp only [okEv0, decide_eq_true_eq, decide_eq_false_iff_not] at g88
  refine t_skip rfl rfl rfl (t_skip rfl rfl rfl (t_skip rfl rfl rfl (t_pick_f rfl rfl rfl rfl (t_assign rfl rfl rfl (t_nil' (hK218 _ _ (c_ret (f_ret1 (v := .bool false) Try.results72 rfl ?_))))))))
  exact ⟨congrArg Value.bool (by rw [Bool.eq_iff_iff]; simp [okEv, okEv0, okTons, okPort] <;> omega), E217⟩
 try simp only [okEv0, decide_eq_true_eq, decide_eq_false_iff_not] at g84
 refine c_seq fun K219 hK219 => (c_region (t_assign rfl rfl rfl (t_nil' (hK219 _ _ (c_ret (f_ret1 (v := .bool false) Try.results72 rfl ?_))))))
 exact ⟨congrArg Value.bool (by rw [Bool.eq_iff_iff]; simp [okEv, okEv0, okTons, okPort] <;> omega), E57⟩

theorem badEv_c (x : Ev) (w0 : World) :
    CallsV Try.prog 71 [.agg #[.int .i64 x.kind, .int .i64 x.minute, .int .i64 x.bill, .int .i64 x.frm, .int .i64 x.to, .int .i64 x.tons, .int .i64 x.port, .int .i64 x.sn]] w0 (fun v w' => v = .bool (!okEv x) ∧ Ext w0 w') := by
 refine f_enter (N := 6) Try.func71 rfl rfl rfl (c_seq fun K1 hK1 => (c_region (t_box (cs := [.int .i64 x.kind, .int .i64 x.minute, .int .i64 x.bill, .int .i64 x.frm, .int .i64 x.to, .int .i64 x.tons, .int .i64 x.port, .int .i64 x.sn]) rfl rfl rfl rfl (fun bk2 w3 ebk2 sbk2 B4 u5 => ?_))))
 have zu5 := u5.size
 refine t_assign rfl rfl rfl (t_nil' (hK1 _ _ (c_seq fun K7 hK7 => (c_region (t_loadN (vs := [.int .i64 x.kind, .int .i64 x.minute, .int .i64 x.bill, .int .i64 x.frm, .int .i64 x.to, .int .i64 x.tons, .int .i64 x.port, .int .i64 x.sn]) Try.isAgg41 Try.sizeOf41 rfl rfl rfl (B4.at.sub 0 8) rfl (t_call own72 rfl rfl rfl rfl (isEvent_c x _) (fun v8 w9 r11 => ?_)))))))
 obtain ⟨rfl, u10⟩ := r11
 have zu10 := u10.size
 refine t_not rfl rfl rfl (t_assign rfl rfl rfl (t_nil' (hK7 _ _ (c_ret (f_ret1 (v := .bool (!(okEv x))) Try.results71 rfl ?_)))))
 exact ⟨rfl, (((Upd.refl (fun _ => False) w0).nx u5).nx u10)⟩


end Go.Proofs.Ytblkphbblkncdaa
