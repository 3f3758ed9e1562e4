/-
  Contracts of the small functions of package trace. Conditions: none.
-/
import Derived.Test.YtgkkgpenmppjcaaAcc
import Derived.Test.YtgkkgpenmppjcaaEq
import Derived.Test.YtgkkgpenmppjcaaProg
namespace Go.Proofs.Ytgkkgpenmppjcaa
open Go Go.RowKit

theorem any_snoc {α : Type} [Inhabited α] {p : α → Bool} {xs : List α} {k : Nat} (hk : k < xs.length) (h : (xs.take k).any p = false) (hx : p (nth xs k) = false) : (xs.take (k + 1)).any p = false := by
  rw [take_nth hk, List.any_append, h]; simp [hx]
theorem any_hit {α : Type} [Inhabited α] {p : α → Bool} {xs : List α} {k : Nat} (hk : k < xs.length) (hx : p (nth xs k) = true) : decide ((0 : Int) ≤ (k : Int)) = xs.any p := by
  have : xs.any p = true := List.any_eq_true.2 ⟨nth xs k, nth_mem hk, hx⟩
  rw [this]; simp
theorem any_none {α : Type} {p : α → Bool} {xs : List α} {k : Nat} (hk : xs.length ≤ k) (h : (xs.take k).any p = false) : decide ((0 : Int) ≤ -1) = xs.any p := by
  rw [List.take_of_length_le hk] at h; rw [h]; decide
theorem not_any_out (lo hi : Int) (xs : List Int) : (!(xs.any fun n => decide (n < lo ∨ hi < n))) = decide (∀ n ∈ xs, lo ≤ n ∧ n ≤ hi) := by
  rw [Bool.eq_iff_iff]
  simp only [Bool.not_eq_true', List.any_eq_false, decide_eq_true_eq]
  exact ⟨fun h n hn => by have := h n hn; omega, fun h n hn => by have := h n hn; omega⟩
def encI (n : Int) : List Value := [.int .i64 n]
theorem SlI.own {w : World} {b : Nat} {t : TypeId} {xs : List Int} (h : Blk w b t (xs.map (Value.int .i64))) : Sl encI 1 w (some ⟨b, 0, none⟩) b 0 xs :=
  ⟨fun _ => rfl, fun _ => h.lt, fun i hi j v hv => by
    cases j with
    | zero =>
      rw [nth_eq hi] at hv
      simp [encI] at hv
      subst hv
      exact h.get (off := 0 + i * 1 + 0) (by simp [hi])
    | succ j => simp [encI] at hv⟩
structure Bil where
  tons : Int
  frm : Int
  to : Int
instance : Inhabited Bil := ⟨⟨default, default, default⟩⟩
structure Hld where
  hull : Int
  cap : Int
instance : Inhabited Hld := ⟨⟨default, default⟩⟩
structure Ev where
  kind : Int
  minute : Int
  bill : Int
  frm : Int
  to : Int
  tons : Int
  port : Int
  sn : Int
instance : Inhabited Ev := ⟨⟨default, default, default, default, default, default, default, default⟩⟩
structure Sur where
  book : Int
  lo : Int
  hi : Int
  sealed : Bool
instance : Inhabited Sur := ⟨⟨default, default, default, default⟩⟩
def encBil (x : Bil) : List Value := [.int .i64 x.tons, .int .i64 x.frm, .int .i64 x.to]
def encHld (x : Hld) : List Value := [.int .i64 x.hull, .int .i64 x.cap]
def encEv (x : Ev) : List Value := [.int .i64 x.kind, .int .i64 x.minute, .int .i64 x.bill, .int .i64 x.frm, .int .i64 x.to, .int .i64 x.tons, .int .i64 x.port, .int .i64 x.sn]
def encSur (x : Sur) : List Value := [.int .i64 x.book, .int .i64 x.lo, .int .i64 x.hi, .bool x.sealed]
def okBil (b : Bil) : Bool := decide ((1 ≤ b.tons ∧ b.tons ≤ 1000000) ∧ ((0 ≤ b.frm ∧ b.frm ≤ 99) ∧ (0 ≤ b.to ∧ b.to ≤ 99)))
def okHld (h : Hld) : Bool := decide ((0 ≤ h.hull ∧ h.hull ≤ 19) ∧ (0 ≤ h.cap ∧ h.cap ≤ 1000000))
def chkM (bs : List Bil) (hs : List Hld) : Int := if (bs.any fun b => !okBil b) = true ∨ (hs.any fun h => !okHld h) = true ∨ 30 < bs.length ∨ 20 < hs.length then 2 else 0
def okEv0 (x : Ev) : Bool := decide ((0 ≤ x.minute ∧ x.minute ≤ 1000000) ∧ 0 ≤ x.bill ∧ 0 ≤ x.frm ∧ 0 ≤ x.to)
def okTons (x : Ev) : Bool := decide (1 ≤ x.tons ∧ x.tons ≤ 1000000)
def okPort (x : Ev) : Bool := decide (0 ≤ x.port ∧ x.port ≤ 99)
/-- A valid event. -/
def okEv (x : Ev) : Bool := okEv0 x && (
  (decide (x.kind = 1) && okTons x && okPort x && decide (x.frm = 0 ∧ x.sn = 0)) ||
  (decide (x.kind = 2) && okTons x && decide (x.bill = 0 ∧ x.port = 0 ∧ x.sn = 0)) ||
  (decide (x.kind = 3) && okTons x && okPort x && decide (x.bill = 0 ∧ x.to = 0 ∧ x.sn = 0)) ||
  (decide (x.kind = 4) && decide (1 ≤ x.sn ∧ x.sn ≤ 1000000) && decide (x.bill = 0 ∧ x.frm = 0 ∧ x.tons = 0 ∧ x.port = 0)) ||
  (decide (x.kind = 5) && decide (x.bill = 0 ∧ x.to = 0 ∧ x.tons = 0 ∧ x.port = 0 ∧ x.sn = 0)))
def okSur (x : Sur) : Bool := decide (((0 ≤ x.book ∧ x.book ≤ 1000000) ∧ (0 ≤ x.lo ∧ x.lo ≤ 1000000) ∧ (0 ≤ x.hi ∧ x.hi ≤ 1000000)) ∧ x.lo ≤ x.hi)

theorem follows : Try.prog.follows .mixedOrders = true := by kernel_rfl

theorem own14 : Own Try.prog 14 := ⟨Try.f14, Try.func14, by kernel_rfl, by kernel_rfl⟩
theorem own38 : Own Try.prog 38 := ⟨Try.f38, Try.func38, by kernel_rfl, by kernel_rfl⟩
theorem own39 : Own Try.prog 39 := ⟨Try.f39, Try.func39, by kernel_rfl, by kernel_rfl⟩
theorem own40 : Own Try.prog 40 := ⟨Try.f40, Try.func40, by kernel_rfl, by kernel_rfl⟩
theorem own41 : Own Try.prog 41 := ⟨Try.f41, Try.func41, by kernel_rfl, by kernel_rfl⟩
theorem own42 : Own Try.prog 42 := ⟨Try.f42, Try.func42, by kernel_rfl, by kernel_rfl⟩
theorem own59 : Own Try.prog 59 := ⟨Try.f59, Try.func59, by kernel_rfl, by kernel_rfl⟩
theorem own60 : Own Try.prog 60 := ⟨Try.f60, Try.func60, by kernel_rfl, by kernel_rfl⟩
theorem own61 : Own Try.prog 61 := ⟨Try.f61, Try.func61, by kernel_rfl, by kernel_rfl⟩
theorem own66 : Own Try.prog 66 := ⟨Try.f66, Try.func66, by kernel_rfl, by kernel_rfl⟩
theorem own67 : Own Try.prog 67 := ⟨Try.f67, Try.func67, by kernel_rfl, by kernel_rfl⟩
theorem own68 : Own Try.prog 68 := ⟨Try.f68, Try.func68, by kernel_rfl, by kernel_rfl⟩
theorem own69 : Own Try.prog 69 := ⟨Try.f69, Try.func69, by kernel_rfl, by kernel_rfl⟩
theorem own70 : Own Try.prog 70 := ⟨Try.f70, Try.func70, by kernel_rfl, by kernel_rfl⟩
theorem own71 : Own Try.prog 71 := ⟨Try.f71, Try.func71, by kernel_rfl, by kernel_rfl⟩
theorem own72 : Own Try.prog 72 := ⟨Try.f72, Try.func72, by kernel_rfl, by kernel_rfl⟩
theorem own81 : Own Try.prog 81 := ⟨Try.f81, Try.func81, by kernel_rfl, by kernel_rfl⟩
theorem own83 : Own Try.prog 83 := ⟨Try.f83, Try.func83, by kernel_rfl, by kernel_rfl⟩
theorem own84 : Own Try.prog 84 := ⟨Try.f84, Try.func84, by kernel_rfl, by kernel_rfl⟩
theorem own85 : Own Try.prog 85 := ⟨Try.f85, Try.func85, by kernel_rfl, by kernel_rfl⟩

theorem eqIn41 (n : Nat) (a0 : Int) (a1 : Int) (a2 : Int) (a3 : Int) (a4 : Int) (a5 : Int) (a6 : Int) (a7 : Int) (b0 : Int) (b1 : Int) (b2 : Int) (b3 : Int) (b4 : Int) (b5 : Int) (b6 : Int) (b7 : Int) (w : World) : (Op.equalIn (n + 2) 41 (.agg #[.int .i64 a0, .int .i64 a1, .int .i64 a2, .int .i64 a3, .int .i64 a4, .int .i64 a5, .int .i64 a6, .int .i64 a7]) (.agg #[.int .i64 b0, .int .i64 b1, .int .i64 b2, .int .i64 b3, .int .i64 b4, .int .i64 b5, .int .i64 b6, .int .i64 b7])).run Try.prog w = .ok (decide (a0 = b0) && decide (a1 = b1) && decide (a2 = b2) && decide (a3 = b3) && decide (a4 = b4) && decide (a5 = b5) && decide (a6 = b6) && decide (a7 = b7)) w := by
  have hS : Try.prog.underlying 41 = some (.struct (Try.prog.fieldsOf 41)) := by kernel_rfl
  have hp : Try.prog.stoodInHeld 41 = false := by kernel_rfl
  have p0 : ∀ (a0 : Int) (a1 : Int) (a2 : Int) (a3 : Int) (a4 : Int) (a5 : Int) (a6 : Int) (a7 : Int), (part 39 #[.int .i64 a0, .int .i64 a1, .int .i64 a2, .int .i64 a3, .int .i64 a4, .int .i64 a5, .int .i64 a6, .int .i64 a7] 0).run Try.prog w = .ok (.int .i64 a0) w := fun _ _ _ _ _ _ _ _ => by simp [part, Try.isAgg39]
  have p1 : ∀ (a0 : Int) (a1 : Int) (a2 : Int) (a3 : Int) (a4 : Int) (a5 : Int) (a6 : Int) (a7 : Int), (part 3 #[.int .i64 a0, .int .i64 a1, .int .i64 a2, .int .i64 a3, .int .i64 a4, .int .i64 a5, .int .i64 a6, .int .i64 a7] 1).run Try.prog w = .ok (.int .i64 a1) w := fun _ _ _ _ _ _ _ _ => by simp [part, Try.isAgg3]
  have p2 : ∀ (a0 : Int) (a1 : Int) (a2 : Int) (a3 : Int) (a4 : Int) (a5 : Int) (a6 : Int) (a7 : Int), (part 3 #[.int .i64 a0, .int .i64 a1, .int .i64 a2, .int .i64 a3, .int .i64 a4, .int .i64 a5, .int .i64 a6, .int .i64 a7] 2).run Try.prog w = .ok (.int .i64 a2) w := fun _ _ _ _ _ _ _ _ => by simp [part, Try.isAgg3]
  have p3 : ∀ (a0 : Int) (a1 : Int) (a2 : Int) (a3 : Int) (a4 : Int) (a5 : Int) (a6 : Int) (a7 : Int), (part 3 #[.int .i64 a0, .int .i64 a1, .int .i64 a2, .int .i64 a3, .int .i64 a4, .int .i64 a5, .int .i64 a6, .int .i64 a7] 3).run Try.prog w = .ok (.int .i64 a3) w := fun _ _ _ _ _ _ _ _ => by simp [part, Try.isAgg3]
  have p4 : ∀ (a0 : Int) (a1 : Int) (a2 : Int) (a3 : Int) (a4 : Int) (a5 : Int) (a6 : Int) (a7 : Int), (part 3 #[.int .i64 a0, .int .i64 a1, .int .i64 a2, .int .i64 a3, .int .i64 a4, .int .i64 a5, .int .i64 a6, .int .i64 a7] 4).run Try.prog w = .ok (.int .i64 a4) w := fun _ _ _ _ _ _ _ _ => by simp [part, Try.isAgg3]
  have p5 : ∀ (a0 : Int) (a1 : Int) (a2 : Int) (a3 : Int) (a4 : Int) (a5 : Int) (a6 : Int) (a7 : Int), (part 3 #[.int .i64 a0, .int .i64 a1, .int .i64 a2, .int .i64 a3, .int .i64 a4, .int .i64 a5, .int .i64 a6, .int .i64 a7] 5).run Try.prog w = .ok (.int .i64 a5) w := fun _ _ _ _ _ _ _ _ => by simp [part, Try.isAgg3]
  have p6 : ∀ (a0 : Int) (a1 : Int) (a2 : Int) (a3 : Int) (a4 : Int) (a5 : Int) (a6 : Int) (a7 : Int), (part 3 #[.int .i64 a0, .int .i64 a1, .int .i64 a2, .int .i64 a3, .int .i64 a4, .int .i64 a5, .int .i64 a6, .int .i64 a7] 6).run Try.prog w = .ok (.int .i64 a6) w := fun _ _ _ _ _ _ _ _ => by simp [part, Try.isAgg3]
  have p7 : ∀ (a0 : Int) (a1 : Int) (a2 : Int) (a3 : Int) (a4 : Int) (a5 : Int) (a6 : Int) (a7 : Int), (part 3 #[.int .i64 a0, .int .i64 a1, .int .i64 a2, .int .i64 a3, .int .i64 a4, .int .i64 a5, .int .i64 a6, .int .i64 a7] 7).run Try.prog w = .ok (.int .i64 a7) w := fun _ _ _ _ _ _ _ _ => by simp [part, Try.isAgg3]
  have e3 := fun a b w => equal_i64 Try.underlying3 (n + 0) a b w
  have e39 := fun a b w => equal_i64 Try.underlying39 (n + 0) a b w
  rw [run_equalIn_struct w (n + 1) 41 _ _ hS hp]
  simp only [Program.fieldsOf, Try.underlying41]
  simp only [Op.eqFields, Sem.run_bind, Sem.run_ite, p0, p1, p2, p3, p4, p5, p6, p7, e3, e39, Result.andThen_ok]
  by_cases h0 : a0 = b0 <;> by_cases h1 : a1 = b1 <;> by_cases h2 : a2 = b2 <;> by_cases h3 : a3 = b3 <;> by_cases h4 : a4 = b4 <;> by_cases h5 : a5 = b5 <;> by_cases h6 : a6 = b6 <;> by_cases h7 : a7 = b7 <;> simp [h0, h1, h2, h3, h4, h5, h6, h7, p0, p1, p2, p3, p4, p5, p6, p7, e3, e39]

abbrev out1 (lo hi n : Int) : Bool := decide (n < lo ∨ hi < n)

theorem within1_c (lo hi n : Int) (b c : Nat) (t1 t2 : TypeId) (w0 : World) (hb : Blk w0 b t1 [.int .i64 lo]) (hc : Blk w0 c t2 [.int .i64 hi]) :
    CallsV Try.prog 68 [.int .i64 n, .pointer (some ⟨b, 0, none⟩), .pointer (some ⟨c, 0, none⟩)] w0 (fun v w' => v = .bool (out1 lo hi n) ∧ Ext w0 w') := by
 have E0 := Upd.refl (fun _ => False) w0
 refine f_enter (N := 13) Try.func68 rfl rfl rfl ?_
 change WC _ _ _ _ _ _ [(0, .int .i64 n), (1, .pointer (some ⟨b, 0, none⟩)), (2, .pointer (some ⟨c, 0, none⟩))] _
 refine c_seq fun K1 hK1 => (c_region (t_assign rfl rfl rfl (t_nil' (hK1 _ _ (c_seq fun K2 hK2 => (c_region (t_move rfl rfl rfl (t_load Try.isAgg3 rfl rfl rfl (hb.get rfl) (t_cmp rfl rfl rfl rfl rfl (t_move rfl rfl rfl (t_splitp 8 rfl (fun g8 => ?_) (fun g8 => ?_))))))))))))
 ·
  refine t_skip rfl rfl rfl (t_skip rfl rfl rfl (t_skip rfl rfl rfl (t_pick_t rfl rfl rfl rfl (t_assign rfl rfl rfl (t_nil' (hK2 _ _ (c_ret (f_ret1 (v := .bool true) Try.results68 rfl ?_))))))))
  exact ⟨by simp [out1, *], E0⟩
 ·
  refine t_move rfl rfl rfl (t_load Try.isAgg3 rfl rfl rfl (hc.get rfl) (t_cmp rfl rfl rfl rfl rfl (t_pick_f rfl rfl rfl rfl (t_assign rfl rfl rfl (t_nil' (hK2 _ _ (c_ret (f_ret1 (v := .bool (decide (hi < n))) Try.results68 rfl ?_))))))))
  exact ⟨by simp [out1, *], E0⟩

theorem indexI_c (p : Int → Bool) (fv : FuncId) (caps : List Value) (xs : List Int) (ao : Option Addr) (b o cap : Nat) (w0 : World) (ho : Own Try.prog fv) (hp : ∀ x ∈ xs, ∀ w, Ext w0 w → CallsV Try.prog fv ([.int .i64 x] ++ caps) w fun v w' => v = .bool (p x) ∧ Ext w w') (hs : Sl encI 1 w0 ao b o xs) (hl : xs.length ≤ 1000000) :
    CallsV Try.prog 83 [.slice ao xs.length cap, .func (.func fv) #[] (caps).toArray] w0 (fun v w' => (∃ n : Int, v = .int .i64 n ∧ decide (0 ≤ n) = xs.any p) ∧ Ext w0 w') := by
 have E0 := Upd.refl (fun _ => False) w0
 refine f_enter (N := 19) Try.func83 rfl rfl rfl ?_
 change WC _ _ _ _ _ _ [(0, .slice ao xs.length cap), (1, .func (.func fv) #[] (caps).toArray)] _
 refine c_seq fun K1 hK1 => (c_region (t_assign rfl rfl rfl (t_nil' (hK1 _ _ (c_seq fun K2 hK2 => (c_seq fun K3 hK3 => (c_region (t_move rfl rfl rfl (t_len Try.underlying45 rfl rfl rfl rfl (t_move rfl rfl rfl (t_nil' (hK3 _ _ (c_block (c_loop (γ := Nat) (fun k => [(0, .slice ao xs.length cap), (1, .func (.func fv) #[] (caps).toArray), (7, .int .i64 (xs.length : Int)), (8, .int .i64 (k : Int))]) (fun k w => Upd (fun _ => False) w0 w ∧ (k ≤ xs.length) ∧ ((xs.take k).any p = false)) (fun k => xs.length - k) 0 ⟨rfl, rfl, rfl, rfl, trivial⟩ ⟨Upd.refl _ _, Nat.zero_le _, (by simp)⟩ ?_))))))))))))))
 intro k w5 hW K4 hK4
 obtain ⟨u6, I7, I8⟩ := hW
 have zu6 := u6.size
 have E9 := E0.next u6 (fun _ _ h => h.elim)
 have hle := I7; clear I7
 have hnot := I8; clear I8
 refine c_seq fun K10 hK10 => (c_region (t_cmp rfl rfl rfl rfl rfl (t_nil' (hK10 _ _ (c_seq fun K11 hK11 => (c_condp rfl (fun g9 => ?_) (fun g9 => ?_)))))))
 ·
  refine c_skip (hK11 _ _ (c_seq fun K12 hK12 => (c_block (c_seq fun K13 hK13 => (c_region (t_move rfl rfl rfl (t_assign rfl rfl rfl (t_nil' (hK13 _ _ (c_seq fun K14 hK14 => (c_region (t_move rfl rfl rfl (t_move rfl rfl rfl (t_move rfl rfl rfl ?_))))))))))))))
  have i15 : k < xs.length := (by omega)
  refine t_index (j := k) Try.underlying45 Try.sizeOf3 rfl rfl rfl rfl ((hs.keep E9 (fun _ h => h)).addr (by omega)) rfl i15 (t_load Try.isAgg3 rfl rfl rfl (((hs.keep E9 (fun _ h => h)).at_ k (by omega)) 0 _ rfl) (t_call (fs := []) (cs := caps) (vs := [.int .i64 (nth xs k)]) ho rfl rfl rfl rfl (hp (nth xs k) (nth_mem (by omega)) _ E9) (fun v16 w17 r19 => ?_)))
  obtain ⟨rfl, u18⟩ := r19
  have zu18 := u18.size
  have E20 := E9.next u18 (fun _ _ h => h.elim)
  refine t_nil' (hK14 _ _ (c_cond rfl (fun g16 => ?_) (fun g16 => ?_)))
  ·
   refine c_seq fun K21 hK21 => (c_region (t_move rfl rfl rfl (t_assign rfl rfl rfl (t_nil' (hK21 _ _ (c_ret (f_ret1 (v := .int .i64 (k : Int)) Try.results83 rfl ?_)))))))
   exact ⟨⟨_, rfl, any_hit (by omega) g16⟩, E20⟩
  ·
   refine c_skip (hK12 _ _ (c_region (t_ari rfl rfl rfl rfl rfl (by omega) (t_move rfl rfl rfl (t_nil' ?_)))))
   exact hK4 (k + 1) _ _ (by omega) ⟨rfl, rfl, rfl, rfl, trivial⟩ ⟨(u6.next u18 (fun _ _ h => h.elim)), (by omega), (any_snoc (by omega) hnot g16)⟩
 ·
  refine c_exit (hK2 _ _ (c_seq fun K22 hK22 => (c_region (t_assign rfl rfl rfl (t_nil' (hK22 _ _ (c_ret (f_ret1 (v := .int .i64 (-1)) Try.results83 rfl ?_))))))))
  exact ⟨⟨_, rfl, any_none (by omega) hnot⟩, E9⟩

theorem containsI_c (p : Int → Bool) (fv : FuncId) (caps : List Value) (xs : List Int) (ao : Option Addr) (b o cap : Nat) (w0 : World) (ho : Own Try.prog fv) (hp : ∀ x ∈ xs, ∀ w, Ext w0 w → CallsV Try.prog fv ([.int .i64 x] ++ caps) w fun v w' => v = .bool (p x) ∧ Ext w w') (hs : Sl encI 1 w0 ao b o xs) (hl : xs.length ≤ 1000000) :
    CallsV Try.prog 67 [.slice ao xs.length cap, .func (.func fv) #[] (caps).toArray] w0 (fun v w' => v = .bool (xs.any p) ∧ Ext w0 w') := by
 have E0 := Upd.refl (fun _ => False) w0
 refine f_enter (N := 9) Try.func67 rfl rfl rfl ?_
 change WC _ _ _ _ _ _ [(0, .slice ao xs.length cap), (1, .func (.func fv) #[] (caps).toArray)] _
 refine c_seq fun K1 hK1 => (c_region (t_assign rfl rfl rfl (t_nil' (hK1 _ _ (c_seq fun K2 hK2 => (c_region (t_move rfl rfl rfl (t_move rfl rfl rfl (t_call (vs := [.slice ao xs.length cap, .func (.func fv) #[] (caps).toArray]) own83 rfl rfl rfl rfl (indexI_c p fv caps xs ao b o cap _ ho hp hs hl) (fun v3 w4 r6 => ?_))))))))))
 obtain ⟨⟨n, rfl, hn⟩, u5⟩ := r6
 have zu5 := u5.size
 have E7 := E0.next u5 (fun _ _ h => h.elim)
 refine t_cmp rfl rfl rfl rfl rfl (t_assign rfl rfl rfl (t_nil' (hK2 _ _ (c_ret (f_ret1 (v := .bool (decide (0 ≤ n))) Try.results67 rfl ?_)))))
 exact ⟨by rw [hn], E7⟩

theorem indexB_c {α : Type} [Inhabited α] (enc : α → List Value) (hk : ∀ x, (enc x).length = 3) (p : α → Bool) (fv : FuncId) (caps : List Value) (xs : List α) (ao : Option Addr) (b o cap : Nat) (w0 : World) (ho : Own Try.prog fv) (hp : ∀ x ∈ xs, ∀ w, Ext w0 w → CallsV Try.prog fv ([.agg (enc x).toArray] ++ caps) w fun v w' => v = .bool (p x) ∧ Ext w w') (hs : Sl enc 3 w0 ao b o xs) (hl : xs.length ≤ 1000000) :
    CallsV Try.prog 66 [.slice ao xs.length cap, .func (.func fv) #[] (caps).toArray] w0 (fun v w' => (∃ n : Int, v = .int .i64 n ∧ decide (0 ≤ n) = xs.any p) ∧ Ext w0 w') := by
 have E0 := Upd.refl (fun _ => False) w0
 refine f_enter (N := 19) Try.func66 rfl rfl rfl ?_
 change WC _ _ _ _ _ _ [(0, .slice ao xs.length cap), (1, .func (.func fv) #[] (caps).toArray)] _
 refine c_seq fun K1 hK1 => (c_region (t_assign rfl rfl rfl (t_nil' (hK1 _ _ (c_seq fun K2 hK2 => (c_seq fun K3 hK3 => (c_region (t_move rfl rfl rfl (t_len Try.underlying22 rfl rfl rfl rfl (t_move rfl rfl rfl (t_nil' (hK3 _ _ (c_block (c_loop (γ := Nat) (fun k => [(0, .slice ao xs.length cap), (1, .func (.func fv) #[] (caps).toArray), (7, .int .i64 (xs.length : Int)), (8, .int .i64 (k : Int))]) (fun k w => Upd (fun _ => False) w0 w ∧ (k ≤ xs.length) ∧ ((xs.take k).any p = false)) (fun k => xs.length - k) 0 ⟨rfl, rfl, rfl, rfl, trivial⟩ ⟨Upd.refl _ _, Nat.zero_le _, (by simp)⟩ ?_))))))))))))))
 intro k w5 hW K4 hK4
 obtain ⟨u6, I7, I8⟩ := hW
 have zu6 := u6.size
 have E9 := E0.next u6 (fun _ _ h => h.elim)
 have hle := I7; clear I7
 have hnot := I8; clear I8
 refine c_seq fun K10 hK10 => (c_region (t_cmp rfl rfl rfl rfl rfl (t_nil' (hK10 _ _ (c_seq fun K11 hK11 => (c_condp rfl (fun g9 => ?_) (fun g9 => ?_)))))))
 ·
  refine c_skip (hK11 _ _ (c_seq fun K12 hK12 => (c_block (c_seq fun K13 hK13 => (c_region (t_move rfl rfl rfl (t_assign rfl rfl rfl (t_nil' (hK13 _ _ (c_seq fun K14 hK14 => (c_region (t_move rfl rfl rfl (t_move rfl rfl rfl (t_move rfl rfl rfl ?_))))))))))))))
  have i15 : k < xs.length := (by omega)
  refine t_index (j := k) Try.underlying22 Try.sizeOf93 rfl rfl rfl rfl ((hs.keep E9 (fun _ h => h)).addr (by omega)) rfl i15 (t_loadN (vs := enc (nth xs k)) Try.isAgg93 Try.sizeOf93 rfl rfl rfl ((hs.keep E9 (fun _ h => h)).at_ k (by omega)) (hk _) (t_call (fs := []) (cs := caps) (vs := [.agg (enc (nth xs k)).toArray]) ho rfl rfl rfl rfl (hp (nth xs k) (nth_mem (by omega)) _ E9) (fun v16 w17 r19 => ?_)))
  obtain ⟨rfl, u18⟩ := r19
  have zu18 := u18.size
  have E20 := E9.next u18 (fun _ _ h => h.elim)
  refine t_nil' (hK14 _ _ (c_cond rfl (fun g16 => ?_) (fun g16 => ?_)))
  ·
   refine c_seq fun K21 hK21 => (c_region (t_move rfl rfl rfl (t_assign rfl rfl rfl (t_nil' (hK21 _ _ (c_ret (f_ret1 (v := .int .i64 (k : Int)) Try.results66 rfl ?_)))))))
   exact ⟨⟨_, rfl, any_hit (by omega) g16⟩, E20⟩
  ·
   refine c_skip (hK12 _ _ (c_region (t_ari rfl rfl rfl rfl rfl (by omega) (t_move rfl rfl rfl (t_nil' ?_)))))
   exact hK4 (k + 1) _ _ (by omega) ⟨rfl, rfl, rfl, rfl, trivial⟩ ⟨(u6.next u18 (fun _ _ h => h.elim)), (by omega), (any_snoc (by omega) hnot g16)⟩
 ·
  refine c_exit (hK2 _ _ (c_seq fun K22 hK22 => (c_region (t_assign rfl rfl rfl (t_nil' (hK22 _ _ (c_ret (f_ret1 (v := .int .i64 (-1)) Try.results66 rfl ?_))))))))
  exact ⟨⟨_, rfl, any_none (by omega) hnot⟩, E9⟩

theorem containsB_c {α : Type} [Inhabited α] (enc : α → List Value) (hk : ∀ x, (enc x).length = 3) (p : α → Bool) (fv : FuncId) (caps : List Value) (xs : List α) (ao : Option Addr) (b o cap : Nat) (w0 : World) (ho : Own Try.prog fv) (hp : ∀ x ∈ xs, ∀ w, Ext w0 w → CallsV Try.prog fv ([.agg (enc x).toArray] ++ caps) w fun v w' => v = .bool (p x) ∧ Ext w w') (hs : Sl enc 3 w0 ao b o xs) (hl : xs.length ≤ 1000000) :
    CallsV Try.prog 38 [.slice ao xs.length cap, .func (.func fv) #[] (caps).toArray] w0 (fun v w' => v = .bool (xs.any p) ∧ Ext w0 w') := by
 have E0 := Upd.refl (fun _ => False) w0
 refine f_enter (N := 9) Try.func38 rfl rfl rfl ?_
 change WC _ _ _ _ _ _ [(0, .slice ao xs.length cap), (1, .func (.func fv) #[] (caps).toArray)] _
 refine c_seq fun K1 hK1 => (c_region (t_assign rfl rfl rfl (t_nil' (hK1 _ _ (c_seq fun K2 hK2 => (c_region (t_move rfl rfl rfl (t_move rfl rfl rfl (t_call (vs := [.slice ao xs.length cap, .func (.func fv) #[] (caps).toArray]) own66 rfl rfl rfl rfl (indexB_c enc hk p fv caps xs ao b o cap _ ho hp hs hl) (fun v3 w4 r6 => ?_))))))))))
 obtain ⟨⟨n, rfl, hn⟩, u5⟩ := r6
 have zu5 := u5.size
 have E7 := E0.next u5 (fun _ _ h => h.elim)
 refine t_cmp rfl rfl rfl rfl rfl (t_assign rfl rfl rfl (t_nil' (hK2 _ _ (c_ret (f_ret1 (v := .bool (decide (0 ≤ n))) Try.results38 rfl ?_)))))
 exact ⟨by rw [hn], E7⟩

theorem indexH_c {α : Type} [Inhabited α] (enc : α → List Value) (hk : ∀ x, (enc x).length = 2) (p : α → Bool) (fv : FuncId) (caps : List Value) (xs : List α) (ao : Option Addr) (b o cap : Nat) (w0 : World) (ho : Own Try.prog fv) (hp : ∀ x ∈ xs, ∀ w, Ext w0 w → CallsV Try.prog fv ([.agg (enc x).toArray] ++ caps) w fun v w' => v = .bool (p x) ∧ Ext w w') (hs : Sl enc 2 w0 ao b o xs) (hl : xs.length ≤ 1000000) :
    CallsV Try.prog 69 [.slice ao xs.length cap, .func (.func fv) #[] (caps).toArray] w0 (fun v w' => (∃ n : Int, v = .int .i64 n ∧ decide (0 ≤ n) = xs.any p) ∧ Ext w0 w') := by
 have E0 := Upd.refl (fun _ => False) w0
 refine f_enter (N := 19) Try.func69 rfl rfl rfl ?_
 change WC _ _ _ _ _ _ [(0, .slice ao xs.length cap), (1, .func (.func fv) #[] (caps).toArray)] _
 refine c_seq fun K1 hK1 => (c_region (t_assign rfl rfl rfl (t_nil' (hK1 _ _ (c_seq fun K2 hK2 => (c_seq fun K3 hK3 => (c_region (t_move rfl rfl rfl (t_len Try.underlying23 rfl rfl rfl rfl (t_move rfl rfl rfl (t_nil' (hK3 _ _ (c_block (c_loop (γ := Nat) (fun k => [(0, .slice ao xs.length cap), (1, .func (.func fv) #[] (caps).toArray), (7, .int .i64 (xs.length : Int)), (8, .int .i64 (k : Int))]) (fun k w => Upd (fun _ => False) w0 w ∧ (k ≤ xs.length) ∧ ((xs.take k).any p = false)) (fun k => xs.length - k) 0 ⟨rfl, rfl, rfl, rfl, trivial⟩ ⟨Upd.refl _ _, Nat.zero_le _, (by simp)⟩ ?_))))))))))))))
 intro k w5 hW K4 hK4
 obtain ⟨u6, I7, I8⟩ := hW
 have zu6 := u6.size
 have E9 := E0.next u6 (fun _ _ h => h.elim)
 have hle := I7; clear I7
 have hnot := I8; clear I8
 refine c_seq fun K10 hK10 => (c_region (t_cmp rfl rfl rfl rfl rfl (t_nil' (hK10 _ _ (c_seq fun K11 hK11 => (c_condp rfl (fun g9 => ?_) (fun g9 => ?_)))))))
 ·
  refine c_skip (hK11 _ _ (c_seq fun K12 hK12 => (c_block (c_seq fun K13 hK13 => (c_region (t_move rfl rfl rfl (t_assign rfl rfl rfl (t_nil' (hK13 _ _ (c_seq fun K14 hK14 => (c_region (t_move rfl rfl rfl (t_move rfl rfl rfl (t_move rfl rfl rfl ?_))))))))))))))
  have i15 : k < xs.length := (by omega)
  refine t_index (j := k) Try.underlying23 Try.sizeOf90 rfl rfl rfl rfl ((hs.keep E9 (fun _ h => h)).addr (by omega)) rfl i15 (t_loadN (vs := enc (nth xs k)) Try.isAgg90 Try.sizeOf90 rfl rfl rfl ((hs.keep E9 (fun _ h => h)).at_ k (by omega)) (hk _) (t_call (fs := []) (cs := caps) (vs := [.agg (enc (nth xs k)).toArray]) ho rfl rfl rfl rfl (hp (nth xs k) (nth_mem (by omega)) _ E9) (fun v16 w17 r19 => ?_)))
  obtain ⟨rfl, u18⟩ := r19
  have zu18 := u18.size
  have E20 := E9.next u18 (fun _ _ h => h.elim)
  refine t_nil' (hK14 _ _ (c_cond rfl (fun g16 => ?_) (fun g16 => ?_)))
  ·
   refine c_seq fun K21 hK21 => (c_region (t_move rfl rfl rfl (t_assign rfl rfl rfl (t_nil' (hK21 _ _ (c_ret (f_ret1 (v := .int .i64 (k : Int)) Try.results69 rfl ?_)))))))
   exact ⟨⟨_, rfl, any_hit (by omega) g16⟩, E20⟩
  ·
   refine c_skip (hK12 _ _ (c_region (t_ari rfl rfl rfl rfl rfl (by omega) (t_move rfl rfl rfl (t_nil' ?_)))))
   exact hK4 (k + 1) _ _ (by omega) ⟨rfl, rfl, rfl, rfl, trivial⟩ ⟨(u6.next u18 (fun _ _ h => h.elim)), (by omega), (any_snoc (by omega) hnot g16)⟩
 ·
  refine c_exit (hK2 _ _ (c_seq fun K22 hK22 => (c_region (t_assign rfl rfl rfl (t_nil' (hK22 _ _ (c_ret (f_ret1 (v := .int .i64 (-1)) Try.results69 rfl ?_))))))))
  exact ⟨⟨_, rfl, any_none (by omega) hnot⟩, E9⟩

theorem containsH_c {α : Type} [Inhabited α] (enc : α → List Value) (hk : ∀ x, (enc x).length = 2) (p : α → Bool) (fv : FuncId) (caps : List Value) (xs : List α) (ao : Option Addr) (b o cap : Nat) (w0 : World) (ho : Own Try.prog fv) (hp : ∀ x ∈ xs, ∀ w, Ext w0 w → CallsV Try.prog fv ([.agg (enc x).toArray] ++ caps) w fun v w' => v = .bool (p x) ∧ Ext w w') (hs : Sl enc 2 w0 ao b o xs) (hl : xs.length ≤ 1000000) :
    CallsV Try.prog 41 [.slice ao xs.length cap, .func (.func fv) #[] (caps).toArray] w0 (fun v w' => v = .bool (xs.any p) ∧ Ext w0 w') := by
 have E0 := Upd.refl (fun _ => False) w0
 refine f_enter (N := 9) Try.func41 rfl rfl rfl ?_
 change WC _ _ _ _ _ _ [(0, .slice ao xs.length cap), (1, .func (.func fv) #[] (caps).toArray)] _
 refine c_seq fun K1 hK1 => (c_region (t_assign rfl rfl rfl (t_nil' (hK1 _ _ (c_seq fun K2 hK2 => (c_region (t_move rfl rfl rfl (t_move rfl rfl rfl (t_call (vs := [.slice ao xs.length cap, .func (.func fv) #[] (caps).toArray]) own69 rfl rfl rfl rfl (indexH_c enc hk p fv caps xs ao b o cap _ ho hp hs hl) (fun v3 w4 r6 => ?_))))))))))
 obtain ⟨⟨n, rfl, hn⟩, u5⟩ := r6
 have zu5 := u5.size
 have E7 := E0.next u5 (fun _ _ h => h.elim)
 refine t_cmp rfl rfl rfl rfl rfl (t_assign rfl rfl rfl (t_nil' (hK2 _ _ (c_ret (f_ret1 (v := .bool (decide (0 ≤ n))) Try.results41 rfl ?_)))))
 exact ⟨by rw [hn], E7⟩

theorem indexE_c {α : Type} [Inhabited α] (enc : α → List Value) (hk : ∀ x, (enc x).length = 8) (p : α → Bool) (fv : FuncId) (caps : List Value) (xs : List α) (ao : Option Addr) (b o cap : Nat) (w0 : World) (ho : Own Try.prog fv) (hp : ∀ x ∈ xs, ∀ w, Ext w0 w → CallsV Try.prog fv ([.agg (enc x).toArray] ++ caps) w fun v w' => v = .bool (p x) ∧ Ext w w') (hs : Sl enc 8 w0 ao b o xs) (hl : xs.length ≤ 1000000) :
    CallsV Try.prog 84 [.slice ao xs.length cap, .func (.func fv) #[] (caps).toArray] w0 (fun v w' => (∃ n : Int, v = .int .i64 n ∧ decide (0 ≤ n) = xs.any p) ∧ Ext w0 w') := by
 have E0 := Upd.refl (fun _ => False) w0
 refine f_enter (N := 19) Try.func84 rfl rfl rfl ?_
 change WC _ _ _ _ _ _ [(0, .slice ao xs.length cap), (1, .func (.func fv) #[] (caps).toArray)] _
 refine c_seq fun K1 hK1 => (c_region (t_assign rfl rfl rfl (t_nil' (hK1 _ _ (c_seq fun K2 hK2 => (c_seq fun K3 hK3 => (c_region (t_move rfl rfl rfl (t_len Try.underlying26 rfl rfl rfl rfl (t_move rfl rfl rfl (t_nil' (hK3 _ _ (c_block (c_loop (γ := Nat) (fun k => [(0, .slice ao xs.length cap), (1, .func (.func fv) #[] (caps).toArray), (7, .int .i64 (xs.length : Int)), (8, .int .i64 (k : Int))]) (fun k w => Upd (fun _ => False) w0 w ∧ (k ≤ xs.length) ∧ ((xs.take k).any p = false)) (fun k => xs.length - k) 0 ⟨rfl, rfl, rfl, rfl, trivial⟩ ⟨Upd.refl _ _, Nat.zero_le _, (by simp)⟩ ?_))))))))))))))
 intro k w5 hW K4 hK4
 obtain ⟨u6, I7, I8⟩ := hW
 have zu6 := u6.size
 have E9 := E0.next u6 (fun _ _ h => h.elim)
 have hle := I7; clear I7
 have hnot := I8; clear I8
 refine c_seq fun K10 hK10 => (c_region (t_cmp rfl rfl rfl rfl rfl (t_nil' (hK10 _ _ (c_seq fun K11 hK11 => (c_condp rfl (fun g9 => ?_) (fun g9 => ?_)))))))
 ·
  refine c_skip (hK11 _ _ (c_seq fun K12 hK12 => (c_block (c_seq fun K13 hK13 => (c_region (t_move rfl rfl rfl (t_assign rfl rfl rfl (t_nil' (hK13 _ _ (c_seq fun K14 hK14 => (c_region (t_move rfl rfl rfl (t_move rfl rfl rfl (t_move rfl rfl rfl ?_))))))))))))))
  have i15 : k < xs.length := (by omega)
  refine t_index (j := k) Try.underlying26 Try.sizeOf41 rfl rfl rfl rfl ((hs.keep E9 (fun _ h => h)).addr (by omega)) rfl i15 (t_loadN (vs := enc (nth xs k)) Try.isAgg41 Try.sizeOf41 rfl rfl rfl ((hs.keep E9 (fun _ h => h)).at_ k (by omega)) (hk _) (t_call (fs := []) (cs := caps) (vs := [.agg (enc (nth xs k)).toArray]) ho rfl rfl rfl rfl (hp (nth xs k) (nth_mem (by omega)) _ E9) (fun v16 w17 r19 => ?_)))
  obtain ⟨rfl, u18⟩ := r19
  have zu18 := u18.size
  have E20 := E9.next u18 (fun _ _ h => h.elim)
  refine t_nil' (hK14 _ _ (c_cond rfl (fun g16 => ?_) (fun g16 => ?_)))
  ·
   refine c_seq fun K21 hK21 => (c_region (t_move rfl rfl rfl (t_assign rfl rfl rfl (t_nil' (hK21 _ _ (c_ret (f_ret1 (v := .int .i64 (k : Int)) Try.results84 rfl ?_)))))))
   exact ⟨⟨_, rfl, any_hit (by omega) g16⟩, E20⟩
  ·
   refine c_skip (hK12 _ _ (c_region (t_ari rfl rfl rfl rfl rfl (by omega) (t_move rfl rfl rfl (t_nil' ?_)))))
   exact hK4 (k + 1) _ _ (by omega) ⟨rfl, rfl, rfl, rfl, trivial⟩ ⟨(u6.next u18 (fun _ _ h => h.elim)), (by omega), (any_snoc (by omega) hnot g16)⟩
 ·
  refine c_exit (hK2 _ _ (c_seq fun K22 hK22 => (c_region (t_assign rfl rfl rfl (t_nil' (hK22 _ _ (c_ret (f_ret1 (v := .int .i64 (-1)) Try.results84 rfl ?_))))))))
  exact ⟨⟨_, rfl, any_none (by omega) hnot⟩, E9⟩

theorem containsE_c {α : Type} [Inhabited α] (enc : α → List Value) (hk : ∀ x, (enc x).length = 8) (p : α → Bool) (fv : FuncId) (caps : List Value) (xs : List α) (ao : Option Addr) (b o cap : Nat) (w0 : World) (ho : Own Try.prog fv) (hp : ∀ x ∈ xs, ∀ w, Ext w0 w → CallsV Try.prog fv ([.agg (enc x).toArray] ++ caps) w fun v w' => v = .bool (p x) ∧ Ext w w') (hs : Sl enc 8 w0 ao b o xs) (hl : xs.length ≤ 1000000) :
    CallsV Try.prog 70 [.slice ao xs.length cap, .func (.func fv) #[] (caps).toArray] w0 (fun v w' => v = .bool (xs.any p) ∧ Ext w0 w') := by
 have E0 := Upd.refl (fun _ => False) w0
 refine f_enter (N := 9) Try.func70 rfl rfl rfl ?_
 change WC _ _ _ _ _ _ [(0, .slice ao xs.length cap), (1, .func (.func fv) #[] (caps).toArray)] _
 refine c_seq fun K1 hK1 => (c_region (t_assign rfl rfl rfl (t_nil' (hK1 _ _ (c_seq fun K2 hK2 => (c_region (t_move rfl rfl rfl (t_move rfl rfl rfl (t_call (vs := [.slice ao xs.length cap, .func (.func fv) #[] (caps).toArray]) own84 rfl rfl rfl rfl (indexE_c enc hk p fv caps xs ao b o cap _ ho hp hs hl) (fun v3 w4 r6 => ?_))))))))))
 obtain ⟨⟨n, rfl, hn⟩, u5⟩ := r6
 have zu5 := u5.size
 have E7 := E0.next u5 (fun _ _ h => h.elim)
 refine t_cmp rfl rfl rfl rfl rfl (t_assign rfl rfl rfl (t_nil' (hK2 _ _ (c_ret (f_ret1 (v := .bool (decide (0 ≤ n))) Try.results70 rfl ?_)))))
 exact ⟨by rw [hn], E7⟩

theorem indexS_c {α : Type} [Inhabited α] (enc : α → List Value) (hk : ∀ x, (enc x).length = 4) (p : α → Bool) (fv : FuncId) (caps : List Value) (xs : List α) (ao : Option Addr) (b o cap : Nat) (w0 : World) (ho : Own Try.prog fv) (hp : ∀ x ∈ xs, ∀ w, Ext w0 w → CallsV Try.prog fv ([.agg (enc x).toArray] ++ caps) w fun v w' => v = .bool (p x) ∧ Ext w w') (hs : Sl enc 4 w0 ao b o xs) (hl : xs.length ≤ 1000000) :
    CallsV Try.prog 81 [.slice ao xs.length cap, .func (.func fv) #[] (caps).toArray] w0 (fun v w' => (∃ n : Int, v = .int .i64 n ∧ decide (0 ≤ n) = xs.any p) ∧ Ext w0 w') := by
 have E0 := Upd.refl (fun _ => False) w0
 refine f_enter (N := 19) Try.func81 rfl rfl rfl ?_
 change WC _ _ _ _ _ _ [(0, .slice ao xs.length cap), (1, .func (.func fv) #[] (caps).toArray)] _
 refine c_seq fun K1 hK1 => (c_region (t_assign rfl rfl rfl (t_nil' (hK1 _ _ (c_seq fun K2 hK2 => (c_seq fun K3 hK3 => (c_region (t_move rfl rfl rfl (t_len Try.underlying72 rfl rfl rfl rfl (t_move rfl rfl rfl (t_nil' (hK3 _ _ (c_block (c_loop (γ := Nat) (fun k => [(0, .slice ao xs.length cap), (1, .func (.func fv) #[] (caps).toArray), (7, .int .i64 (xs.length : Int)), (8, .int .i64 (k : Int))]) (fun k w => Upd (fun _ => False) w0 w ∧ (k ≤ xs.length) ∧ ((xs.take k).any p = false)) (fun k => xs.length - k) 0 ⟨rfl, rfl, rfl, rfl, trivial⟩ ⟨Upd.refl _ _, Nat.zero_le _, (by simp)⟩ ?_))))))))))))))
 intro k w5 hW K4 hK4
 obtain ⟨u6, I7, I8⟩ := hW
 have zu6 := u6.size
 have E9 := E0.next u6 (fun _ _ h => h.elim)
 have hle := I7; clear I7
 have hnot := I8; clear I8
 refine c_seq fun K10 hK10 => (c_region (t_cmp rfl rfl rfl rfl rfl (t_nil' (hK10 _ _ (c_seq fun K11 hK11 => (c_condp rfl (fun g9 => ?_) (fun g9 => ?_)))))))
 ·
  refine c_skip (hK11 _ _ (c_seq fun K12 hK12 => (c_block (c_seq fun K13 hK13 => (c_region (t_move rfl rfl rfl (t_assign rfl rfl rfl (t_nil' (hK13 _ _ (c_seq fun K14 hK14 => (c_region (t_move rfl rfl rfl (t_move rfl rfl rfl (t_move rfl rfl rfl ?_))))))))))))))
  have i15 : k < xs.length := (by omega)
  refine t_index (j := k) Try.underlying72 Try.sizeOf79 rfl rfl rfl rfl ((hs.keep E9 (fun _ h => h)).addr (by omega)) rfl i15 (t_loadN (vs := enc (nth xs k)) Try.isAgg79 Try.sizeOf79 rfl rfl rfl ((hs.keep E9 (fun _ h => h)).at_ k (by omega)) (hk _) (t_call (fs := []) (cs := caps) (vs := [.agg (enc (nth xs k)).toArray]) ho rfl rfl rfl rfl (hp (nth xs k) (nth_mem (by omega)) _ E9) (fun v16 w17 r19 => ?_)))
  obtain ⟨rfl, u18⟩ := r19
  have zu18 := u18.size
  have E20 := E9.next u18 (fun _ _ h => h.elim)
  refine t_nil' (hK14 _ _ (c_cond rfl (fun g16 => ?_) (fun g16 => ?_)))
  ·
   refine c_seq fun K21 hK21 => (c_region (t_move rfl rfl rfl (t_assign rfl rfl rfl (t_nil' (hK21 _ _ (c_ret (f_ret1 (v := .int .i64 (k : Int)) Try.results81 rfl ?_)))))))
   exact ⟨⟨_, rfl, any_hit (by omega) g16⟩, E20⟩
  ·
   refine c_skip (hK12 _ _ (c_region (t_ari rfl rfl rfl rfl rfl (by omega) (t_move rfl rfl rfl (t_nil' ?_)))))
   exact hK4 (k + 1) _ _ (by omega) ⟨rfl, rfl, rfl, rfl, trivial⟩ ⟨(u6.next u18 (fun _ _ h => h.elim)), (by omega), (any_snoc (by omega) hnot g16)⟩
 ·
  refine c_exit (hK2 _ _ (c_seq fun K22 hK22 => (c_region (t_assign rfl rfl rfl (t_nil' (hK22 _ _ (c_ret (f_ret1 (v := .int .i64 (-1)) Try.results81 rfl ?_))))))))
  exact ⟨⟨_, rfl, any_none (by omega) hnot⟩, E9⟩

theorem containsS_c {α : Type} [Inhabited α] (enc : α → List Value) (hk : ∀ x, (enc x).length = 4) (p : α → Bool) (fv : FuncId) (caps : List Value) (xs : List α) (ao : Option Addr) (b o cap : Nat) (w0 : World) (ho : Own Try.prog fv) (hp : ∀ x ∈ xs, ∀ w, Ext w0 w → CallsV Try.prog fv ([.agg (enc x).toArray] ++ caps) w fun v w' => v = .bool (p x) ∧ Ext w w') (hs : Sl enc 4 w0 ao b o xs) (hl : xs.length ≤ 1000000) :
    CallsV Try.prog 59 [.slice ao xs.length cap, .func (.func fv) #[] (caps).toArray] w0 (fun v w' => v = .bool (xs.any p) ∧ Ext w0 w') := by
 have E0 := Upd.refl (fun _ => False) w0
 refine f_enter (N := 9) Try.func59 rfl rfl rfl ?_
 change WC _ _ _ _ _ _ [(0, .slice ao xs.length cap), (1, .func (.func fv) #[] (caps).toArray)] _
 refine c_seq fun K1 hK1 => (c_region (t_assign rfl rfl rfl (t_nil' (hK1 _ _ (c_seq fun K2 hK2 => (c_region (t_move rfl rfl rfl (t_move rfl rfl rfl (t_call (vs := [.slice ao xs.length cap, .func (.func fv) #[] (caps).toArray]) own81 rfl rfl rfl rfl (indexS_c enc hk p fv caps xs ao b o cap _ ho hp hs hl) (fun v3 w4 r6 => ?_))))))))))
 obtain ⟨⟨n, rfl, hn⟩, u5⟩ := r6
 have zu5 := u5.size
 have E7 := E0.next u5 (fun _ _ h => h.elim)
 refine t_cmp rfl rfl rfl rfl rfl (t_assign rfl rfl rfl (t_nil' (hK2 _ _ (c_ret (f_ret1 (v := .bool (decide (0 ≤ n))) Try.results59 rfl ?_)))))
 exact ⟨by rw [hn], E7⟩

theorem within_c (lo hi : Int) (xs : List Int) (ao : Option Addr) (b o cap : Nat) (w0 : World) (hs : Sl encI 1 w0 ao b o xs) (hl : xs.length ≤ 1000000) :
    CallsV Try.prog 40 [.int .i64 lo, .int .i64 hi, .slice ao xs.length cap] w0 (fun v w' => v = .bool (decide (∀ n ∈ xs, lo ≤ n ∧ n ≤ hi)) ∧ Ext w0 w') := by
 have E0 := Upd.refl (fun _ => False) w0
 refine f_enter (N := 11) Try.func40 rfl rfl rfl ?_
 change WC _ _ _ _ _ _ [(0, .int .i64 lo), (1, .int .i64 hi), (2, .slice ao xs.length cap)] _
 refine c_seq fun K1 hK1 => (c_region (t_box (cs := [.int .i64 lo]) rfl rfl rfl rfl (fun bk2 w3 ebk2 sbk2 B4 u5 => ?_)))
 have zu5 := u5.size
 have E6 := E0.next u5 (fun _ _ h => h.elim)
 refine t_box (cs := [.int .i64 hi]) rfl rfl rfl rfl (fun bk7 w8 ebk7 sbk7 B9 u10 => ?_)
 have zu10 := u10.size
 have E11 := E6.next u10 (fun _ _ h => h.elim)
 refine t_assign rfl rfl rfl (t_nil' (hK1 _ _ (c_seq fun K12 hK12 => (c_region (t_move rfl rfl rfl (t_mkfunc (vs := []) (us := [.pointer (some ⟨bk2, 0, none⟩), .pointer (some ⟨bk7, 0, none⟩)]) rfl rfl rfl rfl ?_))))))
 have B13 := (B4.keep u10 (fun h => h))
 refine t_call (vs := [.slice ao xs.length cap, .func (.func 68) #[] #[.pointer (some ⟨bk2, 0, none⟩), .pointer (some ⟨bk7, 0, none⟩)]]) own67 rfl rfl rfl rfl (containsI_c (out1 lo hi) 68 [.pointer (some ⟨bk2, 0, none⟩), .pointer (some ⟨bk7, 0, none⟩)] xs ao b o cap _ own68 (fun x _ w u => within1_c lo hi x bk2 bk7 _ _ w (B13.keep u (fun h => h)) (B9.keep u (fun h => h))) (hs.keep E11 (fun _ h => h)) hl) (fun v14 w15 r17 => ?_)
 obtain ⟨rfl, u16⟩ := r17
 have zu16 := u16.size
 have E18 := E11.next u16 (fun _ _ h => h.elim)
 refine t_not rfl rfl rfl (t_assign rfl rfl rfl (t_nil' (hK12 _ _ (c_ret (f_ret1 (v := .bool (!(xs.any (out1 lo hi)))) Try.results40 rfl ?_)))))
 exact ⟨by rw [not_any_out], E18⟩

theorem within1_v (lo hi m : Int) (b : Nat) (t : TypeId) (w : World) (h : Blk w b t [.int .i64 m]) :
    CallsV Try.prog 40 [.int .i64 lo, .int .i64 hi, .slice (some ⟨b, 0, none⟩) 1 1] w (fun v w' => v = .bool (decide ((lo ≤ m ∧ m ≤ hi))) ∧ Ext w w') :=
  (within_c lo hi [m] _ b 0 1 w (SlI.own (xs := [m]) h) (by simp)).mono fun v w' ⟨e, u⟩ => ⟨by rw [e]; simp, u⟩

theorem within2_v (lo hi m n : Int) (b : Nat) (t : TypeId) (w : World) (h : Blk w b t [.int .i64 m, .int .i64 n]) :
    CallsV Try.prog 40 [.int .i64 lo, .int .i64 hi, .slice (some ⟨b, 0, none⟩) 2 2] w (fun v w' => v = .bool (decide ((lo ≤ m ∧ m ≤ hi) ∧ (lo ≤ n ∧ n ≤ hi))) ∧ Ext w w') :=
  (within_c lo hi [m, n] _ b 0 2 w (SlI.own (xs := [m, n]) h) (by simp)).mono fun v w' ⟨e, u⟩ => ⟨by rw [e]; simp, u⟩

theorem within3_v (lo hi m n q : Int) (b : Nat) (t : TypeId) (w : World) (h : Blk w b t [.int .i64 m, .int .i64 n, .int .i64 q]) :
    CallsV Try.prog 40 [.int .i64 lo, .int .i64 hi, .slice (some ⟨b, 0, none⟩) 3 3] w (fun v w' => v = .bool (decide ((lo ≤ m ∧ m ≤ hi) ∧ (lo ≤ n ∧ n ≤ hi) ∧ (lo ≤ q ∧ q ≤ hi))) ∧ Ext w w') :=
  (within_c lo hi [m, n, q] _ b 0 3 w (SlI.own (xs := [m, n, q]) h) (by simp)).mono fun v w' ⟨e, u⟩ => ⟨by rw [e]; simp, u⟩

theorem badBil_c (b : Bil) (w0 : World) :
    CallsV Try.prog 39 [.agg #[.int .i64 b.tons, .int .i64 b.frm, .int .i64 b.to]] w0 (fun v w' => v = .bool (!okBil b) ∧ Ext w0 w') := by
 have E0 := Upd.refl (fun _ => False) w0
 refine f_enter (N := 17) Try.func39 rfl rfl rfl ?_
 change WC _ _ _ _ _ _ [(0, .agg #[.int .i64 b.tons, .int .i64 b.frm, .int .i64 b.to])] _
 refine c_seq fun K1 hK1 => (c_region (t_box (cs := [.int .i64 b.tons, .int .i64 b.frm, .int .i64 b.to]) rfl rfl rfl rfl (fun bk2 w3 ebk2 sbk2 B4 u5 => ?_)))
 have zu5 := u5.size
 have E6 := E0.next u5 (fun _ _ h => h.elim)
 refine t_assign rfl rfl rfl (t_nil' (hK1 _ _ (c_seq fun K7 hK7 => (c_region (t_field Try.underlying93 rfl Try.sizeOf3 (0) rfl rfl rfl rfl (t_load Try.isAgg3 rfl rfl rfl (B4.get rfl) (t_bslice (ps := [(0, .int .i64 b.tons)]) (cs := [.int .i64 b.tons]) (e := 3) rfl rfl ⟨rfl, rfl⟩ (fun w => by kernel_rfl) (fun bk8 w9 ebk8 sbk8 B10 u11 => ?_))))))))
 have zu11 := u11.size
 have E12 := E6.next u11 (fun _ _ h => h.elim)
 refine t_call (vs := [.int .i64 1, .int .i64 1000000, .slice (some ⟨bk8, 0, none⟩) 1 1]) own40 rfl rfl rfl rfl (within1_v 1 1000000 b.tons _ _ _ B10) (fun v13 w14 r16 => ?_)
 obtain ⟨rfl, u15⟩ := r16
 have zu15 := u15.size
 have E17 := E12.next u15 (fun _ _ h => h.elim)
 refine t_notp rfl rfl rfl (t_move rfl rfl rfl (t_splitp 8 rfl (fun g8 => ?_) (fun g8 => ?_)))
 ·
  refine t_skip rfl rfl rfl (t_skip rfl rfl rfl (t_skip rfl rfl rfl (t_skip rfl rfl rfl (t_skip rfl rfl rfl (t_skip rfl rfl rfl (t_skip rfl rfl rfl (t_pick_t rfl rfl rfl rfl (t_assign rfl rfl rfl (t_nil' (hK7 _ _ (c_ret (f_ret1 (v := .bool true) Try.results39 rfl ?_))))))))))))
  exact ⟨congrArg Value.bool (by rw [Bool.eq_iff_iff]; simp [okBil] <;> omega), E17⟩
 ·
  refine t_field Try.underlying93 rfl Try.sizeOf3 (1) rfl rfl rfl rfl ?_
  have B18 := ((B4.keep u11 (fun h => h)).keep u15 (fun h => h))
  refine t_load Try.isAgg3 rfl rfl rfl (B18.get rfl) (t_field Try.underlying93 rfl Try.sizeOf3 (2) rfl rfl rfl rfl (t_load Try.isAgg3 rfl rfl rfl (B18.get rfl) (t_bslice (ps := [(0, .int .i64 b.frm), (1, .int .i64 b.to)]) (cs := [.int .i64 b.frm, .int .i64 b.to]) (e := 3) rfl rfl ⟨rfl, rfl⟩ (fun w => by kernel_rfl) (fun bk19 w20 ebk19 sbk19 B21 u22 => ?_))))
  have zu22 := u22.size
  have E23 := E17.next u22 (fun _ _ h => h.elim)
  refine t_call (vs := [.int .i64 0, .int .i64 99, .slice (some ⟨bk19, 0, none⟩) 2 2]) own40 rfl rfl rfl rfl (within2_v 0 99 b.frm b.to _ _ _ B21) (fun v24 w25 r27 => ?_)
  obtain ⟨rfl, u26⟩ := r27
  have zu26 := u26.size
  have E28 := E23.next u26 (fun _ _ h => h.elim)
  refine t_notp rfl rfl rfl (t_pick_f rfl rfl rfl rfl (t_assign rfl rfl rfl (t_nil' (hK7 _ _ (c_ret (f_ret1 (v := .bool (decide (¬ ((0 ≤ b.frm ∧ b.frm ≤ 99) ∧ (0 ≤ b.to ∧ b.to ≤ 99))))) Try.results39 rfl ?_))))))
  exact ⟨congrArg Value.bool (by rw [Bool.eq_iff_iff]; simp [okBil] <;> omega), E28⟩

theorem badHld_c (h : Hld) (w0 : World) :
    CallsV Try.prog 42 [.agg #[.int .i64 h.hull, .int .i64 h.cap]] w0 (fun v w' => v = .bool (!okHld h) ∧ Ext w0 w') := by
 have E0 := Upd.refl (fun _ => False) w0
 refine f_enter (N := 15) Try.func42 rfl rfl rfl ?_
 change WC _ _ _ _ _ _ [(0, .agg #[.int .i64 h.hull, .int .i64 h.cap])] _
 refine c_seq fun K1 hK1 => (c_region (t_box (cs := [.int .i64 h.hull, .int .i64 h.cap]) rfl rfl rfl rfl (fun bk2 w3 ebk2 sbk2 B4 u5 => ?_)))
 have zu5 := u5.size
 have E6 := E0.next u5 (fun _ _ h => h.elim)
 refine t_assign rfl rfl rfl (t_nil' (hK1 _ _ (c_seq fun K7 hK7 => (c_region (t_field Try.underlying90 rfl Try.sizeOf3 (0) rfl rfl rfl rfl (t_load Try.isAgg3 rfl rfl rfl (B4.get rfl) (t_bslice (ps := [(0, .int .i64 h.hull)]) (cs := [.int .i64 h.hull]) (e := 3) rfl rfl ⟨rfl, rfl⟩ (fun w => by kernel_rfl) (fun bk8 w9 ebk8 sbk8 B10 u11 => ?_))))))))
 have zu11 := u11.size
 have E12 := E6.next u11 (fun _ _ h => h.elim)
 refine t_call (vs := [.int .i64 0, .int .i64 19, .slice (some ⟨bk8, 0, none⟩) 1 1]) own40 rfl rfl rfl rfl (within1_v 0 19 h.hull _ _ _ B10) (fun v13 w14 r16 => ?_)
 obtain ⟨rfl, u15⟩ := r16
 have zu15 := u15.size
 have E17 := E12.next u15 (fun _ _ h => h.elim)
 refine t_notp rfl rfl rfl (t_move rfl rfl rfl (t_splitp 8 rfl (fun g8 => ?_) (fun g8 => ?_)))
 ·
  refine t_skip rfl rfl rfl (t_skip rfl rfl rfl (t_skip rfl rfl rfl (t_skip rfl rfl rfl (t_skip rfl rfl rfl (t_pick_t rfl rfl rfl rfl (t_assign rfl rfl rfl (t_nil' (hK7 _ _ (c_ret (f_ret1 (v := .bool true) Try.results42 rfl ?_))))))))))
  exact ⟨congrArg Value.bool (by rw [Bool.eq_iff_iff]; simp [okHld] <;> omega), E17⟩
 ·
  refine t_field Try.underlying90 rfl Try.sizeOf3 (1) rfl rfl rfl rfl ?_
  have B18 := ((B4.keep u11 (fun h => h)).keep u15 (fun h => h))
  refine t_load Try.isAgg3 rfl rfl rfl (B18.get rfl) (t_bslice (ps := [(0, .int .i64 h.cap)]) (cs := [.int .i64 h.cap]) (e := 3) rfl rfl ⟨rfl, rfl⟩ (fun w => by kernel_rfl) (fun bk19 w20 ebk19 sbk19 B21 u22 => ?_))
  have zu22 := u22.size
  have E23 := E17.next u22 (fun _ _ h => h.elim)
  refine t_call (vs := [.int .i64 0, .int .i64 1000000, .slice (some ⟨bk19, 0, none⟩) 1 1]) own40 rfl rfl rfl rfl (within1_v 0 1000000 h.cap _ _ _ B21) (fun v24 w25 r27 => ?_)
  obtain ⟨rfl, u26⟩ := r27
  have zu26 := u26.size
  have E28 := E23.next u26 (fun _ _ h => h.elim)
  refine t_notp rfl rfl rfl (t_pick_f rfl rfl rfl rfl (t_assign rfl rfl rfl (t_nil' (hK7 _ _ (c_ret (f_ret1 (v := .bool (decide (¬ ((0 ≤ h.cap ∧ h.cap ≤ 1000000))))) Try.results42 rfl ?_))))))
  exact ⟨congrArg Value.bool (by rw [Bool.eq_iff_iff]; simp [okHld] <;> omega), E28⟩

theorem Check_c (bs : List Bil) (ab : Option Addr) (bb ob cb : Nat) (hs : List Hld) (ah : Option Addr) (bh oh ch : Nat) (w0 : World) (hbs : Sl encBil 3 w0 ab bb ob bs) (hhs : Sl encHld 2 w0 ah bh oh hs) (hbl : bs.length ≤ 1000000) (hhl : hs.length ≤ 1000000) :
    CallsV Try.prog 14 [.agg #[.slice ab bs.length cb, .slice ah hs.length ch]] w0 (fun v w' => v = .int .i64 (chkM bs hs) ∧ Ext w0 w') := by
 have E0 := Upd.refl (fun _ => False) w0
 refine f_enter (N := 27) Try.func14 rfl rfl rfl ?_
 change WC _ _ _ _ _ _ [(0, .agg #[.slice ab bs.length cb, .slice ah hs.length ch])] _
 refine c_seq fun K1 hK1 => (c_region (t_box (cs := [.slice ab bs.length cb, .slice ah hs.length ch]) rfl rfl rfl rfl (fun bk2 w3 ebk2 sbk2 B4 u5 => ?_)))
 have zu5 := u5.size
 have E6 := E0.next u5 (fun _ _ h => h.elim)
 refine t_assign rfl rfl rfl (t_nil' (hK1 _ _ (c_seq fun K7 hK7 => (c_region (t_field Try.underlying25 rfl Try.sizeOf22 (0) rfl rfl rfl rfl (t_load Try.isAgg22 rfl rfl rfl (B4.get rfl) (t_call (vs := [.slice ab bs.length cb, .func (.func 39) #[] #[]]) own38 rfl rfl rfl rfl (containsB_c encBil (fun _ => rfl) (fun x => !okBil x) 39 [] bs ab bb ob cb _ own39 (fun x _ w _ => badBil_c x w) (hbs.keep E6 (fun _ h => h)) hbl) (fun v8 w9 r11 => ?_))))))))
 obtain ⟨rfl, u10⟩ := r11
 have zu10 := u10.size
 have E12 := E6.next u10 (fun _ _ h => h.elim)
 refine t_assign rfl rfl rfl (t_nil' (hK7 _ _ (c_seq fun K13 hK13 => (c_region (t_field Try.underlying25 rfl Try.sizeOf23 (1) rfl rfl rfl rfl ?_)))))
 have B14 := (B4.keep u10 (fun h => h))
 refine t_load Try.isAgg23 rfl rfl rfl (B14.get rfl) (t_call (vs := [.slice ah hs.length ch, .func (.func 42) #[] #[]]) own41 rfl rfl rfl rfl (containsH_c encHld (fun _ => rfl) (fun x => !okHld x) 42 [] hs ah bh oh ch _ own42 (fun x _ w _ => badHld_c x w) (hhs.keep E12 (fun _ h => h)) hhl) (fun v15 w16 r18 => ?_))
 obtain ⟨rfl, u17⟩ := r18
 have zu17 := u17.size
 have E19 := E12.next u17 (fun _ _ h => h.elim)
 refine t_assign rfl rfl rfl (t_nil' (hK13 _ _ (c_seq fun K20 hK20 => (c_seq fun K21 hK21 => (c_region (t_move rfl rfl rfl (t_move rfl rfl rfl (t_split 12 rfl (fun g12 => ?_) (fun g12 => ?_)))))))))
 ·
  refine t_skip rfl rfl rfl (t_pick_t rfl rfl rfl rfl (t_move rfl rfl rfl (t_skip rfl rfl rfl (t_skip rfl rfl rfl (t_skip rfl rfl rfl (t_skip rfl rfl rfl (t_pick_t rfl rfl rfl rfl (t_move rfl rfl rfl (t_skip rfl rfl rfl (t_skip rfl rfl rfl (t_skip rfl rfl rfl (t_skip rfl rfl rfl (t_pick_t rfl rfl rfl rfl (t_nil' (hK21 _ _ (c_cond_t rfl (c_seq fun K22 hK22 => (c_region (t_assign rfl rfl rfl (t_nil' (hK22 _ _ (c_ret (f_ret1 (v := .int .i64 2) Try.results14 rfl ?_)))))))))))))))))))))))
  exact ⟨congrArg (Value.int .i64) (by unfold chkM; rw [if_pos (by simp only [*, Bool.false_eq_true, false_or, true_or, or_true, not_false_eq_true, not_true_eq_false] <;> omega)]), E19⟩
 ·
  refine t_move rfl rfl rfl (t_pick_f rfl rfl rfl rfl (t_move rfl rfl rfl (t_split 15 rfl (fun g15 => ?_) (fun g15 => ?_))))
  ·
   refine t_skip rfl rfl rfl (t_skip rfl rfl rfl (t_skip rfl rfl rfl (t_skip rfl rfl rfl (t_pick_t rfl rfl rfl rfl (t_move rfl rfl rfl (t_skip rfl rfl rfl (t_skip rfl rfl rfl (t_skip rfl rfl rfl (t_skip rfl rfl rfl (t_pick_t rfl rfl rfl rfl (t_nil' (hK21 _ _ (c_cond_t rfl (c_seq fun K23 hK23 => (c_region (t_assign rfl rfl rfl (t_nil' (hK23 _ _ (c_ret (f_ret1 (v := .int .i64 2) Try.results14 rfl ?_))))))))))))))))))))
   exact ⟨congrArg (Value.int .i64) (by unfold chkM; rw [if_pos (by simp only [*, Bool.false_eq_true, false_or, true_or, or_true, not_false_eq_true, not_true_eq_false] <;> omega)]), E19⟩
  ·
   refine t_field Try.underlying25 rfl Try.sizeOf22 (0) rfl rfl rfl rfl ?_
   have B24 := (B14.keep u17 (fun h => h))
   refine t_load Try.isAgg22 rfl rfl rfl (B24.get rfl) (t_len Try.underlying22 rfl rfl rfl rfl (t_cmp rfl rfl rfl rfl rfl (t_pick_f rfl rfl rfl rfl (t_move rfl rfl rfl (t_splitp 21 rfl (fun g21 => ?_) (fun g21 => ?_))))))
   ·
    refine t_skip rfl rfl rfl (t_skip rfl rfl rfl (t_skip rfl rfl rfl (t_skip rfl rfl rfl (t_pick_t rfl rfl rfl rfl (t_nil' (hK21 _ _ (c_cond_t rfl (c_seq fun K25 hK25 => (c_region (t_assign rfl rfl rfl (t_nil' (hK25 _ _ (c_ret (f_ret1 (v := .int .i64 2) Try.results14 rfl ?_))))))))))))))
    exact ⟨congrArg (Value.int .i64) (by unfold chkM; rw [if_pos (by simp only [*, Bool.false_eq_true, false_or, true_or, or_true, not_false_eq_true, not_true_eq_false] <;> omega)]), E19⟩
   ·
    refine t_field Try.underlying25 rfl Try.sizeOf23 (1) rfl rfl rfl rfl (t_load Try.isAgg23 rfl rfl rfl (B24.get rfl) (t_len Try.underlying23 rfl rfl rfl rfl (t_cmp rfl rfl rfl rfl rfl (t_pick_f rfl rfl rfl rfl (t_nil' (hK21 _ _ (c_condp rfl (fun g26 => ?_) (fun g26 => ?_))))))))
    ·
     refine c_seq fun K26 hK26 => (c_region (t_assign rfl rfl rfl (t_nil' (hK26 _ _ (c_ret (f_ret1 (v := .int .i64 2) Try.results14 rfl ?_))))))
     exact ⟨congrArg (Value.int .i64) (by unfold chkM; rw [if_pos (by simp only [*, Bool.false_eq_true, false_or, true_or, or_true, not_false_eq_true, not_true_eq_false] <;> omega)]), E19⟩
    ·
     refine c_skip (hK20 _ _ (c_seq fun K27 hK27 => (c_region (t_assign rfl rfl rfl (t_nil' (hK27 _ _ (c_ret (f_ret1 (v := .int .i64 0) Try.results14 rfl ?_))))))))
     exact ⟨congrArg (Value.int .i64) (by unfold chkM; rw [if_neg (by simp only [*, Bool.false_eq_true, false_or, true_or, or_true, not_false_eq_true, not_true_eq_false] <;> omega)]), E19⟩

theorem isSurvey_c (x : Sur) (w0 : World) :
    CallsV Try.prog 61 [.agg #[.int .i64 x.book, .int .i64 x.lo, .int .i64 x.hi, .bool x.sealed]] w0 (fun v w' => v = .bool (okSur x) ∧ Ext w0 w') := by
 have E0 := Upd.refl (fun _ => False) w0
 refine f_enter (N := 22) Try.func61 rfl rfl rfl ?_
 change WC _ _ _ _ _ _ [(0, .agg #[.int .i64 x.book, .int .i64 x.lo, .int .i64 x.hi, .bool x.sealed])] _
 refine c_seq fun K1 hK1 => (c_region (t_box (cs := [.int .i64 x.book, .int .i64 x.lo, .int .i64 x.hi, .bool x.sealed]) rfl rfl rfl rfl (fun bk2 w3 ebk2 sbk2 B4 u5 => ?_)))
 have zu5 := u5.size
 have E6 := E0.next u5 (fun _ _ h => h.elim)
 refine t_assign rfl rfl rfl (t_nil' (hK1 _ _ (c_seq fun K7 hK7 => (c_region (t_field Try.underlying79 rfl Try.sizeOf3 (0) rfl rfl rfl rfl (t_load Try.isAgg3 rfl rfl rfl (B4.get rfl) (t_field Try.underlying79 rfl Try.sizeOf77 (1) rfl rfl rfl rfl (t_field Try.underlying77 rfl Try.sizeOf3 (1) rfl rfl rfl rfl (t_load Try.isAgg3 rfl rfl rfl (B4.get rfl) (t_field Try.underlying79 rfl Try.sizeOf77 (1) rfl rfl rfl rfl (t_field Try.underlying77 rfl Try.sizeOf3 (2) rfl rfl rfl rfl (t_load Try.isAgg3 rfl rfl rfl (B4.get rfl) (t_bslice (ps := [(0, .int .i64 x.book), (1, .int .i64 x.lo), (2, .int .i64 x.hi)]) (cs := [.int .i64 x.book, .int .i64 x.lo, .int .i64 x.hi]) (e := 3) rfl rfl ⟨rfl, rfl⟩ (fun w => by kernel_rfl) (fun bk8 w9 ebk8 sbk8 B10 u11 => ?_))))))))))))))
 have zu11 := u11.size
 have E12 := E6.next u11 (fun _ _ h => h.elim)
 refine t_call (vs := [.int .i64 0, .int .i64 1000000, .slice (some ⟨bk8, 0, none⟩) 3 3]) own40 rfl rfl rfl rfl (within3_v 0 1000000 x.book x.lo x.hi _ _ _ B10) (fun v13 w14 r16 => ?_)
 obtain ⟨rfl, u15⟩ := r16
 have zu15 := u15.size
 have E17 := E12.next u15 (fun _ _ h => h.elim)
 refine t_move rfl rfl rfl (t_splitp 13 rfl (fun g13 => ?_) (fun g13 => ?_))
 ·
  refine t_field Try.underlying79 rfl Try.sizeOf77 (1) rfl rfl rfl rfl (t_field Try.underlying77 rfl Try.sizeOf3 (1) rfl rfl rfl rfl ?_)
  have B18 := ((B4.keep u11 (fun h => h)).keep u15 (fun h => h))
  refine t_load Try.isAgg3 rfl rfl rfl (B18.get rfl) (t_field Try.underlying79 rfl Try.sizeOf77 (1) rfl rfl rfl rfl (t_field Try.underlying77 rfl Try.sizeOf3 (2) rfl rfl rfl rfl (t_load Try.isAgg3 rfl rfl rfl (B18.get rfl) (t_cmp rfl rfl rfl rfl rfl (t_pick_t rfl rfl rfl rfl (t_assign rfl rfl rfl (t_nil' (hK7 _ _ (c_ret (f_ret1 (v := .bool (decide (x.lo ≤ x.hi))) Try.results61 rfl ?_))))))))))
  exact ⟨congrArg Value.bool (by rw [Bool.eq_iff_iff]; simp [okSur] <;> omega), E17⟩
 ·
  refine t_skip rfl rfl rfl (t_skip rfl rfl rfl (t_skip rfl rfl rfl (t_skip rfl rfl rfl (t_skip rfl rfl rfl (t_skip rfl rfl rfl (t_skip rfl rfl rfl (t_pick_f rfl rfl rfl rfl (t_assign rfl rfl rfl (t_nil' (hK7 _ _ (c_ret (f_ret1 (v := .bool false) Try.results61 rfl ?_))))))))))))
  exact ⟨congrArg Value.bool (by rw [Bool.eq_iff_iff]; simp [okSur] <;> omega), E17⟩

theorem badSur_c (x : Sur) (w0 : World) :
    CallsV Try.prog 60 [.agg #[.int .i64 x.book, .int .i64 x.lo, .int .i64 x.hi, .bool x.sealed]] w0 (fun v w' => v = .bool (!okSur x) ∧ Ext w0 w') := by
 have E0 := Upd.refl (fun _ => False) w0
 refine f_enter (N := 6) Try.func60 rfl rfl rfl ?_
 change WC _ _ _ _ _ _ [(0, .agg #[.int .i64 x.book, .int .i64 x.lo, .int .i64 x.hi, .bool x.sealed])] _
 refine c_seq fun K1 hK1 => (c_region (t_box (cs := [.int .i64 x.book, .int .i64 x.lo, .int .i64 x.hi, .bool x.sealed]) rfl rfl rfl rfl (fun bk2 w3 ebk2 sbk2 B4 u5 => ?_)))
 have zu5 := u5.size
 have E6 := E0.next u5 (fun _ _ h => h.elim)
 refine t_assign rfl rfl rfl (t_nil' (hK1 _ _ (c_seq fun K7 hK7 => (c_region (t_loadN (vs := [.int .i64 x.book, .int .i64 x.lo, .int .i64 x.hi, .bool x.sealed]) Try.isAgg79 Try.sizeOf79 rfl rfl rfl (B4.at.sub 0 4) rfl (t_call (vs := [.agg #[.int .i64 x.book, .int .i64 x.lo, .int .i64 x.hi, .bool x.sealed]]) own61 rfl rfl rfl rfl (isSurvey_c x _) (fun v8 w9 r11 => ?_)))))))
 obtain ⟨rfl, u10⟩ := r11
 have zu10 := u10.size
 have E12 := E6.next u10 (fun _ _ h => h.elim)
 refine t_not rfl rfl rfl (t_assign rfl rfl rfl (t_nil' (hK7 _ _ (c_ret (f_ret1 (v := .bool (!(okSur x))) Try.results60 rfl ?_)))))
 exact ⟨rfl, E12⟩

theorem isEvent_c (x : Ev) (w0 : World) :
    CallsV Try.prog 72 [.agg #[.int .i64 x.kind, .int .i64 x.minute, .int .i64 x.bill, .int .i64 x.frm, .int .i64 x.to, .int .i64 x.tons, .int .i64 x.port, .int .i64 x.sn]] w0 (fun v w' => v = .bool (okEv x) ∧ Ext w0 w') := by
 have E0 := Upd.refl (fun _ => False) w0
 refine f_enter (N := 93) Try.func72 rfl rfl rfl ?_
 change WC _ _ _ _ _ _ [(0, .agg #[.int .i64 x.kind, .int .i64 x.minute, .int .i64 x.bill, .int .i64 x.frm, .int .i64 x.to, .int .i64 x.tons, .int .i64 x.port, .int .i64 x.sn])] _
 refine c_seq fun K1 hK1 => (c_region (t_box (cs := [.int .i64 x.kind, .int .i64 x.minute, .int .i64 x.bill, .int .i64 x.frm, .int .i64 x.to, .int .i64 x.tons, .int .i64 x.port, .int .i64 x.sn]) rfl rfl rfl rfl (fun bk2 w3 ebk2 sbk2 B4 u5 => ?_)))
 have zu5 := u5.size
 have E6 := E0.next u5 (fun _ _ h => h.elim)
 refine t_assign rfl rfl rfl (t_nil' (hK1 _ _ (c_seq fun K7 hK7 => (c_region (t_field Try.underlying41 rfl Try.sizeOf3 (1) rfl rfl rfl rfl (t_load Try.isAgg3 rfl rfl rfl (B4.get rfl) (t_bslice (ps := [(0, .int .i64 x.minute)]) (cs := [.int .i64 x.minute]) (e := 3) rfl rfl ⟨rfl, rfl⟩ (fun w => by kernel_rfl) (fun bk8 w9 ebk8 sbk8 B10 u11 => ?_))))))))
 have zu11 := u11.size
 have E12 := E6.next u11 (fun _ _ h => h.elim)
 refine t_call (vs := [.int .i64 0, .int .i64 1000000, .slice (some ⟨bk8, 0, none⟩) 1 1]) own40 rfl rfl rfl rfl (within1_v 0 1000000 x.minute _ _ _ B10) (fun v13 w14 r16 => ?_)
 obtain ⟨rfl, u15⟩ := r16
 have zu15 := u15.size
 have E17 := E12.next u15 (fun _ _ h => h.elim)
 refine t_move rfl rfl rfl (t_splitp 11 rfl (fun g11 => ?_) (fun g11 => ?_))
 ·
  refine t_field Try.underlying41 rfl Try.sizeOf3 (2) rfl rfl rfl rfl ?_
  have B18 := ((B4.keep u11 (fun h => h)).keep u15 (fun h => h))
  refine t_load Try.isAgg3 rfl rfl rfl (B18.get rfl) (t_cmp rfl rfl rfl rfl rfl (t_pick_t rfl rfl rfl rfl (t_move rfl rfl rfl (t_splitp 16 rfl (fun g16 => ?_) (fun g16 => ?_)))))
  ·
   refine t_field Try.underlying41 rfl Try.sizeOf3 (3) rfl rfl rfl rfl (t_load Try.isAgg3 rfl rfl rfl (B18.get rfl) (t_cmp rfl rfl rfl rfl rfl (t_pick_t rfl rfl rfl rfl (t_move rfl rfl rfl (t_splitp 21 rfl (fun g21 => ?_) (fun g21 => ?_))))))
   ·
    refine t_field Try.underlying41 rfl Try.sizeOf3 (4) rfl rfl rfl rfl (t_load Try.isAgg3 rfl rfl rfl (B18.get rfl) (t_cmp rfl rfl rfl rfl rfl (t_pick_t rfl rfl rfl rfl (t_assign rfl rfl rfl (t_nil' (hK7 _ _ (c_seq fun K19 hK19 => (c_region (t_field Try.underlying41 rfl Try.sizeOf3 (5) rfl rfl rfl rfl (t_load Try.isAgg3 rfl rfl rfl (B18.get rfl) (t_bslice (ps := [(0, .int .i64 x.tons)]) (cs := [.int .i64 x.tons]) (e := 3) rfl rfl ⟨rfl, rfl⟩ (fun w => by kernel_rfl) (fun bk20 w21 ebk20 sbk20 B22 u23 => ?_))))))))))))
    have zu23 := u23.size
    have E24 := E17.next u23 (fun _ _ h => h.elim)
    refine t_call (vs := [.int .i64 1, .int .i64 1000000, .slice (some ⟨bk20, 0, none⟩) 1 1]) own40 rfl rfl rfl rfl (within1_v 1 1000000 x.tons _ _ _ B22) (fun v25 w26 r28 => ?_)
    obtain ⟨rfl, u27⟩ := r28
    have zu27 := u27.size
    have E29 := E24.next u27 (fun _ _ h => h.elim)
    refine t_assign rfl rfl rfl (t_nil' (hK19 _ _ (c_seq fun K30 hK30 => (c_region (t_field Try.underlying41 rfl Try.sizeOf3 (6) rfl rfl rfl rfl ?_)))))
    have B31 := ((B18.keep u23 (fun h => h)).keep u27 (fun h => h))
    refine t_load Try.isAgg3 rfl rfl rfl (B31.get rfl) (t_bslice (ps := [(0, .int .i64 x.port)]) (cs := [.int .i64 x.port]) (e := 3) rfl rfl ⟨rfl, rfl⟩ (fun w => by kernel_rfl) (fun bk32 w33 ebk32 sbk32 B34 u35 => ?_))
    have zu35 := u35.size
    have E36 := E29.next u35 (fun _ _ h => h.elim)
    refine t_call (vs := [.int .i64 0, .int .i64 99, .slice (some ⟨bk32, 0, none⟩) 1 1]) own40 rfl rfl rfl rfl (within1_v 0 99 x.port _ _ _ B34) (fun v37 w38 r40 => ?_)
    obtain ⟨rfl, u39⟩ := r40
    have zu39 := u39.size
    have E41 := E36.next u39 (fun _ _ h => h.elim)
    refine t_assign rfl rfl rfl (t_nil' (hK30 _ _ (c_seq fun K42 hK42 => (c_region (t_field Try.underlying41 rfl Try.sizeOf39 (0) rfl rfl rfl rfl ?_)))))
    have B43 := ((B31.keep u35 (fun h => h)).keep u39 (fun h => h))
    refine t_load Try.isAgg39 rfl rfl rfl (B43.get rfl) (t_assign rfl rfl rfl (t_nil' (hK42 _ _ (c_seq fun K44 hK44 => (c_region (t_field Try.underlying41 rfl Try.sizeOf39 (0) rfl rfl rfl rfl (t_store (vs := [.int .i64 0]) Try.sizeOf39 rfl rfl rfl B43 rfl rfl (Nat.le_of_ble_eq_true rfl) (by simp [Value.oneCell']) (fun w45 sw45 B47 u46 => ?_))))))))
    have zu46 := u46.size
    have E48 := E41.next u46 (fun i hi (h : i = bk2) => show False by first | omega | assumption)
    have B47 : Blk w45 bk2 41 [.int .i64 0, .int .i64 x.minute, .int .i64 x.bill, .int .i64 x.frm, .int .i64 x.to, .int .i64 x.tons, .int .i64 x.port, .int .i64 x.sn] := B47
    refine t_field Try.underlying41 rfl Try.sizeOf3 (1) rfl rfl rfl rfl (t_store (vs := [.int .i64 0]) Try.sizeOf3 rfl rfl rfl B47 rfl rfl (Nat.le_of_ble_eq_true rfl) (by simp [Value.oneCell']) (fun w49 sw49 B51 u50 => ?_))
    have zu50 := u50.size
    have E52 := E48.next u50 (fun i hi (h : i = bk2) => show False by first | omega | assumption)
    have B51 : Blk w49 bk2 41 [.int .i64 0, .int .i64 0, .int .i64 x.bill, .int .i64 x.frm, .int .i64 x.to, .int .i64 x.tons, .int .i64 x.port, .int .i64 x.sn] := B51
    refine t_nil' (hK44 _ _ (c_seq fun K53 hK53 => (c_seq fun K54 hK54 => (c_region (t_move rfl rfl rfl (t_nil' (hK54 _ _ (c_block (c_seq fun K55 hK55 => (c_region (t_cmp rfl rfl rfl rfl rfl (t_assign rfl rfl rfl (t_nil' (hK55 _ _ (c_condp rfl (fun g39 => ?_) (fun g39 => ?_))))))))))))))))
    ·
     refine c_seq fun K56 hK56 => (c_region (t_move rfl rfl rfl (t_move rfl rfl rfl (t_splitp 42 rfl (fun g42 => ?_) (fun g42 => ?_)))))
     ·
      refine t_move rfl rfl rfl (t_pick_t rfl rfl rfl rfl (t_move rfl rfl rfl (t_splitp 45 rfl (fun g45 => ?_) (fun g45 => ?_))))
      ·
       refine t_move rfl rfl rfl (t_pick_t rfl rfl rfl rfl (t_assign rfl rfl rfl (t_nil' (hK56 _ _ (c_region (t_field Try.underlying41 rfl Try.sizeOf3 (2) rfl rfl rfl rfl (t_store (vs := [.int .i64 0]) Try.sizeOf3 rfl rfl rfl B51 rfl rfl (Nat.le_of_ble_eq_true rfl) (by simp [Value.oneCell']) (fun w57 sw57 B59 u58 => ?_))))))))
       have zu58 := u58.size
       have E60 := E52.next u58 (fun i hi (h : i = bk2) => show False by first | omega | assumption)
       have B59 : Blk w57 bk2 41 [.int .i64 0, .int .i64 0, .int .i64 0, .int .i64 x.frm, .int .i64 x.to, .int .i64 x.tons, .int .i64 x.port, .int .i64 x.sn] := B59
       refine t_field Try.underlying41 rfl Try.sizeOf3 (4) rfl rfl rfl rfl (t_store (vs := [.int .i64 0]) Try.sizeOf3 rfl rfl rfl B59 rfl rfl (Nat.le_of_ble_eq_true rfl) (by simp [Value.oneCell']) (fun w61 sw61 B63 u62 => ?_))
       have zu62 := u62.size
       have E64 := E60.next u62 (fun i hi (h : i = bk2) => show False by first | omega | assumption)
       have B63 : Blk w61 bk2 41 [.int .i64 0, .int .i64 0, .int .i64 0, .int .i64 x.frm, .int .i64 0, .int .i64 x.tons, .int .i64 x.port, .int .i64 x.sn] := B63
       refine t_field Try.underlying41 rfl Try.sizeOf3 (5) rfl rfl rfl rfl (t_store (vs := [.int .i64 0]) Try.sizeOf3 rfl rfl rfl B63 rfl rfl (Nat.le_of_ble_eq_true rfl) (by simp [Value.oneCell']) (fun w65 sw65 B67 u66 => ?_))
       have zu66 := u66.size
       have E68 := E64.next u66 (fun i hi (h : i = bk2) => show False by first | omega | assumption)
       have B67 : Blk w65 bk2 41 [.int .i64 0, .int .i64 0, .int .i64 0, .int .i64 x.frm, .int .i64 0, .int .i64 0, .int .i64 x.port, .int .i64 x.sn] := B67
       refine t_field Try.underlying41 rfl Try.sizeOf3 (6) rfl rfl rfl rfl (t_store (vs := [.int .i64 0]) Try.sizeOf3 rfl rfl rfl B67 rfl rfl (Nat.le_of_ble_eq_true rfl) (by simp [Value.oneCell']) (fun w69 sw69 B71 u70 => ?_))
       have zu70 := u70.size
       have E72 := E68.next u70 (fun i hi (h : i = bk2) => show False by first | omega | assumption)
       have B71 : Blk w69 bk2 41 [.int .i64 0, .int .i64 0, .int .i64 0, .int .i64 x.frm, .int .i64 0, .int .i64 0, .int .i64 0, .int .i64 x.sn] := B71
       refine t_nil' (hK53 _ _ (c_seq fun K73 hK73 => (c_region (t_move rfl rfl rfl (t_move rfl rfl rfl (t_splitp 88 rfl (fun g88 => ?_) (fun g88 => ?_)))))))
       ·
        refine t_loadN (vs := [.int .i64 0, .int .i64 0, .int .i64 0, .int .i64 x.frm, .int .i64 0, .int .i64 0, .int .i64 0, .int .i64 x.sn]) Try.isAgg41 Try.sizeOf41 rfl rfl rfl (B71.at.sub 0 8) rfl (t_build (ps := []) (v := .agg #[.int .i64 0, .int .i64 0, .int .i64 0, .int .i64 0, .int .i64 0, .int .i64 0, .int .i64 0, .int .i64 0]) rfl rfl ⟨rfl, rfl⟩ (fun w => by kernel_rfl) (t_eqS (xs := [.int .i64 0, .int .i64 0, .int .i64 0, .int .i64 x.frm, .int .i64 0, .int .i64 0, .int .i64 0, .int .i64 x.sn]) (ys := [.int .i64 0, .int .i64 0, .int .i64 0, .int .i64 0, .int .i64 0, .int .i64 0, .int .i64 0, .int .i64 0]) (by kernel_rfl) (eqIn41 9998 0 0 0 x.frm 0 0 0 x.sn 0 0 0 0 0 0 0 0) rfl rfl rfl rfl (t_pick_t rfl rfl rfl rfl (t_assign rfl rfl rfl (t_nil' (hK73 _ _ (c_ret (f_ret1 (v := .bool (decide (0 = 0) && decide (0 = 0) && decide (0 = 0) && decide (x.frm = 0) && decide (0 = 0) && decide (0 = 0) && decide (0 = 0) && decide (x.sn = 0))) Try.results72 rfl ?_))))))))
        exact ⟨congrArg Value.bool (by rw [Bool.eq_iff_iff]; simp [okEv, okEv0, okTons, okPort] <;> omega), E72⟩
       ·
        refine t_skip rfl rfl rfl (t_skip rfl rfl rfl (t_skip rfl rfl rfl (t_pick_f rfl rfl rfl rfl (t_assign rfl rfl rfl (t_nil' (hK73 _ _ (c_ret (f_ret1 (v := .bool false) Try.results72 rfl ?_))))))))
        exact ⟨congrArg Value.bool (by rw [Bool.eq_iff_iff]; simp [okEv, okEv0, okTons, okPort] <;> omega), E72⟩
      ·
       refine t_skip rfl rfl rfl (t_pick_f rfl rfl rfl rfl (t_assign rfl rfl rfl (t_nil' (hK56 _ _ (c_region (t_field Try.underlying41 rfl Try.sizeOf3 (2) rfl rfl rfl rfl (t_store (vs := [.int .i64 0]) Try.sizeOf3 rfl rfl rfl B51 rfl rfl (Nat.le_of_ble_eq_true rfl) (by simp [Value.oneCell']) (fun w74 sw74 B76 u75 => ?_))))))))
       have zu75 := u75.size
       have E77 := E52.next u75 (fun i hi (h : i = bk2) => show False by first | omega | assumption)
       have B76 : Blk w74 bk2 41 [.int .i64 0, .int .i64 0, .int .i64 0, .int .i64 x.frm, .int .i64 x.to, .int .i64 x.tons, .int .i64 x.port, .int .i64 x.sn] := B76
       refine t_field Try.underlying41 rfl Try.sizeOf3 (4) rfl rfl rfl rfl (t_store (vs := [.int .i64 0]) Try.sizeOf3 rfl rfl rfl B76 rfl rfl (Nat.le_of_ble_eq_true rfl) (by simp [Value.oneCell']) (fun w78 sw78 B80 u79 => ?_))
       have zu79 := u79.size
       have E81 := E77.next u79 (fun i hi (h : i = bk2) => show False by first | omega | assumption)
       have B80 : Blk w78 bk2 41 [.int .i64 0, .int .i64 0, .int .i64 0, .int .i64 x.frm, .int .i64 0, .int .i64 x.tons, .int .i64 x.port, .int .i64 x.sn] := B80
       refine t_field Try.underlying41 rfl Try.sizeOf3 (5) rfl rfl rfl rfl (t_store (vs := [.int .i64 0]) Try.sizeOf3 rfl rfl rfl B80 rfl rfl (Nat.le_of_ble_eq_true rfl) (by simp [Value.oneCell']) (fun w82 sw82 B84 u83 => ?_))
       have zu83 := u83.size
       have E85 := E81.next u83 (fun i hi (h : i = bk2) => show False by first | omega | assumption)
       have B84 : Blk w82 bk2 41 [.int .i64 0, .int .i64 0, .int .i64 0, .int .i64 x.frm, .int .i64 0, .int .i64 0, .int .i64 x.port, .int .i64 x.sn] := B84
       refine t_field Try.underlying41 rfl Try.sizeOf3 (6) rfl rfl rfl rfl (t_store (vs := [.int .i64 0]) Try.sizeOf3 rfl rfl rfl B84 rfl rfl (Nat.le_of_ble_eq_true rfl) (by simp [Value.oneCell']) (fun w86 sw86 B88 u87 => ?_))
       have zu87 := u87.size
       have E89 := E85.next u87 (fun i hi (h : i = bk2) => show False by first | omega | assumption)
       refine t_nil' (hK53 _ _ (c_seq fun K90 hK90 => (c_region (t_move rfl rfl rfl (t_move rfl rfl rfl (t_skip rfl rfl rfl (t_skip rfl rfl rfl (t_skip rfl rfl rfl (t_pick_f rfl rfl rfl rfl (t_assign rfl rfl rfl (t_nil' (hK90 _ _ (c_ret (f_ret1 (v := .bool false) Try.results72 rfl ?_))))))))))))))
       exact ⟨congrArg Value.bool (by rw [Bool.eq_iff_iff]; simp [okEv, okEv0, okTons, okPort] <;> omega), E89⟩
     ·
      refine t_skip rfl rfl rfl (t_pick_f rfl rfl rfl rfl (t_move rfl rfl rfl (t_skip rfl rfl rfl (t_pick_f rfl rfl rfl rfl (t_assign rfl rfl rfl (t_nil' (hK56 _ _ (c_region (t_field Try.underlying41 rfl Try.sizeOf3 (2) rfl rfl rfl rfl (t_store (vs := [.int .i64 0]) Try.sizeOf3 rfl rfl rfl B51 rfl rfl (Nat.le_of_ble_eq_true rfl) (by simp [Value.oneCell']) (fun w91 sw91 B93 u92 => ?_)))))))))))
      have zu92 := u92.size
      have E94 := E52.next u92 (fun i hi (h : i = bk2) => show False by first | omega | assumption)
      have B93 : Blk w91 bk2 41 [.int .i64 0, .int .i64 0, .int .i64 0, .int .i64 x.frm, .int .i64 x.to, .int .i64 x.tons, .int .i64 x.port, .int .i64 x.sn] := B93
      refine t_field Try.underlying41 rfl Try.sizeOf3 (4) rfl rfl rfl rfl (t_store (vs := [.int .i64 0]) Try.sizeOf3 rfl rfl rfl B93 rfl rfl (Nat.le_of_ble_eq_true rfl) (by simp [Value.oneCell']) (fun w95 sw95 B97 u96 => ?_))
      have zu96 := u96.size
      have E98 := E94.next u96 (fun i hi (h : i = bk2) => show False by first | omega | assumption)
      have B97 : Blk w95 bk2 41 [.int .i64 0, .int .i64 0, .int .i64 0, .int .i64 x.frm, .int .i64 0, .int .i64 x.tons, .int .i64 x.port, .int .i64 x.sn] := B97
      refine t_field Try.underlying41 rfl Try.sizeOf3 (5) rfl rfl rfl rfl (t_store (vs := [.int .i64 0]) Try.sizeOf3 rfl rfl rfl B97 rfl rfl (Nat.le_of_ble_eq_true rfl) (by simp [Value.oneCell']) (fun w99 sw99 B101 u100 => ?_))
      have zu100 := u100.size
      have E102 := E98.next u100 (fun i hi (h : i = bk2) => show False by first | omega | assumption)
      have B101 : Blk w99 bk2 41 [.int .i64 0, .int .i64 0, .int .i64 0, .int .i64 x.frm, .int .i64 0, .int .i64 0, .int .i64 x.port, .int .i64 x.sn] := B101
      refine t_field Try.underlying41 rfl Try.sizeOf3 (6) rfl rfl rfl rfl (t_store (vs := [.int .i64 0]) Try.sizeOf3 rfl rfl rfl B101 rfl rfl (Nat.le_of_ble_eq_true rfl) (by simp [Value.oneCell']) (fun w103 sw103 B105 u104 => ?_))
      have zu104 := u104.size
      have E106 := E102.next u104 (fun i hi (h : i = bk2) => show False by first | omega | assumption)
      refine t_nil' (hK53 _ _ (c_seq fun K107 hK107 => (c_region (t_move rfl rfl rfl (t_move rfl rfl rfl (t_skip rfl rfl rfl (t_skip rfl rfl rfl (t_skip rfl rfl rfl (t_pick_f rfl rfl rfl rfl (t_assign rfl rfl rfl (t_nil' (hK107 _ _ (c_ret (f_ret1 (v := .bool false) Try.results72 rfl ?_))))))))))))))
      exact ⟨congrArg Value.bool (by rw [Bool.eq_iff_iff]; simp [okEv, okEv0, okTons, okPort] <;> omega), E106⟩
    ·
     refine c_seq fun K108 hK108 => (c_region (t_cmp rfl rfl rfl rfl rfl (t_assign rfl rfl rfl (t_nil' (hK108 _ _ (c_condp rfl (fun g52 => ?_) (fun g52 => ?_)))))))
     ·
      refine c_seq fun K109 hK109 => (c_region (t_move rfl rfl rfl (t_move rfl rfl rfl (t_splitp 55 rfl (fun g55 => ?_) (fun g55 => ?_)))))
      ·
       refine t_move rfl rfl rfl (t_pick_t rfl rfl rfl rfl (t_assign rfl rfl rfl (t_nil' (hK109 _ _ (c_region (t_field Try.underlying41 rfl Try.sizeOf3 (3) rfl rfl rfl rfl (t_store (vs := [.int .i64 0]) Try.sizeOf3 rfl rfl rfl B51 rfl rfl (Nat.le_of_ble_eq_true rfl) (by simp [Value.oneCell']) (fun w110 sw110 B112 u111 => ?_))))))))
       have zu111 := u111.size
       have E113 := E52.next u111 (fun i hi (h : i = bk2) => show False by first | omega | assumption)
       have B112 : Blk w110 bk2 41 [.int .i64 0, .int .i64 0, .int .i64 x.bill, .int .i64 0, .int .i64 x.to, .int .i64 x.tons, .int .i64 x.port, .int .i64 x.sn] := B112
       refine t_field Try.underlying41 rfl Try.sizeOf3 (4) rfl rfl rfl rfl (t_store (vs := [.int .i64 0]) Try.sizeOf3 rfl rfl rfl B112 rfl rfl (Nat.le_of_ble_eq_true rfl) (by simp [Value.oneCell']) (fun w114 sw114 B116 u115 => ?_))
       have zu115 := u115.size
       have E117 := E113.next u115 (fun i hi (h : i = bk2) => show False by first | omega | assumption)
       have B116 : Blk w114 bk2 41 [.int .i64 0, .int .i64 0, .int .i64 x.bill, .int .i64 0, .int .i64 0, .int .i64 x.tons, .int .i64 x.port, .int .i64 x.sn] := B116
       refine t_field Try.underlying41 rfl Try.sizeOf3 (5) rfl rfl rfl rfl (t_store (vs := [.int .i64 0]) Try.sizeOf3 rfl rfl rfl B116 rfl rfl (Nat.le_of_ble_eq_true rfl) (by simp [Value.oneCell']) (fun w118 sw118 B120 u119 => ?_))
       have zu119 := u119.size
       have E121 := E117.next u119 (fun i hi (h : i = bk2) => show False by first | omega | assumption)
       have B120 : Blk w118 bk2 41 [.int .i64 0, .int .i64 0, .int .i64 x.bill, .int .i64 0, .int .i64 0, .int .i64 0, .int .i64 x.port, .int .i64 x.sn] := B120
       refine t_nil' (hK53 _ _ (c_seq fun K122 hK122 => (c_region (t_move rfl rfl rfl (t_move rfl rfl rfl (t_splitp 88 rfl (fun g88 => ?_) (fun g88 => ?_)))))))
       ·
        refine t_loadN (vs := [.int .i64 0, .int .i64 0, .int .i64 x.bill, .int .i64 0, .int .i64 0, .int .i64 0, .int .i64 x.port, .int .i64 x.sn]) Try.isAgg41 Try.sizeOf41 rfl rfl rfl (B120.at.sub 0 8) rfl (t_build (ps := []) (v := .agg #[.int .i64 0, .int .i64 0, .int .i64 0, .int .i64 0, .int .i64 0, .int .i64 0, .int .i64 0, .int .i64 0]) rfl rfl ⟨rfl, rfl⟩ (fun w => by kernel_rfl) (t_eqS (xs := [.int .i64 0, .int .i64 0, .int .i64 x.bill, .int .i64 0, .int .i64 0, .int .i64 0, .int .i64 x.port, .int .i64 x.sn]) (ys := [.int .i64 0, .int .i64 0, .int .i64 0, .int .i64 0, .int .i64 0, .int .i64 0, .int .i64 0, .int .i64 0]) (by kernel_rfl) (eqIn41 9998 0 0 x.bill 0 0 0 x.port x.sn 0 0 0 0 0 0 0 0) rfl rfl rfl rfl (t_pick_t rfl rfl rfl rfl (t_assign rfl rfl rfl (t_nil' (hK122 _ _ (c_ret (f_ret1 (v := .bool (decide (0 = 0) && decide (0 = 0) && decide (x.bill = 0) && decide (0 = 0) && decide (0 = 0) && decide (0 = 0) && decide (x.port = 0) && decide (x.sn = 0))) Try.results72 rfl ?_))))))))
        exact ⟨congrArg Value.bool (by rw [Bool.eq_iff_iff]; simp [okEv, okEv0, okTons, okPort] <;> omega), E121⟩
       ·
        refine t_skip rfl rfl rfl (t_skip rfl rfl rfl (t_skip rfl rfl rfl (t_pick_f rfl rfl rfl rfl (t_assign rfl rfl rfl (t_nil' (hK122 _ _ (c_ret (f_ret1 (v := .bool false) Try.results72 rfl ?_))))))))
        exact ⟨congrArg Value.bool (by rw [Bool.eq_iff_iff]; simp [okEv, okEv0, okTons, okPort] <;> omega), E121⟩
      ·
       refine t_skip rfl rfl rfl (t_pick_f rfl rfl rfl rfl (t_assign rfl rfl rfl (t_nil' (hK109 _ _ (c_region (t_field Try.underlying41 rfl Try.sizeOf3 (3) rfl rfl rfl rfl (t_store (vs := [.int .i64 0]) Try.sizeOf3 rfl rfl rfl B51 rfl rfl (Nat.le_of_ble_eq_true rfl) (by simp [Value.oneCell']) (fun w123 sw123 B125 u124 => ?_))))))))
       have zu124 := u124.size
       have E126 := E52.next u124 (fun i hi (h : i = bk2) => show False by first | omega | assumption)
       have B125 : Blk w123 bk2 41 [.int .i64 0, .int .i64 0, .int .i64 x.bill, .int .i64 0, .int .i64 x.to, .int .i64 x.tons, .int .i64 x.port, .int .i64 x.sn] := B125
       refine t_field Try.underlying41 rfl Try.sizeOf3 (4) rfl rfl rfl rfl (t_store (vs := [.int .i64 0]) Try.sizeOf3 rfl rfl rfl B125 rfl rfl (Nat.le_of_ble_eq_true rfl) (by simp [Value.oneCell']) (fun w127 sw127 B129 u128 => ?_))
       have zu128 := u128.size
       have E130 := E126.next u128 (fun i hi (h : i = bk2) => show False by first | omega | assumption)
       have B129 : Blk w127 bk2 41 [.int .i64 0, .int .i64 0, .int .i64 x.bill, .int .i64 0, .int .i64 0, .int .i64 x.tons, .int .i64 x.port, .int .i64 x.sn] := B129
       refine t_field Try.underlying41 rfl Try.sizeOf3 (5) rfl rfl rfl rfl (t_store (vs := [.int .i64 0]) Try.sizeOf3 rfl rfl rfl B129 rfl rfl (Nat.le_of_ble_eq_true rfl) (by simp [Value.oneCell']) (fun w131 sw131 B133 u132 => ?_))
       have zu132 := u132.size
       have E134 := E130.next u132 (fun i hi (h : i = bk2) => show False by first | omega | assumption)
       refine t_nil' (hK53 _ _ (c_seq fun K135 hK135 => (c_region (t_move rfl rfl rfl (t_move rfl rfl rfl (t_skip rfl rfl rfl (t_skip rfl rfl rfl (t_skip rfl rfl rfl (t_pick_f rfl rfl rfl rfl (t_assign rfl rfl rfl (t_nil' (hK135 _ _ (c_ret (f_ret1 (v := .bool false) Try.results72 rfl ?_))))))))))))))
       exact ⟨congrArg Value.bool (by rw [Bool.eq_iff_iff]; simp [okEv, okEv0, okTons, okPort] <;> omega), E134⟩
     ·
      refine c_seq fun K136 hK136 => (c_region (t_cmp rfl rfl rfl rfl rfl (t_assign rfl rfl rfl (t_nil' (hK136 _ _ (c_condp rfl (fun g61 => ?_) (fun g61 => ?_)))))))
      ·
       refine c_seq fun K137 hK137 => (c_region (t_move rfl rfl rfl (t_move rfl rfl rfl (t_splitp 64 rfl (fun g64 => ?_) (fun g64 => ?_)))))
       ·
        refine t_move rfl rfl rfl (t_pick_t rfl rfl rfl rfl (t_move rfl rfl rfl (t_splitp 67 rfl (fun g67 => ?_) (fun g67 => ?_))))
        ·
         refine t_move rfl rfl rfl (t_pick_t rfl rfl rfl rfl (t_assign rfl rfl rfl (t_nil' (hK137 _ _ (c_region (t_field Try.underlying41 rfl Try.sizeOf3 (3) rfl rfl rfl rfl (t_store (vs := [.int .i64 0]) Try.sizeOf3 rfl rfl rfl B51 rfl rfl (Nat.le_of_ble_eq_true rfl) (by simp [Value.oneCell']) (fun w138 sw138 B140 u139 => ?_))))))))
         have zu139 := u139.size
         have E141 := E52.next u139 (fun i hi (h : i = bk2) => show False by first | omega | assumption)
         have B140 : Blk w138 bk2 41 [.int .i64 0, .int .i64 0, .int .i64 x.bill, .int .i64 0, .int .i64 x.to, .int .i64 x.tons, .int .i64 x.port, .int .i64 x.sn] := B140
         refine t_field Try.underlying41 rfl Try.sizeOf3 (5) rfl rfl rfl rfl (t_store (vs := [.int .i64 0]) Try.sizeOf3 rfl rfl rfl B140 rfl rfl (Nat.le_of_ble_eq_true rfl) (by simp [Value.oneCell']) (fun w142 sw142 B144 u143 => ?_))
         have zu143 := u143.size
         have E145 := E141.next u143 (fun i hi (h : i = bk2) => show False by first | omega | assumption)
         have B144 : Blk w142 bk2 41 [.int .i64 0, .int .i64 0, .int .i64 x.bill, .int .i64 0, .int .i64 x.to, .int .i64 0, .int .i64 x.port, .int .i64 x.sn] := B144
         refine t_field Try.underlying41 rfl Try.sizeOf3 (6) rfl rfl rfl rfl (t_store (vs := [.int .i64 0]) Try.sizeOf3 rfl rfl rfl B144 rfl rfl (Nat.le_of_ble_eq_true rfl) (by simp [Value.oneCell']) (fun w146 sw146 B148 u147 => ?_))
         have zu147 := u147.size
         have E149 := E145.next u147 (fun i hi (h : i = bk2) => show False by first | omega | assumption)
         have B148 : Blk w146 bk2 41 [.int .i64 0, .int .i64 0, .int .i64 x.bill, .int .i64 0, .int .i64 x.to, .int .i64 0, .int .i64 0, .int .i64 x.sn] := B148
         refine t_nil' (hK53 _ _ (c_seq fun K150 hK150 => (c_region (t_move rfl rfl rfl (t_move rfl rfl rfl (t_splitp 88 rfl (fun g88 => ?_) (fun g88 => ?_)))))))
         ·
          refine t_loadN (vs := [.int .i64 0, .int .i64 0, .int .i64 x.bill, .int .i64 0, .int .i64 x.to, .int .i64 0, .int .i64 0, .int .i64 x.sn]) Try.isAgg41 Try.sizeOf41 rfl rfl rfl (B148.at.sub 0 8) rfl (t_build (ps := []) (v := .agg #[.int .i64 0, .int .i64 0, .int .i64 0, .int .i64 0, .int .i64 0, .int .i64 0, .int .i64 0, .int .i64 0]) rfl rfl ⟨rfl, rfl⟩ (fun w => by kernel_rfl) (t_eqS (xs := [.int .i64 0, .int .i64 0, .int .i64 x.bill, .int .i64 0, .int .i64 x.to, .int .i64 0, .int .i64 0, .int .i64 x.sn]) (ys := [.int .i64 0, .int .i64 0, .int .i64 0, .int .i64 0, .int .i64 0, .int .i64 0, .int .i64 0, .int .i64 0]) (by kernel_rfl) (eqIn41 9998 0 0 x.bill 0 x.to 0 0 x.sn 0 0 0 0 0 0 0 0) rfl rfl rfl rfl (t_pick_t rfl rfl rfl rfl (t_assign rfl rfl rfl (t_nil' (hK150 _ _ (c_ret (f_ret1 (v := .bool (decide (0 = 0) && decide (0 = 0) && decide (x.bill = 0) && decide (0 = 0) && decide (x.to = 0) && decide (0 = 0) && decide (0 = 0) && decide (x.sn = 0))) Try.results72 rfl ?_))))))))
          exact ⟨congrArg Value.bool (by rw [Bool.eq_iff_iff]; simp [okEv, okEv0, okTons, okPort] <;> omega), E149⟩
         ·
          refine t_skip rfl rfl rfl (t_skip rfl rfl rfl (t_skip rfl rfl rfl (t_pick_f rfl rfl rfl rfl (t_assign rfl rfl rfl (t_nil' (hK150 _ _ (c_ret (f_ret1 (v := .bool false) Try.results72 rfl ?_))))))))
          exact ⟨congrArg Value.bool (by rw [Bool.eq_iff_iff]; simp [okEv, okEv0, okTons, okPort] <;> omega), E149⟩
        ·
         refine t_skip rfl rfl rfl (t_pick_f rfl rfl rfl rfl (t_assign rfl rfl rfl (t_nil' (hK137 _ _ (c_region (t_field Try.underlying41 rfl Try.sizeOf3 (3) rfl rfl rfl rfl (t_store (vs := [.int .i64 0]) Try.sizeOf3 rfl rfl rfl B51 rfl rfl (Nat.le_of_ble_eq_true rfl) (by simp [Value.oneCell']) (fun w151 sw151 B153 u152 => ?_))))))))
         have zu152 := u152.size
         have E154 := E52.next u152 (fun i hi (h : i = bk2) => show False by first | omega | assumption)
         have B153 : Blk w151 bk2 41 [.int .i64 0, .int .i64 0, .int .i64 x.bill, .int .i64 0, .int .i64 x.to, .int .i64 x.tons, .int .i64 x.port, .int .i64 x.sn] := B153
         refine t_field Try.underlying41 rfl Try.sizeOf3 (5) rfl rfl rfl rfl (t_store (vs := [.int .i64 0]) Try.sizeOf3 rfl rfl rfl B153 rfl rfl (Nat.le_of_ble_eq_true rfl) (by simp [Value.oneCell']) (fun w155 sw155 B157 u156 => ?_))
         have zu156 := u156.size
         have E158 := E154.next u156 (fun i hi (h : i = bk2) => show False by first | omega | assumption)
         have B157 : Blk w155 bk2 41 [.int .i64 0, .int .i64 0, .int .i64 x.bill, .int .i64 0, .int .i64 x.to, .int .i64 0, .int .i64 x.port, .int .i64 x.sn] := B157
         refine t_field Try.underlying41 rfl Try.sizeOf3 (6) rfl rfl rfl rfl (t_store (vs := [.int .i64 0]) Try.sizeOf3 rfl rfl rfl B157 rfl rfl (Nat.le_of_ble_eq_true rfl) (by simp [Value.oneCell']) (fun w159 sw159 B161 u160 => ?_))
         have zu160 := u160.size
         have E162 := E158.next u160 (fun i hi (h : i = bk2) => show False by first | omega | assumption)
         refine t_nil' (hK53 _ _ (c_seq fun K163 hK163 => (c_region (t_move rfl rfl rfl (t_move rfl rfl rfl (t_skip rfl rfl rfl (t_skip rfl rfl rfl (t_skip rfl rfl rfl (t_pick_f rfl rfl rfl rfl (t_assign rfl rfl rfl (t_nil' (hK163 _ _ (c_ret (f_ret1 (v := .bool false) Try.results72 rfl ?_))))))))))))))
         exact ⟨congrArg Value.bool (by rw [Bool.eq_iff_iff]; simp [okEv, okEv0, okTons, okPort] <;> omega), E162⟩
       ·
        refine t_skip rfl rfl rfl (t_pick_f rfl rfl rfl rfl (t_move rfl rfl rfl (t_skip rfl rfl rfl (t_pick_f rfl rfl rfl rfl (t_assign rfl rfl rfl (t_nil' (hK137 _ _ (c_region (t_field Try.underlying41 rfl Try.sizeOf3 (3) rfl rfl rfl rfl (t_store (vs := [.int .i64 0]) Try.sizeOf3 rfl rfl rfl B51 rfl rfl (Nat.le_of_ble_eq_true rfl) (by simp [Value.oneCell']) (fun w164 sw164 B166 u165 => ?_)))))))))))
        have zu165 := u165.size
        have E167 := E52.next u165 (fun i hi (h : i = bk2) => show False by first | omega | assumption)
        have B166 : Blk w164 bk2 41 [.int .i64 0, .int .i64 0, .int .i64 x.bill, .int .i64 0, .int .i64 x.to, .int .i64 x.tons, .int .i64 x.port, .int .i64 x.sn] := B166
        refine t_field Try.underlying41 rfl Try.sizeOf3 (5) rfl rfl rfl rfl (t_store (vs := [.int .i64 0]) Try.sizeOf3 rfl rfl rfl B166 rfl rfl (Nat.le_of_ble_eq_true rfl) (by simp [Value.oneCell']) (fun w168 sw168 B170 u169 => ?_))
        have zu169 := u169.size
        have E171 := E167.next u169 (fun i hi (h : i = bk2) => show False by first | omega | assumption)
        have B170 : Blk w168 bk2 41 [.int .i64 0, .int .i64 0, .int .i64 x.bill, .int .i64 0, .int .i64 x.to, .int .i64 0, .int .i64 x.port, .int .i64 x.sn] := B170
        refine t_field Try.underlying41 rfl Try.sizeOf3 (6) rfl rfl rfl rfl (t_store (vs := [.int .i64 0]) Try.sizeOf3 rfl rfl rfl B170 rfl rfl (Nat.le_of_ble_eq_true rfl) (by simp [Value.oneCell']) (fun w172 sw172 B174 u173 => ?_))
        have zu173 := u173.size
        have E175 := E171.next u173 (fun i hi (h : i = bk2) => show False by first | omega | assumption)
        refine t_nil' (hK53 _ _ (c_seq fun K176 hK176 => (c_region (t_move rfl rfl rfl (t_move rfl rfl rfl (t_skip rfl rfl rfl (t_skip rfl rfl rfl (t_skip rfl rfl rfl (t_pick_f rfl rfl rfl rfl (t_assign rfl rfl rfl (t_nil' (hK176 _ _ (c_ret (f_ret1 (v := .bool false) Try.results72 rfl ?_))))))))))))))
        exact ⟨congrArg Value.bool (by rw [Bool.eq_iff_iff]; simp [okEv, okEv0, okTons, okPort] <;> omega), E175⟩
      ·
       refine c_seq fun K177 hK177 => (c_region (t_cmp rfl rfl rfl rfl rfl (t_assign rfl rfl rfl (t_nil' (hK177 _ _ (c_condp rfl (fun g73 => ?_) (fun g73 => ?_)))))))
       ·
        refine c_seq fun K178 hK178 => (c_region (t_move rfl rfl rfl (t_move rfl rfl rfl (t_splitp 76 rfl (fun g76 => ?_) (fun g76 => ?_)))))
        ·
         refine t_field Try.underlying41 rfl Try.sizeOf3 (7) rfl rfl rfl rfl (t_load Try.isAgg3 rfl rfl rfl (B51.get rfl) (t_bslice (ps := [(0, .int .i64 x.sn)]) (cs := [.int .i64 x.sn]) (e := 3) rfl rfl ⟨rfl, rfl⟩ (fun w => by kernel_rfl) (fun bk179 w180 ebk179 sbk179 B181 u182 => ?_)))
         have zu182 := u182.size
         have E183 := E52.next u182 (fun _ _ h => h.elim)
         refine t_call (vs := [.int .i64 1, .int .i64 1000000, .slice (some ⟨bk179, 0, none⟩) 1 1]) own40 rfl rfl rfl rfl (within1_v 1 1000000 x.sn _ _ _ B181) (fun v184 w185 r187 => ?_)
         obtain ⟨rfl, u186⟩ := r187
         have zu186 := u186.size
         have E188 := E183.next u186 (fun _ _ h => h.elim)
         refine t_pick_t rfl rfl rfl rfl (t_assign rfl rfl rfl (t_nil' (hK178 _ _ (c_region (t_field Try.underlying41 rfl Try.sizeOf3 (4) rfl rfl rfl rfl ?_)))))
         have B189 := ((B51.keep u182 (fun h => h)).keep u186 (fun h => h))
         refine t_store (vs := [.int .i64 0]) Try.sizeOf3 rfl rfl rfl B189 rfl rfl (Nat.le_of_ble_eq_true rfl) (by simp [Value.oneCell']) (fun w190 sw190 B192 u191 => ?_)
         have zu191 := u191.size
         have E193 := E188.next u191 (fun i hi (h : i = bk2) => show False by first | omega | assumption)
         have B192 : Blk w190 bk2 41 [.int .i64 0, .int .i64 0, .int .i64 x.bill, .int .i64 x.frm, .int .i64 0, .int .i64 x.tons, .int .i64 x.port, .int .i64 x.sn] := B192
         refine t_field Try.underlying41 rfl Try.sizeOf3 (7) rfl rfl rfl rfl (t_store (vs := [.int .i64 0]) Try.sizeOf3 rfl rfl rfl B192 rfl rfl (Nat.le_of_ble_eq_true rfl) (by simp [Value.oneCell']) (fun w194 sw194 B196 u195 => ?_))
         have zu195 := u195.size
         have E197 := E193.next u195 (fun i hi (h : i = bk2) => show False by first | omega | assumption)
         have B196 : Blk w194 bk2 41 [.int .i64 0, .int .i64 0, .int .i64 x.bill, .int .i64 x.frm, .int .i64 0, .int .i64 x.tons, .int .i64 x.port, .int .i64 0] := B196
         refine t_nil' (hK53 _ _ (c_seq fun K198 hK198 => (c_region (t_move rfl rfl rfl (t_move rfl rfl rfl (t_splitp 88 rfl (fun g88 => ?_) (fun g88 => ?_)))))))
         ·
          refine t_loadN (vs := [.int .i64 0, .int .i64 0, .int .i64 x.bill, .int .i64 x.frm, .int .i64 0, .int .i64 x.tons, .int .i64 x.port, .int .i64 0]) Try.isAgg41 Try.sizeOf41 rfl rfl rfl (B196.at.sub 0 8) rfl (t_build (ps := []) (v := .agg #[.int .i64 0, .int .i64 0, .int .i64 0, .int .i64 0, .int .i64 0, .int .i64 0, .int .i64 0, .int .i64 0]) rfl rfl ⟨rfl, rfl⟩ (fun w => by kernel_rfl) (t_eqS (xs := [.int .i64 0, .int .i64 0, .int .i64 x.bill, .int .i64 x.frm, .int .i64 0, .int .i64 x.tons, .int .i64 x.port, .int .i64 0]) (ys := [.int .i64 0, .int .i64 0, .int .i64 0, .int .i64 0, .int .i64 0, .int .i64 0, .int .i64 0, .int .i64 0]) (by kernel_rfl) (eqIn41 9998 0 0 x.bill x.frm 0 x.tons x.port 0 0 0 0 0 0 0 0 0) rfl rfl rfl rfl (t_pick_t rfl rfl rfl rfl (t_assign rfl rfl rfl (t_nil' (hK198 _ _ (c_ret (f_ret1 (v := .bool (decide (0 = 0) && decide (0 = 0) && decide (x.bill = 0) && decide (x.frm = 0) && decide (0 = 0) && decide (x.tons = 0) && decide (x.port = 0) && decide (0 = 0))) Try.results72 rfl ?_))))))))
          exact ⟨congrArg Value.bool (by rw [Bool.eq_iff_iff]; simp [okEv, okEv0, okTons, okPort] <;> omega), E197⟩
         ·
          refine t_skip rfl rfl rfl (t_skip rfl rfl rfl (t_skip rfl rfl rfl (t_pick_f rfl rfl rfl rfl (t_assign rfl rfl rfl (t_nil' (hK198 _ _ (c_ret (f_ret1 (v := .bool false) Try.results72 rfl ?_))))))))
          exact ⟨congrArg Value.bool (by rw [Bool.eq_iff_iff]; simp [okEv, okEv0, okTons, okPort] <;> omega), E197⟩
        ·
         refine t_skip rfl rfl rfl (t_skip rfl rfl rfl (t_skip rfl rfl rfl (t_skip rfl rfl rfl (t_pick_f rfl rfl rfl rfl (t_assign rfl rfl rfl (t_nil' (hK178 _ _ (c_region (t_field Try.underlying41 rfl Try.sizeOf3 (4) rfl rfl rfl rfl (t_store (vs := [.int .i64 0]) Try.sizeOf3 rfl rfl rfl B51 rfl rfl (Nat.le_of_ble_eq_true rfl) (by simp [Value.oneCell']) (fun w199 sw199 B201 u200 => ?_)))))))))))
         have zu200 := u200.size
         have E202 := E52.next u200 (fun i hi (h : i = bk2) => show False by first | omega | assumption)
         have B201 : Blk w199 bk2 41 [.int .i64 0, .int .i64 0, .int .i64 x.bill, .int .i64 x.frm, .int .i64 0, .int .i64 x.tons, .int .i64 x.port, .int .i64 x.sn] := B201
         refine t_field Try.underlying41 rfl Try.sizeOf3 (7) rfl rfl rfl rfl (t_store (vs := [.int .i64 0]) Try.sizeOf3 rfl rfl rfl B201 rfl rfl (Nat.le_of_ble_eq_true rfl) (by simp [Value.oneCell']) (fun w203 sw203 B205 u204 => ?_))
         have zu204 := u204.size
         have E206 := E202.next u204 (fun i hi (h : i = bk2) => show False by first | omega | assumption)
         refine t_nil' (hK53 _ _ (c_seq fun K207 hK207 => (c_region (t_move rfl rfl rfl (t_move rfl rfl rfl (t_skip rfl rfl rfl (t_skip rfl rfl rfl (t_skip rfl rfl rfl (t_pick_f rfl rfl rfl rfl (t_assign rfl rfl rfl (t_nil' (hK207 _ _ (c_ret (f_ret1 (v := .bool false) Try.results72 rfl ?_))))))))))))))
         exact ⟨congrArg Value.bool (by rw [Bool.eq_iff_iff]; simp [okEv, okEv0, okTons, okPort] <;> omega), E206⟩
       ·
        refine c_seq fun K208 hK208 => (c_region (t_cmp rfl rfl rfl rfl rfl (t_assign rfl rfl rfl (t_nil' (hK208 _ _ (c_condp rfl (fun g84 => ?_) (fun g84 => ?_)))))))
        ·
         refine c_region (t_field Try.underlying41 rfl Try.sizeOf3 (3) rfl rfl rfl rfl (t_store (vs := [.int .i64 0]) Try.sizeOf3 rfl rfl rfl B51 rfl rfl (Nat.le_of_ble_eq_true rfl) (by simp [Value.oneCell']) (fun w209 sw209 B211 u210 => ?_)))
         have zu210 := u210.size
         have E212 := E52.next u210 (fun i hi (h : i = bk2) => show False by first | omega | assumption)
         have B211 : Blk w209 bk2 41 [.int .i64 0, .int .i64 0, .int .i64 x.bill, .int .i64 0, .int .i64 x.to, .int .i64 x.tons, .int .i64 x.port, .int .i64 x.sn] := B211
         refine t_nil' (hK53 _ _ (c_seq fun K213 hK213 => (c_region (t_move rfl rfl rfl (t_move rfl rfl rfl (t_splitp 88 rfl (fun g88 => ?_) (fun g88 => ?_)))))))
         ·
          refine t_loadN (vs := [.int .i64 0, .int .i64 0, .int .i64 x.bill, .int .i64 0, .int .i64 x.to, .int .i64 x.tons, .int .i64 x.port, .int .i64 x.sn]) Try.isAgg41 Try.sizeOf41 rfl rfl rfl (B211.at.sub 0 8) rfl (t_build (ps := []) (v := .agg #[.int .i64 0, .int .i64 0, .int .i64 0, .int .i64 0, .int .i64 0, .int .i64 0, .int .i64 0, .int .i64 0]) rfl rfl ⟨rfl, rfl⟩ (fun w => by kernel_rfl) (t_eqS (xs := [.int .i64 0, .int .i64 0, .int .i64 x.bill, .int .i64 0, .int .i64 x.to, .int .i64 x.tons, .int .i64 x.port, .int .i64 x.sn]) (ys := [.int .i64 0, .int .i64 0, .int .i64 0, .int .i64 0, .int .i64 0, .int .i64 0, .int .i64 0, .int .i64 0]) (by kernel_rfl) (eqIn41 9998 0 0 x.bill 0 x.to x.tons x.port x.sn 0 0 0 0 0 0 0 0) rfl rfl rfl rfl (t_pick_t rfl rfl rfl rfl (t_assign rfl rfl rfl (t_nil' (hK213 _ _ (c_ret (f_ret1 (v := .bool (decide (0 = 0) && decide (0 = 0) && decide (x.bill = 0) && decide (0 = 0) && decide (x.to = 0) && decide (x.tons = 0) && decide (x.port = 0) && decide (x.sn = 0))) Try.results72 rfl ?_))))))))
          exact ⟨congrArg Value.bool (by rw [Bool.eq_iff_iff]; simp [okEv, okEv0, okTons, okPort] <;> omega), E212⟩
         ·
          refine t_skip rfl rfl rfl (t_skip rfl rfl rfl (t_skip rfl rfl rfl (t_pick_f rfl rfl rfl rfl (t_assign rfl rfl rfl (t_nil' (hK213 _ _ (c_ret (f_ret1 (v := .bool false) Try.results72 rfl ?_))))))))
          exact ⟨congrArg Value.bool (by rw [Bool.eq_iff_iff]; simp [okEv, okEv0, okTons, okPort] <;> omega), E212⟩
        ·
         refine c_seq fun K214 hK214 => (c_region (t_assign rfl rfl rfl (t_nil' (hK214 _ _ (c_ret (f_ret1 (v := .bool false) Try.results72 rfl ?_))))))
         exact ⟨congrArg Value.bool (by rw [Bool.eq_iff_iff]; simp [okEv, okEv0, okTons, okPort] <;> omega), E52⟩
   ·
    refine t_skip rfl rfl rfl (t_skip rfl rfl rfl (t_skip rfl rfl rfl (t_pick_f rfl rfl rfl rfl (t_assign rfl rfl rfl (t_nil' (hK7 _ _ (c_seq fun K215 hK215 => (c_region (t_field Try.underlying41 rfl Try.sizeOf3 (5) rfl rfl rfl rfl (t_load Try.isAgg3 rfl rfl rfl (B18.get rfl) (t_bslice (ps := [(0, .int .i64 x.tons)]) (cs := [.int .i64 x.tons]) (e := 3) rfl rfl ⟨rfl, rfl⟩ (fun w => by kernel_rfl) (fun bk216 w217 ebk216 sbk216 B218 u219 => ?_))))))))))))
    have zu219 := u219.size
    have E220 := E17.next u219 (fun _ _ h => h.elim)
    refine t_call (vs := [.int .i64 1, .int .i64 1000000, .slice (some ⟨bk216, 0, none⟩) 1 1]) own40 rfl rfl rfl rfl (within1_v 1 1000000 x.tons _ _ _ B218) (fun v221 w222 r224 => ?_)
    obtain ⟨rfl, u223⟩ := r224
    have zu223 := u223.size
    have E225 := E220.next u223 (fun _ _ h => h.elim)
    refine t_assign rfl rfl rfl (t_nil' (hK215 _ _ (c_seq fun K226 hK226 => (c_region (t_field Try.underlying41 rfl Try.sizeOf3 (6) rfl rfl rfl rfl ?_)))))
    have B227 := ((B18.keep u219 (fun h => h)).keep u223 (fun h => h))
    refine t_load Try.isAgg3 rfl rfl rfl (B227.get rfl) (t_bslice (ps := [(0, .int .i64 x.port)]) (cs := [.int .i64 x.port]) (e := 3) rfl rfl ⟨rfl, rfl⟩ (fun w => by kernel_rfl) (fun bk228 w229 ebk228 sbk228 B230 u231 => ?_))
    have zu231 := u231.size
    have E232 := E225.next u231 (fun _ _ h => h.elim)
    refine t_call (vs := [.int .i64 0, .int .i64 99, .slice (some ⟨bk228, 0, none⟩) 1 1]) own40 rfl rfl rfl rfl (within1_v 0 99 x.port _ _ _ B230) (fun v233 w234 r236 => ?_)
    obtain ⟨rfl, u235⟩ := r236
    have zu235 := u235.size
    have E237 := E232.next u235 (fun _ _ h => h.elim)
    refine t_assign rfl rfl rfl (t_nil' (hK226 _ _ (c_seq fun K238 hK238 => (c_region (t_field Try.underlying41 rfl Try.sizeOf39 (0) rfl rfl rfl rfl ?_)))))
    have B239 := ((B227.keep u231 (fun h => h)).keep u235 (fun h => h))
    refine t_load Try.isAgg39 rfl rfl rfl (B239.get rfl) (t_assign rfl rfl rfl (t_nil' (hK238 _ _ (c_seq fun K240 hK240 => (c_region (t_field Try.underlying41 rfl Try.sizeOf39 (0) rfl rfl rfl rfl (t_store (vs := [.int .i64 0]) Try.sizeOf39 rfl rfl rfl B239 rfl rfl (Nat.le_of_ble_eq_true rfl) (by simp [Value.oneCell']) (fun w241 sw241 B243 u242 => ?_))))))))
    have zu242 := u242.size
    have E244 := E237.next u242 (fun i hi (h : i = bk2) => show False by first | omega | assumption)
    have B243 : Blk w241 bk2 41 [.int .i64 0, .int .i64 x.minute, .int .i64 x.bill, .int .i64 x.frm, .int .i64 x.to, .int .i64 x.tons, .int .i64 x.port, .int .i64 x.sn] := B243
    refine t_field Try.underlying41 rfl Try.sizeOf3 (1) rfl rfl rfl rfl (t_store (vs := [.int .i64 0]) Try.sizeOf3 rfl rfl rfl B243 rfl rfl (Nat.le_of_ble_eq_true rfl) (by simp [Value.oneCell']) (fun w245 sw245 B247 u246 => ?_))
    have zu246 := u246.size
    have E248 := E244.next u246 (fun i hi (h : i = bk2) => show False by first | omega | assumption)
    have B247 : Blk w245 bk2 41 [.int .i64 0, .int .i64 0, .int .i64 x.bill, .int .i64 x.frm, .int .i64 x.to, .int .i64 x.tons, .int .i64 x.port, .int .i64 x.sn] := B247
    refine t_nil' (hK240 _ _ (c_seq fun K249 hK249 => (c_seq fun K250 hK250 => (c_region (t_move rfl rfl rfl (t_nil' (hK250 _ _ (c_block (c_seq fun K251 hK251 => (c_region (t_cmp rfl rfl rfl rfl rfl (t_assign rfl rfl rfl (t_nil' (hK251 _ _ (c_condp rfl (fun g39 => ?_) (fun g39 => ?_))))))))))))))))
    ·
     refine c_seq fun K252 hK252 => (c_region (t_move rfl rfl rfl (t_move rfl rfl rfl (t_skip rfl rfl rfl (t_pick_f rfl rfl rfl rfl (t_move rfl rfl rfl (t_skip rfl rfl rfl (t_pick_f rfl rfl rfl rfl (t_assign rfl rfl rfl (t_nil' (hK252 _ _ (c_region (t_field Try.underlying41 rfl Try.sizeOf3 (2) rfl rfl rfl rfl (t_store (vs := [.int .i64 0]) Try.sizeOf3 rfl rfl rfl B247 rfl rfl (Nat.le_of_ble_eq_true rfl) (by simp [Value.oneCell']) (fun w253 sw253 B255 u254 => ?_)))))))))))))))
     have zu254 := u254.size
     have E256 := E248.next u254 (fun i hi (h : i = bk2) => show False by first | omega | assumption)
     have B255 : Blk w253 bk2 41 [.int .i64 0, .int .i64 0, .int .i64 0, .int .i64 x.frm, .int .i64 x.to, .int .i64 x.tons, .int .i64 x.port, .int .i64 x.sn] := B255
     refine t_field Try.underlying41 rfl Try.sizeOf3 (4) rfl rfl rfl rfl (t_store (vs := [.int .i64 0]) Try.sizeOf3 rfl rfl rfl B255 rfl rfl (Nat.le_of_ble_eq_true rfl) (by simp [Value.oneCell']) (fun w257 sw257 B259 u258 => ?_))
     have zu258 := u258.size
     have E260 := E256.next u258 (fun i hi (h : i = bk2) => show False by first | omega | assumption)
     have B259 : Blk w257 bk2 41 [.int .i64 0, .int .i64 0, .int .i64 0, .int .i64 x.frm, .int .i64 0, .int .i64 x.tons, .int .i64 x.port, .int .i64 x.sn] := B259
     refine t_field Try.underlying41 rfl Try.sizeOf3 (5) rfl rfl rfl rfl (t_store (vs := [.int .i64 0]) Try.sizeOf3 rfl rfl rfl B259 rfl rfl (Nat.le_of_ble_eq_true rfl) (by simp [Value.oneCell']) (fun w261 sw261 B263 u262 => ?_))
     have zu262 := u262.size
     have E264 := E260.next u262 (fun i hi (h : i = bk2) => show False by first | omega | assumption)
     have B263 : Blk w261 bk2 41 [.int .i64 0, .int .i64 0, .int .i64 0, .int .i64 x.frm, .int .i64 0, .int .i64 0, .int .i64 x.port, .int .i64 x.sn] := B263
     refine t_field Try.underlying41 rfl Try.sizeOf3 (6) rfl rfl rfl rfl (t_store (vs := [.int .i64 0]) Try.sizeOf3 rfl rfl rfl B263 rfl rfl (Nat.le_of_ble_eq_true rfl) (by simp [Value.oneCell']) (fun w265 sw265 B267 u266 => ?_))
     have zu266 := u266.size
     have E268 := E264.next u266 (fun i hi (h : i = bk2) => show False by first | omega | assumption)
     refine t_nil' (hK249 _ _ (c_seq fun K269 hK269 => (c_region (t_move rfl rfl rfl (t_move rfl rfl rfl (t_skip rfl rfl rfl (t_skip rfl rfl rfl (t_skip rfl rfl rfl (t_pick_f rfl rfl rfl rfl (t_assign rfl rfl rfl (t_nil' (hK269 _ _ (c_ret (f_ret1 (v := .bool false) Try.results72 rfl ?_))))))))))))))
     exact ⟨congrArg Value.bool (by rw [Bool.eq_iff_iff]; simp [okEv, okEv0, okTons, okPort] <;> omega), E268⟩
    ·
     refine c_seq fun K270 hK270 => (c_region (t_cmp rfl rfl rfl rfl rfl (t_assign rfl rfl rfl (t_nil' (hK270 _ _ (c_condp rfl (fun g52 => ?_) (fun g52 => ?_)))))))
     ·
      refine c_seq fun K271 hK271 => (c_region (t_move rfl rfl rfl (t_move rfl rfl rfl (t_skip rfl rfl rfl (t_pick_f rfl rfl rfl rfl (t_assign rfl rfl rfl (t_nil' (hK271 _ _ (c_region (t_field Try.underlying41 rfl Try.sizeOf3 (3) rfl rfl rfl rfl (t_store (vs := [.int .i64 0]) Try.sizeOf3 rfl rfl rfl B247 rfl rfl (Nat.le_of_ble_eq_true rfl) (by simp [Value.oneCell']) (fun w272 sw272 B274 u273 => ?_))))))))))))
      have zu273 := u273.size
      have E275 := E248.next u273 (fun i hi (h : i = bk2) => show False by first | omega | assumption)
      have B274 : Blk w272 bk2 41 [.int .i64 0, .int .i64 0, .int .i64 x.bill, .int .i64 0, .int .i64 x.to, .int .i64 x.tons, .int .i64 x.port, .int .i64 x.sn] := B274
      refine t_field Try.underlying41 rfl Try.sizeOf3 (4) rfl rfl rfl rfl (t_store (vs := [.int .i64 0]) Try.sizeOf3 rfl rfl rfl B274 rfl rfl (Nat.le_of_ble_eq_true rfl) (by simp [Value.oneCell']) (fun w276 sw276 B278 u277 => ?_))
      have zu277 := u277.size
      have E279 := E275.next u277 (fun i hi (h : i = bk2) => show False by first | omega | assumption)
      have B278 : Blk w276 bk2 41 [.int .i64 0, .int .i64 0, .int .i64 x.bill, .int .i64 0, .int .i64 0, .int .i64 x.tons, .int .i64 x.port, .int .i64 x.sn] := B278
      refine t_field Try.underlying41 rfl Try.sizeOf3 (5) rfl rfl rfl rfl (t_store (vs := [.int .i64 0]) Try.sizeOf3 rfl rfl rfl B278 rfl rfl (Nat.le_of_ble_eq_true rfl) (by simp [Value.oneCell']) (fun w280 sw280 B282 u281 => ?_))
      have zu281 := u281.size
      have E283 := E279.next u281 (fun i hi (h : i = bk2) => show False by first | omega | assumption)
      refine t_nil' (hK249 _ _ (c_seq fun K284 hK284 => (c_region (t_move rfl rfl rfl (t_move rfl rfl rfl (t_skip rfl rfl rfl (t_skip rfl rfl rfl (t_skip rfl rfl rfl (t_pick_f rfl rfl rfl rfl (t_assign rfl rfl rfl (t_nil' (hK284 _ _ (c_ret (f_ret1 (v := .bool false) Try.results72 rfl ?_))))))))))))))
      exact ⟨congrArg Value.bool (by rw [Bool.eq_iff_iff]; simp [okEv, okEv0, okTons, okPort] <;> omega), E283⟩
     ·
      refine c_seq fun K285 hK285 => (c_region (t_cmp rfl rfl rfl rfl rfl (t_assign rfl rfl rfl (t_nil' (hK285 _ _ (c_condp rfl (fun g61 => ?_) (fun g61 => ?_)))))))
      ·
       refine c_seq fun K286 hK286 => (c_region (t_move rfl rfl rfl (t_move rfl rfl rfl (t_skip rfl rfl rfl (t_pick_f rfl rfl rfl rfl (t_move rfl rfl rfl (t_skip rfl rfl rfl (t_pick_f rfl rfl rfl rfl (t_assign rfl rfl rfl (t_nil' (hK286 _ _ (c_region (t_field Try.underlying41 rfl Try.sizeOf3 (3) rfl rfl rfl rfl (t_store (vs := [.int .i64 0]) Try.sizeOf3 rfl rfl rfl B247 rfl rfl (Nat.le_of_ble_eq_true rfl) (by simp [Value.oneCell']) (fun w287 sw287 B289 u288 => ?_)))))))))))))))
       have zu288 := u288.size
       have E290 := E248.next u288 (fun i hi (h : i = bk2) => show False by first | omega | assumption)
       have B289 : Blk w287 bk2 41 [.int .i64 0, .int .i64 0, .int .i64 x.bill, .int .i64 0, .int .i64 x.to, .int .i64 x.tons, .int .i64 x.port, .int .i64 x.sn] := B289
       refine t_field Try.underlying41 rfl Try.sizeOf3 (5) rfl rfl rfl rfl (t_store (vs := [.int .i64 0]) Try.sizeOf3 rfl rfl rfl B289 rfl rfl (Nat.le_of_ble_eq_true rfl) (by simp [Value.oneCell']) (fun w291 sw291 B293 u292 => ?_))
       have zu292 := u292.size
       have E294 := E290.next u292 (fun i hi (h : i = bk2) => show False by first | omega | assumption)
       have B293 : Blk w291 bk2 41 [.int .i64 0, .int .i64 0, .int .i64 x.bill, .int .i64 0, .int .i64 x.to, .int .i64 0, .int .i64 x.port, .int .i64 x.sn] := B293
       refine t_field Try.underlying41 rfl Try.sizeOf3 (6) rfl rfl rfl rfl (t_store (vs := [.int .i64 0]) Try.sizeOf3 rfl rfl rfl B293 rfl rfl (Nat.le_of_ble_eq_true rfl) (by simp [Value.oneCell']) (fun w295 sw295 B297 u296 => ?_))
       have zu296 := u296.size
       have E298 := E294.next u296 (fun i hi (h : i = bk2) => show False by first | omega | assumption)
       refine t_nil' (hK249 _ _ (c_seq fun K299 hK299 => (c_region (t_move rfl rfl rfl (t_move rfl rfl rfl (t_skip rfl rfl rfl (t_skip rfl rfl rfl (t_skip rfl rfl rfl (t_pick_f rfl rfl rfl rfl (t_assign rfl rfl rfl (t_nil' (hK299 _ _ (c_ret (f_ret1 (v := .bool false) Try.results72 rfl ?_))))))))))))))
       exact ⟨congrArg Value.bool (by rw [Bool.eq_iff_iff]; simp [okEv, okEv0, okTons, okPort] <;> omega), E298⟩
      ·
       refine c_seq fun K300 hK300 => (c_region (t_cmp rfl rfl rfl rfl rfl (t_assign rfl rfl rfl (t_nil' (hK300 _ _ (c_condp rfl (fun g73 => ?_) (fun g73 => ?_)))))))
       ·
        refine c_seq fun K301 hK301 => (c_region (t_move rfl rfl rfl (t_move rfl rfl rfl (t_skip rfl rfl rfl (t_skip rfl rfl rfl (t_skip rfl rfl rfl (t_skip rfl rfl rfl (t_pick_f rfl rfl rfl rfl (t_assign rfl rfl rfl (t_nil' (hK301 _ _ (c_region (t_field Try.underlying41 rfl Try.sizeOf3 (4) rfl rfl rfl rfl (t_store (vs := [.int .i64 0]) Try.sizeOf3 rfl rfl rfl B247 rfl rfl (Nat.le_of_ble_eq_true rfl) (by simp [Value.oneCell']) (fun w302 sw302 B304 u303 => ?_)))))))))))))))
        have zu303 := u303.size
        have E305 := E248.next u303 (fun i hi (h : i = bk2) => show False by first | omega | assumption)
        have B304 : Blk w302 bk2 41 [.int .i64 0, .int .i64 0, .int .i64 x.bill, .int .i64 x.frm, .int .i64 0, .int .i64 x.tons, .int .i64 x.port, .int .i64 x.sn] := B304
        refine t_field Try.underlying41 rfl Try.sizeOf3 (7) rfl rfl rfl rfl (t_store (vs := [.int .i64 0]) Try.sizeOf3 rfl rfl rfl B304 rfl rfl (Nat.le_of_ble_eq_true rfl) (by simp [Value.oneCell']) (fun w306 sw306 B308 u307 => ?_))
        have zu307 := u307.size
        have E309 := E305.next u307 (fun i hi (h : i = bk2) => show False by first | omega | assumption)
        refine t_nil' (hK249 _ _ (c_seq fun K310 hK310 => (c_region (t_move rfl rfl rfl (t_move rfl rfl rfl (t_skip rfl rfl rfl (t_skip rfl rfl rfl (t_skip rfl rfl rfl (t_pick_f rfl rfl rfl rfl (t_assign rfl rfl rfl (t_nil' (hK310 _ _ (c_ret (f_ret1 (v := .bool false) Try.results72 rfl ?_))))))))))))))
        exact ⟨congrArg Value.bool (by rw [Bool.eq_iff_iff]; simp [okEv, okEv0, okTons, okPort] <;> omega), E309⟩
       ·
        refine c_seq fun K311 hK311 => (c_region (t_cmp rfl rfl rfl rfl rfl (t_assign rfl rfl rfl (t_nil' (hK311 _ _ (c_condp rfl (fun g84 => ?_) (fun g84 => ?_)))))))
        ·
         refine c_region (t_field Try.underlying41 rfl Try.sizeOf3 (3) rfl rfl rfl rfl (t_store (vs := [.int .i64 0]) Try.sizeOf3 rfl rfl rfl B247 rfl rfl (Nat.le_of_ble_eq_true rfl) (by simp [Value.oneCell']) (fun w312 sw312 B314 u313 => ?_)))
         have zu313 := u313.size
         have E315 := E248.next u313 (fun i hi (h : i = bk2) => show False by first | omega | assumption)
         refine t_nil' (hK249 _ _ (c_seq fun K316 hK316 => (c_region (t_move rfl rfl rfl (t_move rfl rfl rfl (t_skip rfl rfl rfl (t_skip rfl rfl rfl (t_skip rfl rfl rfl (t_pick_f rfl rfl rfl rfl (t_assign rfl rfl rfl (t_nil' (hK316 _ _ (c_ret (f_ret1 (v := .bool false) Try.results72 rfl ?_))))))))))))))
         exact ⟨congrArg Value.bool (by rw [Bool.eq_iff_iff]; simp [okEv, okEv0, okTons, okPort] <;> omega), E315⟩
        ·
         refine c_seq fun K317 hK317 => (c_region (t_assign rfl rfl rfl (t_nil' (hK317 _ _ (c_ret (f_ret1 (v := .bool false) Try.results72 rfl ?_))))))
         exact ⟨congrArg Value.bool (by rw [Bool.eq_iff_iff]; simp [okEv, okEv0, okTons, okPort] <;> omega), E248⟩
  ·
   refine t_skip rfl rfl rfl (t_skip rfl rfl rfl (t_skip rfl rfl rfl (t_pick_f rfl rfl rfl rfl (t_move rfl rfl rfl (t_skip rfl rfl rfl (t_skip rfl rfl rfl (t_skip rfl rfl rfl (t_pick_f rfl rfl rfl rfl (t_assign rfl rfl rfl (t_nil' (hK7 _ _ (c_seq fun K318 hK318 => (c_region (t_field Try.underlying41 rfl Try.sizeOf3 (5) rfl rfl rfl rfl (t_load Try.isAgg3 rfl rfl rfl (B18.get rfl) (t_bslice (ps := [(0, .int .i64 x.tons)]) (cs := [.int .i64 x.tons]) (e := 3) rfl rfl ⟨rfl, rfl⟩ (fun w => by kernel_rfl) (fun bk319 w320 ebk319 sbk319 B321 u322 => ?_)))))))))))))))))
   have zu322 := u322.size
   have E323 := E17.next u322 (fun _ _ h => h.elim)
   refine t_call (vs := [.int .i64 1, .int .i64 1000000, .slice (some ⟨bk319, 0, none⟩) 1 1]) own40 rfl rfl rfl rfl (within1_v 1 1000000 x.tons _ _ _ B321) (fun v324 w325 r327 => ?_)
   obtain ⟨rfl, u326⟩ := r327
   have zu326 := u326.size
   have E328 := E323.next u326 (fun _ _ h => h.elim)
   refine t_assign rfl rfl rfl (t_nil' (hK318 _ _ (c_seq fun K329 hK329 => (c_region (t_field Try.underlying41 rfl Try.sizeOf3 (6) rfl rfl rfl rfl ?_)))))
   have B330 := ((B18.keep u322 (fun h => h)).keep u326 (fun h => h))
   refine t_load Try.isAgg3 rfl rfl rfl (B330.get rfl) (t_bslice (ps := [(0, .int .i64 x.port)]) (cs := [.int .i64 x.port]) (e := 3) rfl rfl ⟨rfl, rfl⟩ (fun w => by kernel_rfl) (fun bk331 w332 ebk331 sbk331 B333 u334 => ?_))
   have zu334 := u334.size
   have E335 := E328.next u334 (fun _ _ h => h.elim)
   refine t_call (vs := [.int .i64 0, .int .i64 99, .slice (some ⟨bk331, 0, none⟩) 1 1]) own40 rfl rfl rfl rfl (within1_v 0 99 x.port _ _ _ B333) (fun v336 w337 r339 => ?_)
   obtain ⟨rfl, u338⟩ := r339
   have zu338 := u338.size
   have E340 := E335.next u338 (fun _ _ h => h.elim)
   refine t_assign rfl rfl rfl (t_nil' (hK329 _ _ (c_seq fun K341 hK341 => (c_region (t_field Try.underlying41 rfl Try.sizeOf39 (0) rfl rfl rfl rfl ?_)))))
   have B342 := ((B330.keep u334 (fun h => h)).keep u338 (fun h => h))
   refine t_load Try.isAgg39 rfl rfl rfl (B342.get rfl) (t_assign rfl rfl rfl (t_nil' (hK341 _ _ (c_seq fun K343 hK343 => (c_region (t_field Try.underlying41 rfl Try.sizeOf39 (0) rfl rfl rfl rfl (t_store (vs := [.int .i64 0]) Try.sizeOf39 rfl rfl rfl B342 rfl rfl (Nat.le_of_ble_eq_true rfl) (by simp [Value.oneCell']) (fun w344 sw344 B346 u345 => ?_))))))))
   have zu345 := u345.size
   have E347 := E340.next u345 (fun i hi (h : i = bk2) => show False by first | omega | assumption)
   have B346 : Blk w344 bk2 41 [.int .i64 0, .int .i64 x.minute, .int .i64 x.bill, .int .i64 x.frm, .int .i64 x.to, .int .i64 x.tons, .int .i64 x.port, .int .i64 x.sn] := B346
   refine t_field Try.underlying41 rfl Try.sizeOf3 (1) rfl rfl rfl rfl (t_store (vs := [.int .i64 0]) Try.sizeOf3 rfl rfl rfl B346 rfl rfl (Nat.le_of_ble_eq_true rfl) (by simp [Value.oneCell']) (fun w348 sw348 B350 u349 => ?_))
   have zu349 := u349.size
   have E351 := E347.next u349 (fun i hi (h : i = bk2) => show False by first | omega | assumption)
   have B350 : Blk w348 bk2 41 [.int .i64 0, .int .i64 0, .int .i64 x.bill, .int .i64 x.frm, .int .i64 x.to, .int .i64 x.tons, .int .i64 x.port, .int .i64 x.sn] := B350
   refine t_nil' (hK343 _ _ (c_seq fun K352 hK352 => (c_seq fun K353 hK353 => (c_region (t_move rfl rfl rfl (t_nil' (hK353 _ _ (c_block (c_seq fun K354 hK354 => (c_region (t_cmp rfl rfl rfl rfl rfl (t_assign rfl rfl rfl (t_nil' (hK354 _ _ (c_condp rfl (fun g39 => ?_) (fun g39 => ?_))))))))))))))))
   ·
    refine c_seq fun K355 hK355 => (c_region (t_move rfl rfl rfl (t_move rfl rfl rfl (t_skip rfl rfl rfl (t_pick_f rfl rfl rfl rfl (t_move rfl rfl rfl (t_skip rfl rfl rfl (t_pick_f rfl rfl rfl rfl (t_assign rfl rfl rfl (t_nil' (hK355 _ _ (c_region (t_field Try.underlying41 rfl Try.sizeOf3 (2) rfl rfl rfl rfl (t_store (vs := [.int .i64 0]) Try.sizeOf3 rfl rfl rfl B350 rfl rfl (Nat.le_of_ble_eq_true rfl) (by simp [Value.oneCell']) (fun w356 sw356 B358 u357 => ?_)))))))))))))))
    have zu357 := u357.size
    have E359 := E351.next u357 (fun i hi (h : i = bk2) => show False by first | omega | assumption)
    have B358 : Blk w356 bk2 41 [.int .i64 0, .int .i64 0, .int .i64 0, .int .i64 x.frm, .int .i64 x.to, .int .i64 x.tons, .int .i64 x.port, .int .i64 x.sn] := B358
    refine t_field Try.underlying41 rfl Try.sizeOf3 (4) rfl rfl rfl rfl (t_store (vs := [.int .i64 0]) Try.sizeOf3 rfl rfl rfl B358 rfl rfl (Nat.le_of_ble_eq_true rfl) (by simp [Value.oneCell']) (fun w360 sw360 B362 u361 => ?_))
    have zu361 := u361.size
    have E363 := E359.next u361 (fun i hi (h : i = bk2) => show False by first | omega | assumption)
    have B362 : Blk w360 bk2 41 [.int .i64 0, .int .i64 0, .int .i64 0, .int .i64 x.frm, .int .i64 0, .int .i64 x.tons, .int .i64 x.port, .int .i64 x.sn] := B362
    refine t_field Try.underlying41 rfl Try.sizeOf3 (5) rfl rfl rfl rfl (t_store (vs := [.int .i64 0]) Try.sizeOf3 rfl rfl rfl B362 rfl rfl (Nat.le_of_ble_eq_true rfl) (by simp [Value.oneCell']) (fun w364 sw364 B366 u365 => ?_))
    have zu365 := u365.size
    have E367 := E363.next u365 (fun i hi (h : i = bk2) => show False by first | omega | assumption)
    have B366 : Blk w364 bk2 41 [.int .i64 0, .int .i64 0, .int .i64 0, .int .i64 x.frm, .int .i64 0, .int .i64 0, .int .i64 x.port, .int .i64 x.sn] := B366
    refine t_field Try.underlying41 rfl Try.sizeOf3 (6) rfl rfl rfl rfl (t_store (vs := [.int .i64 0]) Try.sizeOf3 rfl rfl rfl B366 rfl rfl (Nat.le_of_ble_eq_true rfl) (by simp [Value.oneCell']) (fun w368 sw368 B370 u369 => ?_))
    have zu369 := u369.size
    have E371 := E367.next u369 (fun i hi (h : i = bk2) => show False by first | omega | assumption)
    refine t_nil' (hK352 _ _ (c_seq fun K372 hK372 => (c_region (t_move rfl rfl rfl (t_move rfl rfl rfl (t_skip rfl rfl rfl (t_skip rfl rfl rfl (t_skip rfl rfl rfl (t_pick_f rfl rfl rfl rfl (t_assign rfl rfl rfl (t_nil' (hK372 _ _ (c_ret (f_ret1 (v := .bool false) Try.results72 rfl ?_))))))))))))))
    exact ⟨congrArg Value.bool (by rw [Bool.eq_iff_iff]; simp [okEv, okEv0, okTons, okPort] <;> omega), E371⟩
   ·
    refine c_seq fun K373 hK373 => (c_region (t_cmp rfl rfl rfl rfl rfl (t_assign rfl rfl rfl (t_nil' (hK373 _ _ (c_condp rfl (fun g52 => ?_) (fun g52 => ?_)))))))
    ·
     refine c_seq fun K374 hK374 => (c_region (t_move rfl rfl rfl (t_move rfl rfl rfl (t_skip rfl rfl rfl (t_pick_f rfl rfl rfl rfl (t_assign rfl rfl rfl (t_nil' (hK374 _ _ (c_region (t_field Try.underlying41 rfl Try.sizeOf3 (3) rfl rfl rfl rfl (t_store (vs := [.int .i64 0]) Try.sizeOf3 rfl rfl rfl B350 rfl rfl (Nat.le_of_ble_eq_true rfl) (by simp [Value.oneCell']) (fun w375 sw375 B377 u376 => ?_))))))))))))
     have zu376 := u376.size
     have E378 := E351.next u376 (fun i hi (h : i = bk2) => show False by first | omega | assumption)
     have B377 : Blk w375 bk2 41 [.int .i64 0, .int .i64 0, .int .i64 x.bill, .int .i64 0, .int .i64 x.to, .int .i64 x.tons, .int .i64 x.port, .int .i64 x.sn] := B377
     refine t_field Try.underlying41 rfl Try.sizeOf3 (4) rfl rfl rfl rfl (t_store (vs := [.int .i64 0]) Try.sizeOf3 rfl rfl rfl B377 rfl rfl (Nat.le_of_ble_eq_true rfl) (by simp [Value.oneCell']) (fun w379 sw379 B381 u380 => ?_))
     have zu380 := u380.size
     have E382 := E378.next u380 (fun i hi (h : i = bk2) => show False by first | omega | assumption)
     have B381 : Blk w379 bk2 41 [.int .i64 0, .int .i64 0, .int .i64 x.bill, .int .i64 0, .int .i64 0, .int .i64 x.tons, .int .i64 x.port, .int .i64 x.sn] := B381
     refine t_field Try.underlying41 rfl Try.sizeOf3 (5) rfl rfl rfl rfl (t_store (vs := [.int .i64 0]) Try.sizeOf3 rfl rfl rfl B381 rfl rfl (Nat.le_of_ble_eq_true rfl) (by simp [Value.oneCell']) (fun w383 sw383 B385 u384 => ?_))
     have zu384 := u384.size
     have E386 := E382.next u384 (fun i hi (h : i = bk2) => show False by first | omega | assumption)
     refine t_nil' (hK352 _ _ (c_seq fun K387 hK387 => (c_region (t_move rfl rfl rfl (t_move rfl rfl rfl (t_skip rfl rfl rfl (t_skip rfl rfl rfl (t_skip rfl rfl rfl (t_pick_f rfl rfl rfl rfl (t_assign rfl rfl rfl (t_nil' (hK387 _ _ (c_ret (f_ret1 (v := .bool false) Try.results72 rfl ?_))))))))))))))
     exact ⟨congrArg Value.bool (by rw [Bool.eq_iff_iff]; simp [okEv, okEv0, okTons, okPort] <;> omega), E386⟩
    ·
     refine c_seq fun K388 hK388 => (c_region (t_cmp rfl rfl rfl rfl rfl (t_assign rfl rfl rfl (t_nil' (hK388 _ _ (c_condp rfl (fun g61 => ?_) (fun g61 => ?_)))))))
     ·
      refine c_seq fun K389 hK389 => (c_region (t_move rfl rfl rfl (t_move rfl rfl rfl (t_skip rfl rfl rfl (t_pick_f rfl rfl rfl rfl (t_move rfl rfl rfl (t_skip rfl rfl rfl (t_pick_f rfl rfl rfl rfl (t_assign rfl rfl rfl (t_nil' (hK389 _ _ (c_region (t_field Try.underlying41 rfl Try.sizeOf3 (3) rfl rfl rfl rfl (t_store (vs := [.int .i64 0]) Try.sizeOf3 rfl rfl rfl B350 rfl rfl (Nat.le_of_ble_eq_true rfl) (by simp [Value.oneCell']) (fun w390 sw390 B392 u391 => ?_)))))))))))))))
      have zu391 := u391.size
      have E393 := E351.next u391 (fun i hi (h : i = bk2) => show False by first | omega | assumption)
      have B392 : Blk w390 bk2 41 [.int .i64 0, .int .i64 0, .int .i64 x.bill, .int .i64 0, .int .i64 x.to, .int .i64 x.tons, .int .i64 x.port, .int .i64 x.sn] := B392
      refine t_field Try.underlying41 rfl Try.sizeOf3 (5) rfl rfl rfl rfl (t_store (vs := [.int .i64 0]) Try.sizeOf3 rfl rfl rfl B392 rfl rfl (Nat.le_of_ble_eq_true rfl) (by simp [Value.oneCell']) (fun w394 sw394 B396 u395 => ?_))
      have zu395 := u395.size
      have E397 := E393.next u395 (fun i hi (h : i = bk2) => show False by first | omega | assumption)
      have B396 : Blk w394 bk2 41 [.int .i64 0, .int .i64 0, .int .i64 x.bill, .int .i64 0, .int .i64 x.to, .int .i64 0, .int .i64 x.port, .int .i64 x.sn] := B396
      refine t_field Try.underlying41 rfl Try.sizeOf3 (6) rfl rfl rfl rfl (t_store (vs := [.int .i64 0]) Try.sizeOf3 rfl rfl rfl B396 rfl rfl (Nat.le_of_ble_eq_true rfl) (by simp [Value.oneCell']) (fun w398 sw398 B400 u399 => ?_))
      have zu399 := u399.size
      have E401 := E397.next u399 (fun i hi (h : i = bk2) => show False by first | omega | assumption)
      refine t_nil' (hK352 _ _ (c_seq fun K402 hK402 => (c_region (t_move rfl rfl rfl (t_move rfl rfl rfl (t_skip rfl rfl rfl (t_skip rfl rfl rfl (t_skip rfl rfl rfl (t_pick_f rfl rfl rfl rfl (t_assign rfl rfl rfl (t_nil' (hK402 _ _ (c_ret (f_ret1 (v := .bool false) Try.results72 rfl ?_))))))))))))))
      exact ⟨congrArg Value.bool (by rw [Bool.eq_iff_iff]; simp [okEv, okEv0, okTons, okPort] <;> omega), E401⟩
     ·
      refine c_seq fun K403 hK403 => (c_region (t_cmp rfl rfl rfl rfl rfl (t_assign rfl rfl rfl (t_nil' (hK403 _ _ (c_condp rfl (fun g73 => ?_) (fun g73 => ?_)))))))
      ·
       refine c_seq fun K404 hK404 => (c_region (t_move rfl rfl rfl (t_move rfl rfl rfl (t_skip rfl rfl rfl (t_skip rfl rfl rfl (t_skip rfl rfl rfl (t_skip rfl rfl rfl (t_pick_f rfl rfl rfl rfl (t_assign rfl rfl rfl (t_nil' (hK404 _ _ (c_region (t_field Try.underlying41 rfl Try.sizeOf3 (4) rfl rfl rfl rfl (t_store (vs := [.int .i64 0]) Try.sizeOf3 rfl rfl rfl B350 rfl rfl (Nat.le_of_ble_eq_true rfl) (by simp [Value.oneCell']) (fun w405 sw405 B407 u406 => ?_)))))))))))))))
       have zu406 := u406.size
       have E408 := E351.next u406 (fun i hi (h : i = bk2) => show False by first | omega | assumption)
       have B407 : Blk w405 bk2 41 [.int .i64 0, .int .i64 0, .int .i64 x.bill, .int .i64 x.frm, .int .i64 0, .int .i64 x.tons, .int .i64 x.port, .int .i64 x.sn] := B407
       refine t_field Try.underlying41 rfl Try.sizeOf3 (7) rfl rfl rfl rfl (t_store (vs := [.int .i64 0]) Try.sizeOf3 rfl rfl rfl B407 rfl rfl (Nat.le_of_ble_eq_true rfl) (by simp [Value.oneCell']) (fun w409 sw409 B411 u410 => ?_))
       have zu410 := u410.size
       have E412 := E408.next u410 (fun i hi (h : i = bk2) => show False by first | omega | assumption)
       refine t_nil' (hK352 _ _ (c_seq fun K413 hK413 => (c_region (t_move rfl rfl rfl (t_move rfl rfl rfl (t_skip rfl rfl rfl (t_skip rfl rfl rfl (t_skip rfl rfl rfl (t_pick_f rfl rfl rfl rfl (t_assign rfl rfl rfl (t_nil' (hK413 _ _ (c_ret (f_ret1 (v := .bool false) Try.results72 rfl ?_))))))))))))))
       exact ⟨congrArg Value.bool (by rw [Bool.eq_iff_iff]; simp [okEv, okEv0, okTons, okPort] <;> omega), E412⟩
      ·
       refine c_seq fun K414 hK414 => (c_region (t_cmp rfl rfl rfl rfl rfl (t_assign rfl rfl rfl (t_nil' (hK414 _ _ (c_condp rfl (fun g84 => ?_) (fun g84 => ?_)))))))
       ·
        refine c_region (t_field Try.underlying41 rfl Try.sizeOf3 (3) rfl rfl rfl rfl (t_store (vs := [.int .i64 0]) Try.sizeOf3 rfl rfl rfl B350 rfl rfl (Nat.le_of_ble_eq_true rfl) (by simp [Value.oneCell']) (fun w415 sw415 B417 u416 => ?_)))
        have zu416 := u416.size
        have E418 := E351.next u416 (fun i hi (h : i = bk2) => show False by first | omega | assumption)
        refine t_nil' (hK352 _ _ (c_seq fun K419 hK419 => (c_region (t_move rfl rfl rfl (t_move rfl rfl rfl (t_skip rfl rfl rfl (t_skip rfl rfl rfl (t_skip rfl rfl rfl (t_pick_f rfl rfl rfl rfl (t_assign rfl rfl rfl (t_nil' (hK419 _ _ (c_ret (f_ret1 (v := .bool false) Try.results72 rfl ?_))))))))))))))
        exact ⟨congrArg Value.bool (by rw [Bool.eq_iff_iff]; simp [okEv, okEv0, okTons, okPort] <;> omega), E418⟩
       ·
        refine c_seq fun K420 hK420 => (c_region (t_assign rfl rfl rfl (t_nil' (hK420 _ _ (c_ret (f_ret1 (v := .bool false) Try.results72 rfl ?_))))))
        exact ⟨congrArg Value.bool (by rw [Bool.eq_iff_iff]; simp [okEv, okEv0, okTons, okPort] <;> omega), E351⟩
 ·
  refine t_skip rfl rfl rfl (t_skip rfl rfl rfl (t_skip rfl rfl rfl (t_pick_f rfl rfl rfl rfl (t_move rfl rfl rfl (t_skip rfl rfl rfl (t_skip rfl rfl rfl (t_skip rfl rfl rfl (t_pick_f rfl rfl rfl rfl (t_move rfl rfl rfl (t_skip rfl rfl rfl (t_skip rfl rfl rfl (t_skip rfl rfl rfl (t_pick_f rfl rfl rfl rfl (t_assign rfl rfl rfl (t_nil' (hK7 _ _ (c_seq fun K421 hK421 => (c_region (t_field Try.underlying41 rfl Try.sizeOf3 (5) rfl rfl rfl rfl ?_)))))))))))))))))))
  have B422 := ((B4.keep u11 (fun h => h)).keep u15 (fun h => h))
  refine t_load Try.isAgg3 rfl rfl rfl (B422.get rfl) (t_bslice (ps := [(0, .int .i64 x.tons)]) (cs := [.int .i64 x.tons]) (e := 3) rfl rfl ⟨rfl, rfl⟩ (fun w => by kernel_rfl) (fun bk423 w424 ebk423 sbk423 B425 u426 => ?_))
  have zu426 := u426.size
  have E427 := E17.next u426 (fun _ _ h => h.elim)
  refine t_call (vs := [.int .i64 1, .int .i64 1000000, .slice (some ⟨bk423, 0, none⟩) 1 1]) own40 rfl rfl rfl rfl (within1_v 1 1000000 x.tons _ _ _ B425) (fun v428 w429 r431 => ?_)
  obtain ⟨rfl, u430⟩ := r431
  have zu430 := u430.size
  have E432 := E427.next u430 (fun _ _ h => h.elim)
  refine t_assign rfl rfl rfl (t_nil' (hK421 _ _ (c_seq fun K433 hK433 => (c_region (t_field Try.underlying41 rfl Try.sizeOf3 (6) rfl rfl rfl rfl ?_)))))
  have B434 := ((B422.keep u426 (fun h => h)).keep u430 (fun h => h))
  refine t_load Try.isAgg3 rfl rfl rfl (B434.get rfl) (t_bslice (ps := [(0, .int .i64 x.port)]) (cs := [.int .i64 x.port]) (e := 3) rfl rfl ⟨rfl, rfl⟩ (fun w => by kernel_rfl) (fun bk435 w436 ebk435 sbk435 B437 u438 => ?_))
  have zu438 := u438.size
  have E439 := E432.next u438 (fun _ _ h => h.elim)
  refine t_call (vs := [.int .i64 0, .int .i64 99, .slice (some ⟨bk435, 0, none⟩) 1 1]) own40 rfl rfl rfl rfl (within1_v 0 99 x.port _ _ _ B437) (fun v440 w441 r443 => ?_)
  obtain ⟨rfl, u442⟩ := r443
  have zu442 := u442.size
  have E444 := E439.next u442 (fun _ _ h => h.elim)
  refine t_assign rfl rfl rfl (t_nil' (hK433 _ _ (c_seq fun K445 hK445 => (c_region (t_field Try.underlying41 rfl Try.sizeOf39 (0) rfl rfl rfl rfl ?_)))))
  have B446 := ((B434.keep u438 (fun h => h)).keep u442 (fun h => h))
  refine t_load Try.isAgg39 rfl rfl rfl (B446.get rfl) (t_assign rfl rfl rfl (t_nil' (hK445 _ _ (c_seq fun K447 hK447 => (c_region (t_field Try.underlying41 rfl Try.sizeOf39 (0) rfl rfl rfl rfl (t_store (vs := [.int .i64 0]) Try.sizeOf39 rfl rfl rfl B446 rfl rfl (Nat.le_of_ble_eq_true rfl) (by simp [Value.oneCell']) (fun w448 sw448 B450 u449 => ?_))))))))
  have zu449 := u449.size
  have E451 := E444.next u449 (fun i hi (h : i = bk2) => show False by first | omega | assumption)
  have B450 : Blk w448 bk2 41 [.int .i64 0, .int .i64 x.minute, .int .i64 x.bill, .int .i64 x.frm, .int .i64 x.to, .int .i64 x.tons, .int .i64 x.port, .int .i64 x.sn] := B450
  refine t_field Try.underlying41 rfl Try.sizeOf3 (1) rfl rfl rfl rfl (t_store (vs := [.int .i64 0]) Try.sizeOf3 rfl rfl rfl B450 rfl rfl (Nat.le_of_ble_eq_true rfl) (by simp [Value.oneCell']) (fun w452 sw452 B454 u453 => ?_))
  have zu453 := u453.size
  have E455 := E451.next u453 (fun i hi (h : i = bk2) => show False by first | omega | assumption)
  have B454 : Blk w452 bk2 41 [.int .i64 0, .int .i64 0, .int .i64 x.bill, .int .i64 x.frm, .int .i64 x.to, .int .i64 x.tons, .int .i64 x.port, .int .i64 x.sn] := B454
  refine t_nil' (hK447 _ _ (c_seq fun K456 hK456 => (c_seq fun K457 hK457 => (c_region (t_move rfl rfl rfl (t_nil' (hK457 _ _ (c_block (c_seq fun K458 hK458 => (c_region (t_cmp rfl rfl rfl rfl rfl (t_assign rfl rfl rfl (t_nil' (hK458 _ _ (c_condp rfl (fun g39 => ?_) (fun g39 => ?_))))))))))))))))
  ·
   refine c_seq fun K459 hK459 => (c_region (t_move rfl rfl rfl (t_move rfl rfl rfl (t_skip rfl rfl rfl (t_pick_f rfl rfl rfl rfl (t_move rfl rfl rfl (t_skip rfl rfl rfl (t_pick_f rfl rfl rfl rfl (t_assign rfl rfl rfl (t_nil' (hK459 _ _ (c_region (t_field Try.underlying41 rfl Try.sizeOf3 (2) rfl rfl rfl rfl (t_store (vs := [.int .i64 0]) Try.sizeOf3 rfl rfl rfl B454 rfl rfl (Nat.le_of_ble_eq_true rfl) (by simp [Value.oneCell']) (fun w460 sw460 B462 u461 => ?_)))))))))))))))
   have zu461 := u461.size
   have E463 := E455.next u461 (fun i hi (h : i = bk2) => show False by first | omega | assumption)
   have B462 : Blk w460 bk2 41 [.int .i64 0, .int .i64 0, .int .i64 0, .int .i64 x.frm, .int .i64 x.to, .int .i64 x.tons, .int .i64 x.port, .int .i64 x.sn] := B462
   refine t_field Try.underlying41 rfl Try.sizeOf3 (4) rfl rfl rfl rfl (t_store (vs := [.int .i64 0]) Try.sizeOf3 rfl rfl rfl B462 rfl rfl (Nat.le_of_ble_eq_true rfl) (by simp [Value.oneCell']) (fun w464 sw464 B466 u465 => ?_))
   have zu465 := u465.size
   have E467 := E463.next u465 (fun i hi (h : i = bk2) => show False by first | omega | assumption)
   have B466 : Blk w464 bk2 41 [.int .i64 0, .int .i64 0, .int .i64 0, .int .i64 x.frm, .int .i64 0, .int .i64 x.tons, .int .i64 x.port, .int .i64 x.sn] := B466
   refine t_field Try.underlying41 rfl Try.sizeOf3 (5) rfl rfl rfl rfl (t_store (vs := [.int .i64 0]) Try.sizeOf3 rfl rfl rfl B466 rfl rfl (Nat.le_of_ble_eq_true rfl) (by simp [Value.oneCell']) (fun w468 sw468 B470 u469 => ?_))
   have zu469 := u469.size
   have E471 := E467.next u469 (fun i hi (h : i = bk2) => show False by first | omega | assumption)
   have B470 : Blk w468 bk2 41 [.int .i64 0, .int .i64 0, .int .i64 0, .int .i64 x.frm, .int .i64 0, .int .i64 0, .int .i64 x.port, .int .i64 x.sn] := B470
   refine t_field Try.underlying41 rfl Try.sizeOf3 (6) rfl rfl rfl rfl (t_store (vs := [.int .i64 0]) Try.sizeOf3 rfl rfl rfl B470 rfl rfl (Nat.le_of_ble_eq_true rfl) (by simp [Value.oneCell']) (fun w472 sw472 B474 u473 => ?_))
   have zu473 := u473.size
   have E475 := E471.next u473 (fun i hi (h : i = bk2) => show False by first | omega | assumption)
   refine t_nil' (hK456 _ _ (c_seq fun K476 hK476 => (c_region (t_move rfl rfl rfl (t_move rfl rfl rfl (t_skip rfl rfl rfl (t_skip rfl rfl rfl (t_skip rfl rfl rfl (t_pick_f rfl rfl rfl rfl (t_assign rfl rfl rfl (t_nil' (hK476 _ _ (c_ret (f_ret1 (v := .bool false) Try.results72 rfl ?_))))))))))))))
   exact ⟨congrArg Value.bool (by rw [Bool.eq_iff_iff]; simp [okEv, okEv0, okTons, okPort] <;> omega), E475⟩
  ·
   refine c_seq fun K477 hK477 => (c_region (t_cmp rfl rfl rfl rfl rfl (t_assign rfl rfl rfl (t_nil' (hK477 _ _ (c_condp rfl (fun g52 => ?_) (fun g52 => ?_)))))))
   ·
    refine c_seq fun K478 hK478 => (c_region (t_move rfl rfl rfl (t_move rfl rfl rfl (t_skip rfl rfl rfl (t_pick_f rfl rfl rfl rfl (t_assign rfl rfl rfl (t_nil' (hK478 _ _ (c_region (t_field Try.underlying41 rfl Try.sizeOf3 (3) rfl rfl rfl rfl (t_store (vs := [.int .i64 0]) Try.sizeOf3 rfl rfl rfl B454 rfl rfl (Nat.le_of_ble_eq_true rfl) (by simp [Value.oneCell']) (fun w479 sw479 B481 u480 => ?_))))))))))))
    have zu480 := u480.size
    have E482 := E455.next u480 (fun i hi (h : i = bk2) => show False by first | omega | assumption)
    have B481 : Blk w479 bk2 41 [.int .i64 0, .int .i64 0, .int .i64 x.bill, .int .i64 0, .int .i64 x.to, .int .i64 x.tons, .int .i64 x.port, .int .i64 x.sn] := B481
    refine t_field Try.underlying41 rfl Try.sizeOf3 (4) rfl rfl rfl rfl (t_store (vs := [.int .i64 0]) Try.sizeOf3 rfl rfl rfl B481 rfl rfl (Nat.le_of_ble_eq_true rfl) (by simp [Value.oneCell']) (fun w483 sw483 B485 u484 => ?_))
    have zu484 := u484.size
    have E486 := E482.next u484 (fun i hi (h : i = bk2) => show False by first | omega | assumption)
    have B485 : Blk w483 bk2 41 [.int .i64 0, .int .i64 0, .int .i64 x.bill, .int .i64 0, .int .i64 0, .int .i64 x.tons, .int .i64 x.port, .int .i64 x.sn] := B485
    refine t_field Try.underlying41 rfl Try.sizeOf3 (5) rfl rfl rfl rfl (t_store (vs := [.int .i64 0]) Try.sizeOf3 rfl rfl rfl B485 rfl rfl (Nat.le_of_ble_eq_true rfl) (by simp [Value.oneCell']) (fun w487 sw487 B489 u488 => ?_))
    have zu488 := u488.size
    have E490 := E486.next u488 (fun i hi (h : i = bk2) => show False by first | omega | assumption)
    refine t_nil' (hK456 _ _ (c_seq fun K491 hK491 => (c_region (t_move rfl rfl rfl (t_move rfl rfl rfl (t_skip rfl rfl rfl (t_skip rfl rfl rfl (t_skip rfl rfl rfl (t_pick_f rfl rfl rfl rfl (t_assign rfl rfl rfl (t_nil' (hK491 _ _ (c_ret (f_ret1 (v := .bool false) Try.results72 rfl ?_))))))))))))))
    exact ⟨congrArg Value.bool (by rw [Bool.eq_iff_iff]; simp [okEv, okEv0, okTons, okPort] <;> omega), E490⟩
   ·
    refine c_seq fun K492 hK492 => (c_region (t_cmp rfl rfl rfl rfl rfl (t_assign rfl rfl rfl (t_nil' (hK492 _ _ (c_condp rfl (fun g61 => ?_) (fun g61 => ?_)))))))
    ·
     refine c_seq fun K493 hK493 => (c_region (t_move rfl rfl rfl (t_move rfl rfl rfl (t_skip rfl rfl rfl (t_pick_f rfl rfl rfl rfl (t_move rfl rfl rfl (t_skip rfl rfl rfl (t_pick_f rfl rfl rfl rfl (t_assign rfl rfl rfl (t_nil' (hK493 _ _ (c_region (t_field Try.underlying41 rfl Try.sizeOf3 (3) rfl rfl rfl rfl (t_store (vs := [.int .i64 0]) Try.sizeOf3 rfl rfl rfl B454 rfl rfl (Nat.le_of_ble_eq_true rfl) (by simp [Value.oneCell']) (fun w494 sw494 B496 u495 => ?_)))))))))))))))
     have zu495 := u495.size
     have E497 := E455.next u495 (fun i hi (h : i = bk2) => show False by first | omega | assumption)
     have B496 : Blk w494 bk2 41 [.int .i64 0, .int .i64 0, .int .i64 x.bill, .int .i64 0, .int .i64 x.to, .int .i64 x.tons, .int .i64 x.port, .int .i64 x.sn] := B496
     refine t_field Try.underlying41 rfl Try.sizeOf3 (5) rfl rfl rfl rfl (t_store (vs := [.int .i64 0]) Try.sizeOf3 rfl rfl rfl B496 rfl rfl (Nat.le_of_ble_eq_true rfl) (by simp [Value.oneCell']) (fun w498 sw498 B500 u499 => ?_))
     have zu499 := u499.size
     have E501 := E497.next u499 (fun i hi (h : i = bk2) => show False by first | omega | assumption)
     have B500 : Blk w498 bk2 41 [.int .i64 0, .int .i64 0, .int .i64 x.bill, .int .i64 0, .int .i64 x.to, .int .i64 0, .int .i64 x.port, .int .i64 x.sn] := B500
     refine t_field Try.underlying41 rfl Try.sizeOf3 (6) rfl rfl rfl rfl (t_store (vs := [.int .i64 0]) Try.sizeOf3 rfl rfl rfl B500 rfl rfl (Nat.le_of_ble_eq_true rfl) (by simp [Value.oneCell']) (fun w502 sw502 B504 u503 => ?_))
     have zu503 := u503.size
     have E505 := E501.next u503 (fun i hi (h : i = bk2) => show False by first | omega | assumption)
     refine t_nil' (hK456 _ _ (c_seq fun K506 hK506 => (c_region (t_move rfl rfl rfl (t_move rfl rfl rfl (t_skip rfl rfl rfl (t_skip rfl rfl rfl (t_skip rfl rfl rfl (t_pick_f rfl rfl rfl rfl (t_assign rfl rfl rfl (t_nil' (hK506 _ _ (c_ret (f_ret1 (v := .bool false) Try.results72 rfl ?_))))))))))))))
     exact ⟨congrArg Value.bool (by rw [Bool.eq_iff_iff]; simp [okEv, okEv0, okTons, okPort] <;> omega), E505⟩
    ·
     refine c_seq fun K507 hK507 => (c_region (t_cmp rfl rfl rfl rfl rfl (t_assign rfl rfl rfl (t_nil' (hK507 _ _ (c_condp rfl (fun g73 => ?_) (fun g73 => ?_)))))))
     ·
      refine c_seq fun K508 hK508 => (c_region (t_move rfl rfl rfl (t_move rfl rfl rfl (t_skip rfl rfl rfl (t_skip rfl rfl rfl (t_skip rfl rfl rfl (t_skip rfl rfl rfl (t_pick_f rfl rfl rfl rfl (t_assign rfl rfl rfl (t_nil' (hK508 _ _ (c_region (t_field Try.underlying41 rfl Try.sizeOf3 (4) rfl rfl rfl rfl (t_store (vs := [.int .i64 0]) Try.sizeOf3 rfl rfl rfl B454 rfl rfl (Nat.le_of_ble_eq_true rfl) (by simp [Value.oneCell']) (fun w509 sw509 B511 u510 => ?_)))))))))))))))
      have zu510 := u510.size
      have E512 := E455.next u510 (fun i hi (h : i = bk2) => show False by first | omega | assumption)
      have B511 : Blk w509 bk2 41 [.int .i64 0, .int .i64 0, .int .i64 x.bill, .int .i64 x.frm, .int .i64 0, .int .i64 x.tons, .int .i64 x.port, .int .i64 x.sn] := B511
      refine t_field Try.underlying41 rfl Try.sizeOf3 (7) rfl rfl rfl rfl (t_store (vs := [.int .i64 0]) Try.sizeOf3 rfl rfl rfl B511 rfl rfl (Nat.le_of_ble_eq_true rfl) (by simp [Value.oneCell']) (fun w513 sw513 B515 u514 => ?_))
      have zu514 := u514.size
      have E516 := E512.next u514 (fun i hi (h : i = bk2) => show False by first | omega | assumption)
      refine t_nil' (hK456 _ _ (c_seq fun K517 hK517 => (c_region (t_move rfl rfl rfl (t_move rfl rfl rfl (t_skip rfl rfl rfl (t_skip rfl rfl rfl (t_skip rfl rfl rfl (t_pick_f rfl rfl rfl rfl (t_assign rfl rfl rfl (t_nil' (hK517 _ _ (c_ret (f_ret1 (v := .bool false) Try.results72 rfl ?_))))))))))))))
      exact ⟨congrArg Value.bool (by rw [Bool.eq_iff_iff]; simp [okEv, okEv0, okTons, okPort] <;> omega), E516⟩
     ·
      refine c_seq fun K518 hK518 => (c_region (t_cmp rfl rfl rfl rfl rfl (t_assign rfl rfl rfl (t_nil' (hK518 _ _ (c_condp rfl (fun g84 => ?_) (fun g84 => ?_)))))))
      ·
       refine c_region (t_field Try.underlying41 rfl Try.sizeOf3 (3) rfl rfl rfl rfl (t_store (vs := [.int .i64 0]) Try.sizeOf3 rfl rfl rfl B454 rfl rfl (Nat.le_of_ble_eq_true rfl) (by simp [Value.oneCell']) (fun w519 sw519 B521 u520 => ?_)))
       have zu520 := u520.size
       have E522 := E455.next u520 (fun i hi (h : i = bk2) => show False by first | omega | assumption)
       refine t_nil' (hK456 _ _ (c_seq fun K523 hK523 => (c_region (t_move rfl rfl rfl (t_move rfl rfl rfl (t_skip rfl rfl rfl (t_skip rfl rfl rfl (t_skip rfl rfl rfl (t_pick_f rfl rfl rfl rfl (t_assign rfl rfl rfl (t_nil' (hK523 _ _ (c_ret (f_ret1 (v := .bool false) Try.results72 rfl ?_))))))))))))))
       exact ⟨congrArg Value.bool (by rw [Bool.eq_iff_iff]; simp [okEv, okEv0, okTons, okPort] <;> omega), E522⟩
      ·
       refine c_seq fun K524 hK524 => (c_region (t_assign rfl rfl rfl (t_nil' (hK524 _ _ (c_ret (f_ret1 (v := .bool false) Try.results72 rfl ?_))))))
       exact ⟨congrArg Value.bool (by rw [Bool.eq_iff_iff]; simp [okEv, okEv0, okTons, okPort] <;> omega), E455⟩

theorem badEv_c (x : Ev) (w0 : World) :
    CallsV Try.prog 71 [.agg #[.int .i64 x.kind, .int .i64 x.minute, .int .i64 x.bill, .int .i64 x.frm, .int .i64 x.to, .int .i64 x.tons, .int .i64 x.port, .int .i64 x.sn]] w0 (fun v w' => v = .bool (!okEv x) ∧ Ext w0 w') := by
 have E0 := Upd.refl (fun _ => False) w0
 refine f_enter (N := 6) Try.func71 rfl rfl rfl ?_
 change WC _ _ _ _ _ _ [(0, .agg #[.int .i64 x.kind, .int .i64 x.minute, .int .i64 x.bill, .int .i64 x.frm, .int .i64 x.to, .int .i64 x.tons, .int .i64 x.port, .int .i64 x.sn])] _
 refine c_seq fun K1 hK1 => (c_region (t_box (cs := [.int .i64 x.kind, .int .i64 x.minute, .int .i64 x.bill, .int .i64 x.frm, .int .i64 x.to, .int .i64 x.tons, .int .i64 x.port, .int .i64 x.sn]) rfl rfl rfl rfl (fun bk2 w3 ebk2 sbk2 B4 u5 => ?_)))
 have zu5 := u5.size
 have E6 := E0.next u5 (fun _ _ h => h.elim)
 refine t_assign rfl rfl rfl (t_nil' (hK1 _ _ (c_seq fun K7 hK7 => (c_region (t_loadN (vs := [.int .i64 x.kind, .int .i64 x.minute, .int .i64 x.bill, .int .i64 x.frm, .int .i64 x.to, .int .i64 x.tons, .int .i64 x.port, .int .i64 x.sn]) Try.isAgg41 Try.sizeOf41 rfl rfl rfl (B4.at.sub 0 8) rfl (t_call (vs := [.agg #[.int .i64 x.kind, .int .i64 x.minute, .int .i64 x.bill, .int .i64 x.frm, .int .i64 x.to, .int .i64 x.tons, .int .i64 x.port, .int .i64 x.sn]]) own72 rfl rfl rfl rfl (isEvent_c x _) (fun v8 w9 r11 => ?_)))))))
 obtain ⟨rfl, u10⟩ := r11
 have zu10 := u10.size
 have E12 := E6.next u10 (fun _ _ h => h.elim)
 refine t_not rfl rfl rfl (t_assign rfl rfl rfl (t_nil' (hK7 _ _ (c_ret (f_ret1 (v := .bool (!(okEv x))) Try.results71 rfl ?_)))))
 exact ⟨rfl, E12⟩


end Go.Proofs.Ytgkkgpenmppjcaa
