/-
  Part 5 of the proof: contracts and plain laws. Conditions: none.
-/
import Derived.Test.YtgoajalaomakpaaGreatProg
import Derived.Test.YtgoajalaomakpaaGreatIK4
namespace Go.Proofs.YtgoajalaomakpaaGreat
open Go Go.RowKit Go.Proofs.Tryz

theorem any_snoc {α : Type} [Inhabited α] {p : α → Bool} {xs : List α} {k : Nat} (hk : k < xs.length) (h : (xs.take k).any p = false) (hx : p (nth xs k) = false) : (xs.take (k + 1)).any p = false := by
  rw [take_nth hk, List.any_append, h]; simp [hx]
theorem any_hit {α : Type} [Inhabited α] {p : α → Bool} {xs : List α} {k : Nat} (hk : k < xs.length) (hx : p (nth xs k) = true) : decide ((0 : Int) ≤ (k : Int)) = xs.any p := by
  have : xs.any p = true := List.any_eq_true.2 ⟨nth xs k, nth_mem hk, hx⟩
  rw [this]; simp
theorem any_none {α : Type} {p : α → Bool} {xs : List α} {k : Nat} (hk : xs.length ≤ k) (h : (xs.take k).any p = false) : decide ((0 : Int) ≤ -1) = xs.any p := by
  rw [List.take_of_length_le hk] at h; rw [h]; decide
theorem not_any_out (lo hi : Int) (xs : List Int) : (!(xs.any fun n => decide (n < lo ∨ hi < n))) = decide (∀ n ∈ xs, lo ≤ n ∧ n ≤ hi) := by
  rw [Bool.eq_iff_iff]
  simp only [Bool.not_eq_true', List.any_eq_false, decide_eq_true_eq]
  exact ⟨fun h n hn => by have := h n hn; omega, fun h n hn => by have := h n hn; omega⟩
def encI (n : Int) : List Value := [.int .i64 n]
theorem SlI.own {w : World} {b : Nat} {t : TypeId} {xs : List Int} (h : Blk w b t (xs.map (Value.int .i64))) : Sl encI 1 w (some ⟨b, 0, none⟩) b 0 xs :=
  ⟨fun _ => rfl, fun _ => h.lt, fun i hi j v hv => by
    cases j with
    | zero =>
      rw [nth_eq hi] at hv
      simp [encI] at hv
      subst hv
      exact h.get (off := 0 + i * 1 + 0) (by simp [hi])
    | succ j => simp [encI] at hv⟩
structure Bid where
  p : Int
  n : Int
  r : Int
  m : Int
instance : Inhabited Bid := ⟨⟨default, default, default, default⟩⟩
def encBid (x : Bid) : List Value := [.int .i64 x.p, .int .i64 x.n, .int .i64 x.r, .int .i64 x.m]
structure Trd where
  b : Int
  s : Int
  n : Int
instance : Inhabited Trd := ⟨⟨default, default, default⟩⟩
def encTrd (x : Trd) : List Value := [.int .i64 x.b, .int .i64 x.s, .int .i64 x.n]
structure Low where
  b : Int
  p : Int
instance : Inhabited Low := ⟨⟨default, default⟩⟩
def encLow (x : Low) : List Value := [.int .i64 x.b, .int .i64 x.p]
structure Msg where
  c : Int
  n : Int
  r : Int
  k : Int
  m : Int
  v : Int
instance : Inhabited Msg := ⟨⟨default, default, default, default, default, default⟩⟩
def encMsg (x : Msg) : List Value := [.int .i64 x.c, .int .i64 x.n, .int .i64 x.r, .int .i64 x.k, .int .i64 x.m, .int .i64 x.v]
structure Fre where
  f : Int
  t : Int
instance : Inhabited Fre := ⟨⟨default, default⟩⟩
def encFre (x : Fre) : List Value := [.int .i64 x.f, .int .i64 x.t]
structure Off where
  f : Int
  t : Int
  b : Int
  e : Int
  p : Int
instance : Inhabited Off := ⟨⟨default, default, default, default, default⟩⟩
def encOff (x : Off) : List Value := [.int .i64 x.f, .int .i64 x.t, .int .i64 x.b, .int .i64 x.e, .int .i64 x.p]
structure Chr where
  s : Int
  c : Int
  k : Int
  r : Int
  n : Int
  l : Int
  o : Int
  d : Int
  e : Int
  m : Int
instance : Inhabited Chr := ⟨⟨default, default, default, default, default, default, default, default, default, default⟩⟩

def cmpI3 (m n : Int) : Int := if m < n then -1 else if n < m then 1 else 0
def or3 (a b c : Int) : Int := if a ≠ 0 then a else if b ≠ 0 then b else c
def okBid (x : Bid) : Bool := decide ((0 ≤ x.p ∧ x.p ≤ 99) ∧ (1 ≤ x.n ∧ x.n ≤ 1000000) ∧ (0 ≤ x.r ∧ x.r ≤ 1000000) ∧ (0 ≤ x.m ∧ x.m ≤ 100000))
def okMsg (x : Msg) : Bool := decide ((0 ≤ x.c ∧ x.c ≤ 9) ∧ (0 ≤ x.n ∧ x.n ≤ 999) ∧ (0 ≤ x.r ∧ x.r ≤ 99) ∧ (1 ≤ x.k ∧ x.k ≤ 7) ∧ (0 ≤ x.m ∧ x.m ≤ 100000) ∧ (0 ≤ x.v ∧ x.v ≤ 1000000))
def okOff (x : Off) : Bool := decide (((0 ≤ x.f ∧ x.f ≤ 100000) ∧ (0 ≤ x.t ∧ x.t ≤ 100000)) ∧ ((0 ≤ x.b ∧ x.b ≤ 100000) ∧ (0 ≤ x.e ∧ x.e ≤ 100000)) ∧ x.b ≤ x.e ∧ (0 ≤ x.p ∧ x.p ≤ 1000000000))
def okFre (x : Fre) : Bool := decide (((0 ≤ x.f ∧ x.f ≤ 100000) ∧ (0 ≤ x.t ∧ x.t ≤ 100000)) ∧ x.f ≤ x.t)
def okLow (x : Low) : Bool := decide ((0 ≤ x.b ∧ x.b ≤ 10000) ∧ (0 ≤ x.p ∧ x.p ≤ 1000))
/-- a / b, rounded. -/
def rnd2 (a b : Int) : Int := (a + b / 2) / b
def chkFr (l : List Fre) : Int := if 30 < l.length then 5 else if (l.any fun f => !okFre f) = true then 2 else 0

theorem follows : Tryz.prog.follows .mixedOrders = true := by kernel_rfl
theorem own42 : Own Tryz.prog 42 := ⟨Tryz.f42, func42, by kernel_rfl, by kernel_rfl⟩
theorem own57 : Own Tryz.prog 57 := ⟨Tryz.f57, func57, by kernel_rfl, by kernel_rfl⟩
theorem own90 : Own Tryz.prog 90 := ⟨Tryz.f90, func90, by kernel_rfl, by kernel_rfl⟩
theorem own91 : Own Tryz.prog 91 := ⟨Tryz.f91, func91, by kernel_rfl, by kernel_rfl⟩
theorem own100 : Own Tryz.prog 100 := ⟨Tryz.f100, func100, by kernel_rfl, by kernel_rfl⟩
theorem own108 : Own Tryz.prog 108 := ⟨Tryz.f108, func108, by kernel_rfl, by kernel_rfl⟩
theorem own110 : Own Tryz.prog 110 := ⟨Tryz.f110, func110, by kernel_rfl, by kernel_rfl⟩
theorem own111 : Own Tryz.prog 111 := ⟨Tryz.f111, func111, by kernel_rfl, by kernel_rfl⟩
theorem own125 : Own Tryz.prog 125 := ⟨Tryz.f125, func125, by kernel_rfl, by kernel_rfl⟩
theorem isNaN_c (m : Int) (w0 : World) :
    CallsV Tryz.prog 125 [.int .i64 m] w0 (fun v w' => (v = .bool false ∧ Gr w0 w') ∧ Ext w0 w') := by
 refine f_n func125 ?_
 iterate 10 refine st1 ?_
 refine t_samehd (v := .bool false) (by simp) ?_
 refine go ?_
 refine f_1 results125 ?_
 exact ⟨⟨rfl, Gr.refl _⟩, u_d⟩

theorem cmpI_c (m n : Int) (w0 : World) :
    CallsV Tryz.prog 91 [.int .i64 m, .int .i64 n] w0 (fun v w' => (v = .int .i64 (cmpI3 m n) ∧ Gr w0 w') ∧ Ext w0 w') := by
 refine f_n func91 ?_
 refine go ?_
 refine t_call own125 rfl rfl rfl rfl (isNaN_c m _) (fun v3 w4 r6 => ?_)
 obtain ⟨⟨rfl, Gu5⟩, u5⟩ := r6
 have zu5 := u5.size
 refine go ?_
 refine t_call own125 rfl rfl rfl rfl (isNaN_c n _) (fun v9 w10 r12 => ?_)
 obtain ⟨⟨rfl, Gu11⟩, u11⟩ := r12
 have zu11 := u11.size
 refine go ?_
 refine q_p (fun g16 => ?_) fun g16 => ?_
 ·
  refine go ?_
  refine f_1 results91 ?_
  exact ⟨⟨congrArg (Value.int .i64) (by unfold cmpI3; rw [if_pos g16]), (((Gr.refl _).trans Gu5).trans Gu11)⟩, u_d⟩
 refine go ?_
 refine q_p (fun g19 => ?_) fun g19 => ?_
 ·
  refine go ?_
  refine f_1 results91 ?_
  exact ⟨⟨congrArg (Value.int .i64) (by unfold cmpI3; rw [if_neg g16, if_pos g19]), (((Gr.refl _).trans Gu5).trans Gu11)⟩, u_d⟩
 refine go ?_
 refine f_1 results91 ?_
 exact ⟨⟨congrArg (Value.int .i64) (by unfold cmpI3; rw [if_neg g16, if_neg g19]), (((Gr.refl _).trans Gu5).trans Gu11)⟩, u_d⟩

theorem or3_c (m n q : Int) (b : Nat) (w0 : World) (hb : Blk w0 b 3 [.int .i64 m, .int .i64 n, .int .i64 q]) :
    CallsV Tryz.prog 90 [.slice (some ⟨b, 0, none⟩) 3 3] w0 (fun v w' => (v = .int .i64 (or3 m n q) ∧ Gr w0 w') ∧ Ext w0 w') := by
 refine f_n func90 ?_
 refine go ?_
 refine c_rounds 4 (WR.weak [(3, .int .i64 0), (6, .slice (some ⟨b, 0, none⟩) 3 3), (7, .int .i64 3), (8, .int .i64 0)] ⟨rfl, rfl, rfl, rfl, trivial⟩ (r_round fun K5 hK5 => (q_of ?_)))
 refine go ?_
 refine t_index (j := 0) underlying37 sizeOf3 rfl rfl rfl rfl rfl rfl (by omega) ?_
 refine go ?_
 refine q_p (fun g14 => ?_) fun g14 => ?_
 ·
  refine go ?_
  refine f_1 results90 ?_
  exact ⟨⟨congrArg (Value.int .i64) (by unfold or3; (repeat' split) <;> omega), (Gr.refl _)⟩, u_d⟩
 refine go ?_
 refine hK5 _ _ (WR.weak [(3, .int .i64 0), (6, .slice (some ⟨b, 0, none⟩) 3 3), (7, .int .i64 3), (8, .int .i64 1)] ⟨rfl, rfl, rfl, rfl, trivial⟩ (r_round fun K12 hK12 => (q_of ?_)))
 refine go ?_
 refine t_index (j := 1) underlying37 sizeOf3 rfl rfl rfl rfl rfl rfl (by omega) ?_
 refine go ?_
 refine q_p (fun g14 => ?_) fun g14 => ?_
 ·
  refine go ?_
  refine f_1 results90 ?_
  exact ⟨⟨congrArg (Value.int .i64) (by unfold or3; (repeat' split) <;> omega), (Gr.refl _)⟩, u_d⟩
 refine go ?_
 refine hK12 _ _ (WR.weak [(3, .int .i64 0), (6, .slice (some ⟨b, 0, none⟩) 3 3), (7, .int .i64 3), (8, .int .i64 2)] ⟨rfl, rfl, rfl, rfl, trivial⟩ (r_round fun K19 hK19 => (q_of ?_)))
 refine go ?_
 refine t_index (j := 2) underlying37 sizeOf3 rfl rfl rfl rfl rfl rfl (by omega) ?_
 refine go ?_
 refine q_p (fun g14 => ?_) fun g14 => ?_
 ·
  refine go ?_
  refine f_1 results90 ?_
  exact ⟨⟨congrArg (Value.int .i64) (by unfold or3; (repeat' split) <;> omega), (Gr.refl _)⟩, u_d⟩
 refine go ?_
 refine hK19 _ _ (WR.weak [(3, .int .i64 0), (6, .slice (some ⟨b, 0, none⟩) 3 3), (7, .int .i64 3), (8, .int .i64 3)] ⟨rfl, rfl, rfl, rfl, trivial⟩ (r_round fun K26 hK26 => (q_of ?_)))
 refine go ?_
 refine f_1 results90 ?_
 exact ⟨⟨congrArg (Value.int .i64) (by unfold or3; (repeat' split) <;> omega), (Gr.refl _)⟩, u_d⟩

abbrev out1 (lo hi n : Int) : Bool := decide (n < lo ∨ hi < n)

theorem within1_c (lo hi n : Int) (b c : Nat) (t1 t2 : TypeId) (w0 : World) (hb : Blk w0 b t1 [.int .i64 lo]) (hc : Blk w0 c t2 [.int .i64 hi]) :
    CallsV Tryz.prog 100 [.int .i64 n, .pointer (some ⟨b, 0, none⟩), .pointer (some ⟨c, 0, none⟩)] w0 (fun v w' => v = .bool (out1 lo hi n) ∧ Ext w0 w') := by
 refine f_n func100 ?_
 refine go ?_
 refine t_splitp 8 rfl (fun g8 => ?_) (fun g8 => ?_)
 ·
  refine go ?_
  refine f_1 results100 ?_
  exact ⟨by simp [out1, *], u_d⟩
 refine go ?_
 refine f_1 results100 ?_
 exact ⟨by simp [out1, *], u_d⟩

theorem indexI_c (p : Int → Bool) (fv : FuncId) (caps : List Value) (xs : List Int) (ao : Option Addr) (b o cap : Nat) (w0 : World) (ho : Own Tryz.prog fv) (hp : ∀ x ∈ xs, ∀ w, Ext w0 w → CallsV Tryz.prog fv ([.int .i64 x] ++ caps) w fun v w' => v = .bool (p x) ∧ Ext w w') (hs : Sl encI 1 w0 ao b o xs) (hl : xs.length ≤ 1000000) :
    CallsV Tryz.prog 128 [.slice ao xs.length cap, .func (.func fv) #[] (caps).toArray] w0 (fun v w' => (∃ n : Int, v = .int .i64 n ∧ decide (0 ≤ n) = xs.any p) ∧ Ext w0 w') := by
 refine f_n func128 ?_
 refine go ?_
 refine x_l1 (fun _ => False) [0, 1, 7] (fun (k : Nat) => [(8, .int .i64 (k : Int))]) (fun k w => (k ≤ xs.length) ∧ ((xs.take k).any p = false)) (fun k => xs.length - k) 0 ⟨Nat.zero_le _, (by simp)⟩ ?_
 rintro k w5 ⟨hle, hnot⟩ u6 zu6 K4 hK4
 have E7 := Sc.mk ((Upd.refl (fun _ => False) w0).nx u6)
 refine go ?_
 refine q_p (fun g9 => ?_) fun g9 => ?_
 ·
  refine go ?_
  refine g_i k (hs.keep E7.u (fun _ h => h)) (fun _ => ?_)
  refine go ?_
  refine t_call (fs := []) (cs := caps) ho rfl rfl rfl rfl (hp (nth xs k) (nth_mem (by omega)) _ E7.u) (fun v14 w15 r17 => ?_)
  obtain ⟨rfl, u16⟩ := r17
  have zu16 := u16.size
  refine go ?_
  refine q_b (fun g16 => ?_) fun g16 => ?_
  ·
   refine go ?_
   refine f_1 results128 ?_
   exact ⟨⟨_, rfl, any_hit (by omega) g16⟩, u_d⟩
  refine go ?_
  exact hK4 (k + 1) ⟨(by omega), (any_snoc (by omega) hnot g16)⟩
 refine go ?_
 refine f_1 results128 ?_
 exact ⟨⟨_, rfl, any_none (by omega) hnot⟩, u_d⟩

theorem containsI_c (p : Int → Bool) (fv : FuncId) (caps : List Value) (xs : List Int) (ao : Option Addr) (b o cap : Nat) (w0 : World) (ho : Own Tryz.prog fv) (hp : ∀ x ∈ xs, ∀ w, Ext w0 w → CallsV Tryz.prog fv ([.int .i64 x] ++ caps) w fun v w' => v = .bool (p x) ∧ Ext w w') (hs : Sl encI 1 w0 ao b o xs) (hl : xs.length ≤ 1000000) :
    CallsV Tryz.prog 99 [.slice ao xs.length cap, .func (.func fv) #[] (caps).toArray] w0 (fun v w' => v = .bool (xs.any p) ∧ Ext w0 w') := by
 refine f_n func99 ?_
 refine go ?_
 refine x_c func128 rfl rfl (indexI_c p fv caps xs ao b o cap _ ho hp hs hl) ?_
 rintro _ w4 ⟨⟨n, rfl, hn⟩, u5⟩ zu5
 refine go ?_
 refine f_1 results99 ?_
 exact ⟨by rw [hn], u_d⟩

theorem indexB_c {α : Type} [Inhabited α] (enc : α → List Value) (hk : ∀ x, (enc x).length = 4) (p : α → Bool) (fv : FuncId) (caps : List Value) (xs : List α) (ao : Option Addr) (b o cap : Nat) (w0 : World) (ho : Own Tryz.prog fv) (hp : ∀ x ∈ xs, ∀ w, Ext w0 w → CallsV Tryz.prog fv ([.agg (enc x).toArray] ++ caps) w fun v w' => v = .bool (p x) ∧ Ext w w') (hs : Sl enc 4 w0 ao b o xs) (hl : xs.length ≤ 1000000) :
    CallsV Tryz.prog 88 [.slice ao xs.length cap, .func (.func fv) #[] (caps).toArray] w0 (fun v w' => (∃ n : Int, v = .int .i64 n ∧ decide (0 ≤ n) = xs.any p) ∧ Ext w0 w') := by
 refine f_n func88 ?_
 refine go ?_
 refine x_l1 (fun _ => False) [0, 1, 7] (fun (k : Nat) => [(8, .int .i64 (k : Int))]) (fun k w => (k ≤ xs.length) ∧ ((xs.take k).any p = false)) (fun k => xs.length - k) 0 ⟨Nat.zero_le _, (by simp)⟩ ?_
 rintro k w5 ⟨hle, hnot⟩ u6 zu6 K4 hK4
 have E7 := Sc.mk ((Upd.refl (fun _ => False) w0).nx u6)
 refine go ?_
 refine q_p (fun g9 => ?_) fun g9 => ?_
 ·
  refine go ?_
  refine g_i k (hs.keep E7.u (fun _ h => h)) (fun _ => ?_)
  refine t_loadN (vs := enc (nth xs k)) isAgg30 sizeOf30 rfl rfl rfl ((hs.keep E7.u (fun _ h => h)).at_ k (by omega)) (hk _) (t_call (fs := []) (cs := caps) ho rfl rfl rfl rfl (hp (nth xs k) (nth_mem (by omega)) _ E7.u) (fun v14 w15 r17 => ?_))
  obtain ⟨rfl, u16⟩ := r17
  have zu16 := u16.size
  refine go ?_
  refine q_b (fun g16 => ?_) fun g16 => ?_
  ·
   refine go ?_
   refine f_1 results88 ?_
   exact ⟨⟨_, rfl, any_hit (by omega) g16⟩, u_d⟩
  refine go ?_
  exact hK4 (k + 1) ⟨(by omega), (any_snoc (by omega) hnot g16)⟩
 refine go ?_
 refine f_1 results88 ?_
 exact ⟨⟨_, rfl, any_none (by omega) hnot⟩, u_d⟩

theorem containsB_c {α : Type} [Inhabited α] (enc : α → List Value) (hk : ∀ x, (enc x).length = 4) (p : α → Bool) (fv : FuncId) (caps : List Value) (xs : List α) (ao : Option Addr) (b o cap : Nat) (w0 : World) (ho : Own Tryz.prog fv) (hp : ∀ x ∈ xs, ∀ w, Ext w0 w → CallsV Tryz.prog fv ([.agg (enc x).toArray] ++ caps) w fun v w' => v = .bool (p x) ∧ Ext w w') (hs : Sl enc 4 w0 ao b o xs) (hl : xs.length ≤ 1000000) :
    CallsV Tryz.prog 41 [.slice ao xs.length cap, .func (.func fv) #[] (caps).toArray] w0 (fun v w' => v = .bool (xs.any p) ∧ Ext w0 w') := by
 refine f_n func41 ?_
 refine go ?_
 refine x_c func88 rfl rfl (indexB_c enc hk p fv caps xs ao b o cap _ ho hp hs hl) ?_
 rintro _ w4 ⟨⟨n, rfl, hn⟩, u5⟩ zu5
 refine go ?_
 refine f_1 results41 ?_
 exact ⟨by rw [hn], u_d⟩

theorem indexO_c {α : Type} [Inhabited α] (enc : α → List Value) (hk : ∀ x, (enc x).length = 5) (p : α → Bool) (fv : FuncId) (caps : List Value) (xs : List α) (ao : Option Addr) (b o cap : Nat) (w0 : World) (ho : Own Tryz.prog fv) (hp : ∀ x ∈ xs, ∀ w, Ext w0 w → CallsV Tryz.prog fv ([.agg (enc x).toArray] ++ caps) w fun v w' => v = .bool (p x) ∧ Ext w w') (hs : Sl enc 5 w0 ao b o xs) (hl : xs.length ≤ 1000000) :
    CallsV Tryz.prog 98 [.slice ao xs.length cap, .func (.func fv) #[] (caps).toArray] w0 (fun v w' => (∃ n : Int, v = .int .i64 n ∧ decide (0 ≤ n) = xs.any p) ∧ Ext w0 w') := by
 refine f_n func98 ?_
 refine go ?_
 refine x_l1 (fun _ => False) [0, 1, 7] (fun (k : Nat) => [(8, .int .i64 (k : Int))]) (fun k w => (k ≤ xs.length) ∧ ((xs.take k).any p = false)) (fun k => xs.length - k) 0 ⟨Nat.zero_le _, (by simp)⟩ ?_
 rintro k w5 ⟨hle, hnot⟩ u6 zu6 K4 hK4
 have E7 := Sc.mk ((Upd.refl (fun _ => False) w0).nx u6)
 refine go ?_
 refine q_p (fun g9 => ?_) fun g9 => ?_
 ·
  refine go ?_
  refine g_i k (hs.keep E7.u (fun _ h => h)) (fun _ => ?_)
  refine t_loadN (vs := enc (nth xs k)) isAgg41 sizeOf41 rfl rfl rfl ((hs.keep E7.u (fun _ h => h)).at_ k (by omega)) (hk _) (t_call (fs := []) (cs := caps) ho rfl rfl rfl rfl (hp (nth xs k) (nth_mem (by omega)) _ E7.u) (fun v14 w15 r17 => ?_))
  obtain ⟨rfl, u16⟩ := r17
  have zu16 := u16.size
  refine go ?_
  refine q_b (fun g16 => ?_) fun g16 => ?_
  ·
   refine go ?_
   refine f_1 results98 ?_
   exact ⟨⟨_, rfl, any_hit (by omega) g16⟩, u_d⟩
  refine go ?_
  exact hK4 (k + 1) ⟨(by omega), (any_snoc (by omega) hnot g16)⟩
 refine go ?_
 refine f_1 results98 ?_
 exact ⟨⟨_, rfl, any_none (by omega) hnot⟩, u_d⟩

theorem containsO_c {α : Type} [Inhabited α] (enc : α → List Value) (hk : ∀ x, (enc x).length = 5) (p : α → Bool) (fv : FuncId) (caps : List Value) (xs : List α) (ao : Option Addr) (b o cap : Nat) (w0 : World) (ho : Own Tryz.prog fv) (hp : ∀ x ∈ xs, ∀ w, Ext w0 w → CallsV Tryz.prog fv ([.agg (enc x).toArray] ++ caps) w fun v w' => v = .bool (p x) ∧ Ext w w') (hs : Sl enc 5 w0 ao b o xs) (hl : xs.length ≤ 1000000) :
    CallsV Tryz.prog 56 [.slice ao xs.length cap, .func (.func fv) #[] (caps).toArray] w0 (fun v w' => v = .bool (xs.any p) ∧ Ext w0 w') := by
 refine f_n func56 ?_
 refine go ?_
 refine x_c func98 rfl rfl (indexO_c enc hk p fv caps xs ao b o cap _ ho hp hs hl) ?_
 rintro _ w4 ⟨⟨n, rfl, hn⟩, u5⟩ zu5
 refine go ?_
 refine f_1 results56 ?_
 exact ⟨by rw [hn], u_d⟩

theorem indexC_c {α : Type} [Inhabited α] (enc : α → List Value) (hk : ∀ x, (enc x).length = 11) (p : α → Bool) (fv : FuncId) (caps : List Value) (xs : List α) (ao : Option Addr) (b o cap : Nat) (w0 : World) (ho : Own Tryz.prog fv) (hp : ∀ x ∈ xs, ∀ w, Ext w0 w → CallsV Tryz.prog fv ([.agg (enc x).toArray] ++ caps) w fun v w' => v = .bool (p x) ∧ Ext w w') (hs : Sl enc 11 w0 ao b o xs) (hl : xs.length ≤ 1000000) :
    CallsV Tryz.prog 106 [.slice ao xs.length cap, .func (.func fv) #[] (caps).toArray] w0 (fun v w' => (∃ n : Int, v = .int .i64 n ∧ decide (0 ≤ n) = xs.any p) ∧ Ext w0 w') := by
 refine f_n func106 ?_
 refine go ?_
 refine x_l1 (fun _ => False) [0, 1, 7] (fun (k : Nat) => [(8, .int .i64 (k : Int))]) (fun k w => (k ≤ xs.length) ∧ ((xs.take k).any p = false)) (fun k => xs.length - k) 0 ⟨Nat.zero_le _, (by simp)⟩ ?_
 rintro k w5 ⟨hle, hnot⟩ u6 zu6 K4 hK4
 have E7 := Sc.mk ((Upd.refl (fun _ => False) w0).nx u6)
 refine go ?_
 refine q_p (fun g9 => ?_) fun g9 => ?_
 ·
  refine go ?_
  refine g_i k (hs.keep E7.u (fun _ h => h)) (fun _ => ?_)
  refine t_loadN (vs := enc (nth xs k)) isAgg78 sizeOf78 rfl rfl rfl ((hs.keep E7.u (fun _ h => h)).at_ k (by omega)) (hk _) (t_call (fs := []) (cs := caps) ho rfl rfl rfl rfl (hp (nth xs k) (nth_mem (by omega)) _ E7.u) (fun v14 w15 r17 => ?_))
  obtain ⟨rfl, u16⟩ := r17
  have zu16 := u16.size
  refine go ?_
  refine q_b (fun g16 => ?_) fun g16 => ?_
  ·
   refine go ?_
   refine f_1 results106 ?_
   exact ⟨⟨_, rfl, any_hit (by omega) g16⟩, u_d⟩
  refine go ?_
  exact hK4 (k + 1) ⟨(by omega), (any_snoc (by omega) hnot g16)⟩
 refine go ?_
 refine f_1 results106 ?_
 exact ⟨⟨_, rfl, any_none (by omega) hnot⟩, u_d⟩

theorem containsC_c {α : Type} [Inhabited α] (enc : α → List Value) (hk : ∀ x, (enc x).length = 11) (p : α → Bool) (fv : FuncId) (caps : List Value) (xs : List α) (ao : Option Addr) (b o cap : Nat) (w0 : World) (ho : Own Tryz.prog fv) (hp : ∀ x ∈ xs, ∀ w, Ext w0 w → CallsV Tryz.prog fv ([.agg (enc x).toArray] ++ caps) w fun v w' => v = .bool (p x) ∧ Ext w w') (hs : Sl enc 11 w0 ao b o xs) (hl : xs.length ≤ 1000000) :
    CallsV Tryz.prog 70 [.slice ao xs.length cap, .func (.func fv) #[] (caps).toArray] w0 (fun v w' => v = .bool (xs.any p) ∧ Ext w0 w') := by
 refine f_n func70 ?_
 refine go ?_
 refine x_c func106 rfl rfl (indexC_c enc hk p fv caps xs ao b o cap _ ho hp hs hl) ?_
 rintro _ w4 ⟨⟨n, rfl, hn⟩, u5⟩ zu5
 refine go ?_
 refine f_1 results70 ?_
 exact ⟨by rw [hn], u_d⟩

theorem indexM_c {α : Type} [Inhabited α] (enc : α → List Value) (hk : ∀ x, (enc x).length = 6) (p : α → Bool) (fv : FuncId) (caps : List Value) (xs : List α) (ao : Option Addr) (b o cap : Nat) (w0 : World) (ho : Own Tryz.prog fv) (hp : ∀ x ∈ xs, ∀ w, Ext w0 w → CallsV Tryz.prog fv ([.agg (enc x).toArray] ++ caps) w fun v w' => v = .bool (p x) ∧ Ext w w') (hs : Sl enc 6 w0 ao b o xs) (hl : xs.length ≤ 1000000) :
    CallsV Tryz.prog 116 [.slice ao xs.length cap, .func (.func fv) #[] (caps).toArray] w0 (fun v w' => (∃ n : Int, v = .int .i64 n ∧ decide (0 ≤ n) = xs.any p) ∧ Ext w0 w') := by
 refine f_n func116 ?_
 refine go ?_
 refine x_l1 (fun _ => False) [0, 1, 7] (fun (k : Nat) => [(8, .int .i64 (k : Int))]) (fun k w => (k ≤ xs.length) ∧ ((xs.take k).any p = false)) (fun k => xs.length - k) 0 ⟨Nat.zero_le _, (by simp)⟩ ?_
 rintro k w5 ⟨hle, hnot⟩ u6 zu6 K4 hK4
 have E7 := Sc.mk ((Upd.refl (fun _ => False) w0).nx u6)
 refine go ?_
 refine q_p (fun g9 => ?_) fun g9 => ?_
 ·
  refine go ?_
  refine g_i k (hs.keep E7.u (fun _ h => h)) (fun _ => ?_)
  refine t_loadN (vs := enc (nth xs k)) isAgg111 sizeOf111 rfl rfl rfl ((hs.keep E7.u (fun _ h => h)).at_ k (by omega)) (hk _) (t_call (fs := []) (cs := caps) ho rfl rfl rfl rfl (hp (nth xs k) (nth_mem (by omega)) _ E7.u) (fun v14 w15 r17 => ?_))
  obtain ⟨rfl, u16⟩ := r17
  have zu16 := u16.size
  refine go ?_
  refine q_b (fun g16 => ?_) fun g16 => ?_
  ·
   refine go ?_
   refine f_1 results116 ?_
   exact ⟨⟨_, rfl, any_hit (by omega) g16⟩, u_d⟩
  refine go ?_
  exact hK4 (k + 1) ⟨(by omega), (any_snoc (by omega) hnot g16)⟩
 refine go ?_
 refine f_1 results116 ?_
 exact ⟨⟨_, rfl, any_none (by omega) hnot⟩, u_d⟩

theorem containsM_c {α : Type} [Inhabited α] (enc : α → List Value) (hk : ∀ x, (enc x).length = 6) (p : α → Bool) (fv : FuncId) (caps : List Value) (xs : List α) (ao : Option Addr) (b o cap : Nat) (w0 : World) (ho : Own Tryz.prog fv) (hp : ∀ x ∈ xs, ∀ w, Ext w0 w → CallsV Tryz.prog fv ([.agg (enc x).toArray] ++ caps) w fun v w' => v = .bool (p x) ∧ Ext w w') (hs : Sl enc 6 w0 ao b o xs) (hl : xs.length ≤ 1000000) :
    CallsV Tryz.prog 75 [.slice ao xs.length cap, .func (.func fv) #[] (caps).toArray] w0 (fun v w' => v = .bool (xs.any p) ∧ Ext w0 w') := by
 refine f_n func75 ?_
 refine go ?_
 refine x_c func116 rfl rfl (indexM_c enc hk p fv caps xs ao b o cap _ ho hp hs hl) ?_
 rintro _ w4 ⟨⟨n, rfl, hn⟩, u5⟩ zu5
 refine go ?_
 refine f_1 results75 ?_
 exact ⟨by rw [hn], u_d⟩

theorem indexL_c {α : Type} [Inhabited α] (enc : α → List Value) (hk : ∀ x, (enc x).length = 2) (p : α → Bool) (fv : FuncId) (caps : List Value) (xs : List α) (ao : Option Addr) (b o cap : Nat) (w0 : World) (ho : Own Tryz.prog fv) (hp : ∀ x ∈ xs, ∀ w, Ext w0 w → CallsV Tryz.prog fv ([.agg (enc x).toArray] ++ caps) w fun v w' => v = .bool (p x) ∧ Ext w w') (hs : Sl enc 2 w0 ao b o xs) (hl : xs.length ≤ 1000000) :
    CallsV Tryz.prog 131 [.slice ao xs.length cap, .func (.func fv) #[] (caps).toArray] w0 (fun v w' => (∃ n : Int, v = .int .i64 n ∧ decide (0 ≤ n) = xs.any p) ∧ Ext w0 w') := by
 refine f_n func131 ?_
 refine go ?_
 refine x_l1 (fun _ => False) [0, 1, 7] (fun (k : Nat) => [(8, .int .i64 (k : Int))]) (fun k w => (k ≤ xs.length) ∧ ((xs.take k).any p = false)) (fun k => xs.length - k) 0 ⟨Nat.zero_le _, (by simp)⟩ ?_
 rintro k w5 ⟨hle, hnot⟩ u6 zu6 K4 hK4
 have E7 := Sc.mk ((Upd.refl (fun _ => False) w0).nx u6)
 refine go ?_
 refine q_p (fun g9 => ?_) fun g9 => ?_
 ·
  refine go ?_
  refine g_i k (hs.keep E7.u (fun _ h => h)) (fun _ => ?_)
  refine t_loadN (vs := enc (nth xs k)) isAgg169 sizeOf169 rfl rfl rfl ((hs.keep E7.u (fun _ h => h)).at_ k (by omega)) (hk _) (t_call (fs := []) (cs := caps) ho rfl rfl rfl rfl (hp (nth xs k) (nth_mem (by omega)) _ E7.u) (fun v14 w15 r17 => ?_))
  obtain ⟨rfl, u16⟩ := r17
  have zu16 := u16.size
  refine go ?_
  refine q_b (fun g16 => ?_) fun g16 => ?_
  ·
   refine go ?_
   refine f_1 results131 ?_
   exact ⟨⟨_, rfl, any_hit (by omega) g16⟩, u_d⟩
  refine go ?_
  exact hK4 (k + 1) ⟨(by omega), (any_snoc (by omega) hnot g16)⟩
 refine go ?_
 refine f_1 results131 ?_
 exact ⟨⟨_, rfl, any_none (by omega) hnot⟩, u_d⟩

theorem containsL_c {α : Type} [Inhabited α] (enc : α → List Value) (hk : ∀ x, (enc x).length = 2) (p : α → Bool) (fv : FuncId) (caps : List Value) (xs : List α) (ao : Option Addr) (b o cap : Nat) (w0 : World) (ho : Own Tryz.prog fv) (hp : ∀ x ∈ xs, ∀ w, Ext w0 w → CallsV Tryz.prog fv ([.agg (enc x).toArray] ++ caps) w fun v w' => v = .bool (p x) ∧ Ext w w') (hs : Sl enc 2 w0 ao b o xs) (hl : xs.length ≤ 1000000) :
    CallsV Tryz.prog 107 [.slice ao xs.length cap, .func (.func fv) #[] (caps).toArray] w0 (fun v w' => v = .bool (xs.any p) ∧ Ext w0 w') := by
 refine f_n func107 ?_
 refine go ?_
 refine x_c func131 rfl rfl (indexL_c enc hk p fv caps xs ao b o cap _ ho hp hs hl) ?_
 rintro _ w4 ⟨⟨n, rfl, hn⟩, u5⟩ zu5
 refine go ?_
 refine f_1 results107 ?_
 exact ⟨by rw [hn], u_d⟩

theorem indexF_c {α : Type} [Inhabited α] (enc : α → List Value) (hk : ∀ x, (enc x).length = 2) (p : α → Bool) (fv : FuncId) (caps : List Value) (xs : List α) (ao : Option Addr) (b o cap : Nat) (w0 : World) (ho : Own Tryz.prog fv) (hp : ∀ x ∈ xs, ∀ w, Ext w0 w → CallsV Tryz.prog fv ([.agg (enc x).toArray] ++ caps) w fun v w' => v = .bool (p x) ∧ Ext w w') (hs : Sl enc 2 w0 ao b o xs) (hl : xs.length ≤ 1000000) :
    CallsV Tryz.prog 132 [.slice ao xs.length cap, .func (.func fv) #[] (caps).toArray] w0 (fun v w' => (∃ n : Int, v = .int .i64 n ∧ decide (0 ≤ n) = xs.any p) ∧ Ext w0 w') := by
 refine f_n func132 ?_
 refine go ?_
 refine x_l1 (fun _ => False) [0, 1, 7] (fun (k : Nat) => [(8, .int .i64 (k : Int))]) (fun k w => (k ≤ xs.length) ∧ ((xs.take k).any p = false)) (fun k => xs.length - k) 0 ⟨Nat.zero_le _, (by simp)⟩ ?_
 rintro k w5 ⟨hle, hnot⟩ u6 zu6 K4 hK4
 have E7 := Sc.mk ((Upd.refl (fun _ => False) w0).nx u6)
 refine go ?_
 refine q_p (fun g9 => ?_) fun g9 => ?_
 ·
  refine go ?_
  refine g_i k (hs.keep E7.u (fun _ h => h)) (fun _ => ?_)
  refine t_loadN (vs := enc (nth xs k)) isAgg88 sizeOf88 rfl rfl rfl ((hs.keep E7.u (fun _ h => h)).at_ k (by omega)) (hk _) (t_call (fs := []) (cs := caps) ho rfl rfl rfl rfl (hp (nth xs k) (nth_mem (by omega)) _ E7.u) (fun v14 w15 r17 => ?_))
  obtain ⟨rfl, u16⟩ := r17
  have zu16 := u16.size
  refine go ?_
  refine q_b (fun g16 => ?_) fun g16 => ?_
  ·
   refine go ?_
   refine f_1 results132 ?_
   exact ⟨⟨_, rfl, any_hit (by omega) g16⟩, u_d⟩
  refine go ?_
  exact hK4 (k + 1) ⟨(by omega), (any_snoc (by omega) hnot g16)⟩
 refine go ?_
 refine f_1 results132 ?_
 exact ⟨⟨_, rfl, any_none (by omega) hnot⟩, u_d⟩

theorem containsF_c {α : Type} [Inhabited α] (enc : α → List Value) (hk : ∀ x, (enc x).length = 2) (p : α → Bool) (fv : FuncId) (caps : List Value) (xs : List α) (ao : Option Addr) (b o cap : Nat) (w0 : World) (ho : Own Tryz.prog fv) (hp : ∀ x ∈ xs, ∀ w, Ext w0 w → CallsV Tryz.prog fv ([.agg (enc x).toArray] ++ caps) w fun v w' => v = .bool (p x) ∧ Ext w w') (hs : Sl enc 2 w0 ao b o xs) (hl : xs.length ≤ 1000000) :
    CallsV Tryz.prog 109 [.slice ao xs.length cap, .func (.func fv) #[] (caps).toArray] w0 (fun v w' => v = .bool (xs.any p) ∧ Ext w0 w') := by
 refine f_n func109 ?_
 refine go ?_
 refine x_c func132 rfl rfl (indexF_c enc hk p fv caps xs ao b o cap _ ho hp hs hl) ?_
 rintro _ w4 ⟨⟨n, rfl, hn⟩, u5⟩ zu5
 refine go ?_
 refine f_1 results109 ?_
 exact ⟨by rw [hn], u_d⟩

theorem within_c (lo hi : Int) (xs : List Int) (ao : Option Addr) (b o cap : Nat) (w0 : World) (hs : Sl encI 1 w0 ao b o xs) (hl : xs.length ≤ 1000000) :
    CallsV Tryz.prog 59 [.int .i64 lo, .int .i64 hi, .slice ao xs.length cap] w0 (fun v w' => v = .bool (decide (∀ n ∈ xs, lo ≤ n ∧ n ≤ hi)) ∧ Ext w0 w') := by
 refine f_n func59 ?_
 refine go ?_
 refine x_b fun bk2 w3 ebk2 sbk2 B4 u5 => ?_
 refine x_b fun bk7 w8 ebk7 sbk7 B9 u10 => ?_
 refine go ?_
 refine t_mkfunc (vs := []) (us := [.pointer (some ⟨bk2, 0, none⟩), .pointer (some ⟨bk7, 0, none⟩)]) rfl rfl rfl rfl ?_
 have B13 := (B4.kx u10)
 refine x_c func99 rfl rfl (containsI_c (out1 lo hi) 100 [.pointer (some ⟨bk2, 0, none⟩), .pointer (some ⟨bk7, 0, none⟩)] xs ao b o cap _ own100 (fun x _ w u => within1_c lo hi x bk2 bk7 _ _ w (B13.keep u (fun h => h)) (B9.keep u (fun h => h))) (hs.keep (((Upd.refl (fun _ => False) w0).nx u5).nx u10) (fun _ h => h)) hl) ?_
 rintro _ w15 ⟨rfl, u16⟩ zu16
 refine go ?_
 refine f_1 results59 ?_
 exact ⟨by rw [not_any_out], u_d⟩

theorem within1_v (lo hi m : Int) (b : Nat) (t : TypeId) (w : World) (h : Blk w b t [.int .i64 m]) :
    CallsV Tryz.prog 59 [.int .i64 lo, .int .i64 hi, .slice (some ⟨b, 0, none⟩) 1 1] w (fun v w' => v = .bool (decide ((lo ≤ m ∧ m ≤ hi))) ∧ Ext w w') :=
  (within_c lo hi [m] _ b 0 1 w (SlI.own (xs := [m]) h) (by simp)).mono fun v w' ⟨e, u⟩ => ⟨by rw [e]; simp, u⟩

theorem within2_v (lo hi m n : Int) (b : Nat) (t : TypeId) (w : World) (h : Blk w b t [.int .i64 m, .int .i64 n]) :
    CallsV Tryz.prog 59 [.int .i64 lo, .int .i64 hi, .slice (some ⟨b, 0, none⟩) 2 2] w (fun v w' => v = .bool (decide ((lo ≤ m ∧ m ≤ hi) ∧ (lo ≤ n ∧ n ≤ hi))) ∧ Ext w w') :=
  (within_c lo hi [m, n] _ b 0 2 w (SlI.own (xs := [m, n]) h) (by simp)).mono fun v w' ⟨e, u⟩ => ⟨by rw [e]; simp, u⟩

theorem within3_v (lo hi m n q : Int) (b : Nat) (t : TypeId) (w : World) (h : Blk w b t [.int .i64 m, .int .i64 n, .int .i64 q]) :
    CallsV Tryz.prog 59 [.int .i64 lo, .int .i64 hi, .slice (some ⟨b, 0, none⟩) 3 3] w (fun v w' => v = .bool (decide ((lo ≤ m ∧ m ≤ hi) ∧ (lo ≤ n ∧ n ≤ hi) ∧ (lo ≤ q ∧ q ≤ hi))) ∧ Ext w w') :=
  (within_c lo hi [m, n, q] _ b 0 3 w (SlI.own (xs := [m, n, q]) h) (by simp)).mono fun v w' ⟨e, u⟩ => ⟨by rw [e]; simp, u⟩

theorem isBid_c (x : Bid) (w0 : World) :
    CallsV Tryz.prog 43 [.agg #[.int .i64 x.p, .int .i64 x.n, .int .i64 x.r, .int .i64 x.m]] w0 (fun v w' => v = .bool (okBid x) ∧ Ext w0 w') := by
 refine f_n func43 ?_
 refine go ?_
 refine x_b fun bk2 w3 ebk2 sbk2 B4 u5 => ?_
 refine go ?_
 refine x_l fun bk8 w9 ebk8 sbk8 B10 u11 => ?_
 refine x_c func59 rfl rfl (within1_v 0 99 x.p _ _ _ B10) ?_
 rintro _ w14 ⟨rfl, u15⟩ zu15
 refine go ?_
 refine t_splitp 7 rfl (fun g7 => ?_) (fun g7 => ?_)
 ·
  refine go ?_
  refine x_l fun bk18 w19 ebk18 sbk18 B20 u21 => ?_
  refine x_c func59 rfl rfl (within1_v 1 1000000 x.n _ _ _ B20) ?_
  rintro _ w24 ⟨rfl, u25⟩ zu25
  refine go ?_
  refine t_splitp 13 rfl (fun g13 => ?_) (fun g13 => ?_)
  ·
   refine go ?_
   refine x_l fun bk28 w29 ebk28 sbk28 B30 u31 => ?_
   refine x_c func59 rfl rfl (within1_v 0 1000000 x.r _ _ _ B30) ?_
   rintro _ w34 ⟨rfl, u35⟩ zu35
   refine go ?_
   refine t_splitp 19 rfl (fun g19 => ?_) (fun g19 => ?_)
   ·
    refine go ?_
    refine x_l fun bk38 w39 ebk38 sbk38 B40 u41 => ?_
    refine x_c func59 rfl rfl (within1_v 0 100000 x.m _ _ _ B40) ?_
    rintro _ w44 ⟨rfl, u45⟩ zu45
    refine go ?_
    refine f_1 results43 ?_
    exact ⟨congrArg Value.bool (by rw [Bool.eq_iff_iff]; simp only [okBid, decide_eq_true_eq] <;> grind), u_d⟩
   refine go ?_
   refine f_1 results43 ?_
   exact ⟨congrArg Value.bool (by rw [Bool.eq_iff_iff]; simp only [okBid, decide_eq_true_eq] <;> grind), u_d⟩
  refine go ?_
  refine f_1 results43 ?_
  exact ⟨congrArg Value.bool (by rw [Bool.eq_iff_iff]; simp only [okBid, decide_eq_true_eq] <;> grind), u_d⟩
 refine go ?_
 refine f_1 results43 ?_
 exact ⟨congrArg Value.bool (by rw [Bool.eq_iff_iff]; simp only [okBid, decide_eq_true_eq] <;> grind), u_d⟩

theorem isOffer_c (x : Off) (w0 : World) :
    CallsV Tryz.prog 58 [.agg #[.int .i64 x.f, .int .i64 x.t, .int .i64 x.b, .int .i64 x.e, .int .i64 x.p]] w0 (fun v w' => v = .bool (okOff x) ∧ Ext w0 w') := by
 refine f_n func58 ?_
 refine go ?_
 refine x_b fun bk2 w3 ebk2 sbk2 B4 u5 => ?_
 refine go ?_
 refine x_l fun bk8 w9 ebk8 sbk8 B10 u11 => ?_
 refine x_c func59 rfl rfl (within2_v 0 100000 x.f x.t _ _ _ B10) ?_
 rintro _ w14 ⟨rfl, u15⟩ zu15
 refine go ?_
 refine t_splitp 9 rfl (fun g9 => ?_) (fun g9 => ?_)
 ·
  refine go ?_
  refine x_l fun bk18 w19 ebk18 sbk18 B20 u21 => ?_
  refine x_c func59 rfl rfl (within2_v 0 100000 x.b x.e _ _ _ B20) ?_
  rintro _ w24 ⟨rfl, u25⟩ zu25
  refine go ?_
  refine t_splitp 17 rfl (fun g17 => ?_) (fun g17 => ?_)
  ·
   refine go ?_
   refine t_splitp 24 rfl (fun g24 => ?_) (fun g24 => ?_)
   ·
    refine go ?_
    refine x_l fun bk28 w29 ebk28 sbk28 B30 u31 => ?_
    refine x_c func59 rfl rfl (within1_v 0 1000000000 x.p _ _ _ B30) ?_
    rintro _ w34 ⟨rfl, u35⟩ zu35
    refine go ?_
    refine f_1 results58 ?_
    exact ⟨congrArg Value.bool (by rw [Bool.eq_iff_iff]; simp only [okOff, decide_eq_true_eq] <;> grind), u_d⟩
   refine go ?_
   refine f_1 results58 ?_
   exact ⟨congrArg Value.bool (by rw [Bool.eq_iff_iff]; simp only [okOff, decide_eq_true_eq] <;> grind), u_d⟩
  refine go ?_
  refine f_1 results58 ?_
  exact ⟨congrArg Value.bool (by rw [Bool.eq_iff_iff]; simp only [okOff, decide_eq_true_eq] <;> grind), u_d⟩
 refine go ?_
 refine f_1 results58 ?_
 exact ⟨congrArg Value.bool (by rw [Bool.eq_iff_iff]; simp only [okOff, decide_eq_true_eq] <;> grind), u_d⟩

theorem isMessage_c (x : Msg) (w0 : World) :
    CallsV Tryz.prog 112 [.agg #[.int .i64 x.c, .int .i64 x.n, .int .i64 x.r, .int .i64 x.k, .int .i64 x.m, .int .i64 x.v]] w0 (fun v w' => v = .bool (okMsg x) ∧ Ext w0 w') := by
 refine f_n func112 ?_
 refine go ?_
 refine x_b fun bk2 w3 ebk2 sbk2 B4 u5 => ?_
 refine go ?_
 refine x_l fun bk8 w9 ebk8 sbk8 B10 u11 => ?_
 refine x_c func59 rfl rfl (within1_v 0 9 x.c _ _ _ B10) ?_
 rintro _ w14 ⟨rfl, u15⟩ zu15
 refine go ?_
 refine t_splitp 7 rfl (fun g7 => ?_) (fun g7 => ?_)
 ·
  refine go ?_
  refine x_l fun bk18 w19 ebk18 sbk18 B20 u21 => ?_
  refine x_c func59 rfl rfl (within1_v 0 999 x.n _ _ _ B20) ?_
  rintro _ w24 ⟨rfl, u25⟩ zu25
  refine go ?_
  refine t_splitp 13 rfl (fun g13 => ?_) (fun g13 => ?_)
  ·
   refine go ?_
   refine x_l fun bk28 w29 ebk28 sbk28 B30 u31 => ?_
   refine x_c func59 rfl rfl (within1_v 0 99 x.r _ _ _ B30) ?_
   rintro _ w34 ⟨rfl, u35⟩ zu35
   refine go ?_
   refine t_splitp 19 rfl (fun g19 => ?_) (fun g19 => ?_)
   ·
    refine go ?_
    refine t_splitp 24 rfl (fun g24 => ?_) (fun g24 => ?_)
    ·
     refine go ?_
     refine t_splitp 29 rfl (fun g29 => ?_) (fun g29 => ?_)
     ·
      refine go ?_
      refine x_l fun bk38 w39 ebk38 sbk38 B40 u41 => ?_
      refine x_c func59 rfl rfl (within1_v 0 100000 x.m _ _ _ B40) ?_
      rintro _ w44 ⟨rfl, u45⟩ zu45
      refine go ?_
      refine t_splitp 35 rfl (fun g35 => ?_) (fun g35 => ?_)
      ·
       refine go ?_
       refine x_l fun bk48 w49 ebk48 sbk48 B50 u51 => ?_
       refine x_c func59 rfl rfl (within1_v 0 1000000 x.v _ _ _ B50) ?_
       rintro _ w54 ⟨rfl, u55⟩ zu55
       refine go ?_
       refine f_1 results112 ?_
       exact ⟨congrArg Value.bool (by rw [Bool.eq_iff_iff]; simp only [okMsg, decide_eq_true_eq] <;> grind), u_d⟩
      refine go ?_
      refine f_1 results112 ?_
      exact ⟨congrArg Value.bool (by rw [Bool.eq_iff_iff]; simp only [okMsg, decide_eq_true_eq] <;> grind), u_d⟩
     refine go ?_
     refine f_1 results112 ?_
     exact ⟨congrArg Value.bool (by rw [Bool.eq_iff_iff]; simp only [okMsg, decide_eq_true_eq] <;> grind), u_d⟩
    refine go ?_
    refine f_1 results112 ?_
    exact ⟨congrArg Value.bool (by rw [Bool.eq_iff_iff]; simp only [okMsg, decide_eq_true_eq] <;> grind), u_d⟩
   refine go ?_
   refine f_1 results112 ?_
   exact ⟨congrArg Value.bool (by rw [Bool.eq_iff_iff]; simp only [okMsg, decide_eq_true_eq] <;> grind), u_d⟩
  refine go ?_
  refine f_1 results112 ?_
  exact ⟨congrArg Value.bool (by rw [Bool.eq_iff_iff]; simp only [okMsg, decide_eq_true_eq] <;> grind), u_d⟩
 refine go ?_
 refine f_1 results112 ?_
 exact ⟨congrArg Value.bool (by rw [Bool.eq_iff_iff]; simp only [okMsg, decide_eq_true_eq] <;> grind), u_d⟩

theorem badBid_c (x : Bid) (w0 : World) :
    CallsV Tryz.prog 42 [.agg #[.int .i64 x.p, .int .i64 x.n, .int .i64 x.r, .int .i64 x.m]] w0 (fun v w' => v = .bool (!okBid x) ∧ Ext w0 w') := by
 refine f_n func42 ?_
 refine go ?_
 refine x_b fun bk2 w3 ebk2 sbk2 B4 u5 => ?_
 refine go ?_
 refine x_c func43 rfl rfl (isBid_c x _) ?_
 rintro _ w9 ⟨rfl, u10⟩ zu10
 refine go ?_
 refine f_1 results42 ?_
 exact ⟨rfl, u_d⟩

theorem badOff_c (x : Off) (w0 : World) :
    CallsV Tryz.prog 57 [.agg #[.int .i64 x.f, .int .i64 x.t, .int .i64 x.b, .int .i64 x.e, .int .i64 x.p]] w0 (fun v w' => v = .bool (!okOff x) ∧ Ext w0 w') := by
 refine f_n func57 ?_
 refine go ?_
 refine x_b fun bk2 w3 ebk2 sbk2 B4 u5 => ?_
 refine go ?_
 refine x_c func58 rfl rfl (isOffer_c x _) ?_
 rintro _ w9 ⟨rfl, u10⟩ zu10
 refine go ?_
 refine f_1 results57 ?_
 exact ⟨rfl, u_d⟩

theorem badMsg_c (x : Msg) (w0 : World) :
    CallsV Tryz.prog 111 [.agg #[.int .i64 x.c, .int .i64 x.n, .int .i64 x.r, .int .i64 x.k, .int .i64 x.m, .int .i64 x.v]] w0 (fun v w' => v = .bool (!okMsg x) ∧ Ext w0 w') := by
 refine f_n func111 ?_
 refine go ?_
 refine x_b fun bk2 w3 ebk2 sbk2 B4 u5 => ?_
 refine go ?_
 refine x_c func112 rfl rfl (isMessage_c x _) ?_
 rintro _ w9 ⟨rfl, u10⟩ zu10
 refine go ?_
 refine f_1 results111 ?_
 exact ⟨rfl, u_d⟩

theorem badFre_c (x : Fre) (w0 : World) :
    CallsV Tryz.prog 110 [.agg #[.int .i64 x.f, .int .i64 x.t]] w0 (fun v w' => v = .bool (!okFre x) ∧ Ext w0 w') := by
 refine f_n func110 ?_
 refine go ?_
 refine x_b fun bk2 w3 ebk2 sbk2 B4 u5 => ?_
 refine go ?_
 refine x_l fun bk8 w9 ebk8 sbk8 B10 u11 => ?_
 refine x_c func59 rfl rfl (within2_v 0 100000 x.f x.t _ _ _ B10) ?_
 rintro _ w14 ⟨rfl, u15⟩ zu15
 refine go ?_
 refine t_splitp 10 rfl (fun g10 => ?_) (fun g10 => ?_)
 ·
  refine go ?_
  refine f_1 results110 ?_
  exact ⟨congrArg Value.bool (by rw [Bool.eq_iff_iff]; simp only [okFre, Bool.not_eq_eq_eq_not] <;> grind), u_d⟩
 refine go ?_
 refine f_1 results110 ?_
 exact ⟨congrArg Value.bool (by rw [Bool.eq_iff_iff]; simp only [okFre, decide_eq_true_eq, Bool.not_eq_eq_eq_not] <;> grind), u_d⟩

theorem badLow_c (x : Low) (w0 : World) :
    CallsV Tryz.prog 108 [.agg #[.int .i64 x.b, .int .i64 x.p]] w0 (fun v w' => v = .bool (!okLow x) ∧ Ext w0 w') := by
 refine f_n func108 ?_
 refine go ?_
 refine x_b fun bk2 w3 ebk2 sbk2 B4 u5 => ?_
 refine go ?_
 refine x_l fun bk8 w9 ebk8 sbk8 B10 u11 => ?_
 refine x_c func59 rfl rfl (within1_v 0 10000 x.b _ _ _ B10) ?_
 rintro _ w14 ⟨rfl, u15⟩ zu15
 refine go ?_
 refine t_splitp 8 rfl (fun g8 => ?_) (fun g8 => ?_)
 ·
  refine go ?_
  refine f_1 results108 ?_
  exact ⟨congrArg Value.bool (by rw [Bool.eq_iff_iff]; simp only [okLow, Bool.not_eq_eq_eq_not] <;> grind), u_d⟩
 refine go ?_
 refine x_l fun bk18 w19 ebk18 sbk18 B20 u21 => ?_
 refine x_c func59 rfl rfl (within1_v 0 1000 x.p _ _ _ B20) ?_
 rintro _ w24 ⟨rfl, u25⟩ zu25
 refine go ?_
 refine f_1 results108 ?_
 exact ⟨congrArg Value.bool (by rw [Bool.eq_iff_iff]; simp only [okLow, decide_eq_true_eq, Bool.not_eq_eq_eq_not] <;> grind), u_d⟩

theorem checkFree_c (l : List Fre) (al : Option Addr) (bl ol cl : Nat) (w0 : World) (hl : Sl encFre 2 w0 al bl ol l) (hll : l.length ≤ 1000000) :
    CallsV Tryz.prog 73 [.slice al l.length cl] w0 (fun v w' => v = .int .i64 (chkFr l) ∧ Ext w0 w') := by
 refine f_n func73 ?_
 refine go ?_
 refine q_p (fun g3 => ?_) fun g3 => ?_
 ·
  refine go ?_
  refine f_1 results73 ?_
  exact ⟨congrArg (Value.int .i64) (by unfold chkFr; rw [if_pos (by omega)]), u_d⟩
 refine go ?_
 refine x_c func109 rfl rfl (containsF_c encFre (fun _ => rfl) (fun x => !okFre x) 110 [] l al bl ol cl _ own110 (fun x _ w _ => badFre_c x w) hl hll) ?_
 rintro _ w7 ⟨rfl, u8⟩ zu8
 refine go ?_
 refine q_b (fun g7 => ?_) fun g7 => ?_
 ·
  refine go ?_
  refine f_1 results73 ?_
  exact ⟨congrArg (Value.int .i64) (by unfold chkFr; rw [if_neg (by omega), if_pos g7]), u_d⟩
 refine go ?_
 refine f_1 results73 ?_
 exact ⟨congrArg (Value.int .i64) (by unfold chkFr; rw [if_neg (by omega), if_neg (by simp [g7])]), u_d⟩

theorem rounded_c (m n : Int) (w0 : World) (hm : 0 ≤ m ∧ m ≤ 4000000000000000000) (hn : 1 ≤ n ∧ n ≤ 1000000) :
    CallsV Tryz.prog 119 [.int .i64 m, .int .i64 n] w0 (fun v w' => v = .int .i64 (rnd2 m n) ∧ Ext w0 w') := by
 refine f_n func119 ?_
 refine go ?_
 refine t_quo rfl rfl rfl rfl (by omega) (by omega) ?_
 refine go ?_
 refine t_quo rfl rfl rfl rfl (by omega) (by omega) ?_
 refine go ?_
 refine f_1 results119 ?_
 exact ⟨rfl, u_d⟩

end Go.Proofs.YtgoajalaomakpaaGreat
namespace Go.Proofs.YtgoajalaomakpaaGreat
open Go Go.RowKit
/-- In block r lies a map with the int keys ks, each true. -/
def SetI (ks : List Int) (w : World) (r : Nat) : Prop := ∃ es c, w.heap[r]? = some (.map es c) ∧ es.toList.map (fun e => (e.key, e.val)) = ks.map (fun k => (Value.int .i64 k, Value.bool true))
theorem SetI.lt {ks : List Int} {w : World} {r : Nat} (h : SetI ks w r) : r < w.heap.size := by obtain ⟨es, c, h, _⟩ := h; exact lt_of_block h
theorem SetI.keep {ks : List Int} {w : World} {r : Nat} {w' : World} {S : Nat → Prop} (h : SetI ks w r) (u : Upd S w w') (hn : ¬ S r) : SetI ks w' r := by
  obtain ⟨es, c, h1, h2⟩ := h
  exact ⟨es, c, (u.block r (lt_of_block h1) hn).trans h1, h2⟩
theorem SetI.ofMemo {w : World} {r : Nat} (h : ∀ F, Memo F w r) : SetI [] w r := by
  obtain ⟨es, c, h1, h2⟩ := h (fun _ _ _ => False)
  refine ⟨es, c, h1, ?_⟩
  cases he : es.toList with
  | nil => rfl
  | cons e l => obtain ⟨_, _, _, hf⟩ := h2 e (by rw [he]; simp); exact hf.elim
theorem SetI.notBlk {ks : List Int} {w : World} {r b : Nat} {t : TypeId} {cs : List Value} (h : SetI ks w r) (hb : Blk w b t cs) : b ≠ r := fun e => by
  obtain ⟨es, c, h1, _⟩ := h
  subst e
  have h2 : w.heap[b]? = _ := hb
  rw [h1] at h2; cases h2
theorem findNowI {a : Int} : ∀ (ks : List Int) (es : List MapEntry) (i : Nat), es.map (fun e => (e.key, e.val)) = ks.map (fun k => (Value.int .i64 k, Value.bool true)) →
    (a ∈ ks → ∃ j, Instr.findNow (.int .i64) (.int .i64 a) es i = some (some (j, .bool true))) ∧ (a ∉ ks → Instr.findNow (.int .i64) (.int .i64 a) es i = some none)
  | [], [], i, _ => ⟨fun h => by simp at h, fun _ => rfl⟩
  | [], _ :: _, _, h => by simp at h
  | _ :: _, [], _, h => by simp at h
  | k :: ks, e :: es, i, h => by
    simp only [List.map_cons, List.cons.injEq, Prod.mk.injEq] at h
    obtain ⟨⟨hk, hv⟩, h⟩ := h
    obtain ⟨h1, h2⟩ := findNowI ks es (i + 1) h
    by_cases q : a = k
    · subst q
      refine ⟨fun _ => ⟨i, ?_⟩, fun hn => absurd (by simp) hn⟩
      simp [Instr.findNow, hk, hv, Instr.sameNow]
    · have hb : (a == k) = false := by simpa using q
      have hs : Instr.sameNow (.int .i64) (.int .i64 a) e.key = some false := by rw [hk]; simp [Instr.sameNow, q]
      refine ⟨fun hm => ?_, fun hn => ?_⟩
      · obtain ⟨j, hj⟩ := h1 (by simpa [q] using hm)
        exact ⟨j, by rw [Instr.findNow, hs]; exact hj⟩
      · have := h2 (fun hm => hn (by simp [hm]))
        rw [Instr.findNow, hs]; exact this
section steps
variable {rd : Option Nat} {P : Program} {ops : Array Oper} {Q : Exit → Act → World → Prop} {N : Nat} {ds : List Deferred} {rest : List Oper} {L : Slots} {w : World}
variable {d : Nat} {ty : TypeId} {pos : String} {aft : Array Edge} {g : Option (Nat × Bool)}
theorem findKeyI {K : TypeId} {ks : List Int} {es : List MapEntry} (hK : P.underlying K = some (.int .i64)) (h : es.map (fun e => (e.key, e.val)) = ks.map (fun k => (Value.int .i64 k, Value.bool true))) (a : Int) :
    (a ∈ ks → ∃ j, ∀ w, (Instr.findKey K (.int .i64 a) es).run P w = .ok (some (j, .bool true)) w) ∧ (a ∉ ks → ∀ w, (Instr.findKey K (.int .i64 a) es).run P w = .ok none w) := by
  obtain ⟨h1, h2⟩ := findNowI (a := a) ks es 0 h
  refine ⟨fun hm => ?_, fun hn w => ?_⟩
  · obtain ⟨j, hj⟩ := h1 hm
    exact ⟨j, fun w => by simp [Instr.findKey, run_underlying hK, hj]⟩
  · simp [Instr.findKey, run_underlying hK, h2 hn]
theorem checkKeyInI {K : TypeId} (hK : P.underlying K = some (.int .i64)) (em : Bool) (n : Nat) (a : Int) (w : World) : (Instr.checkKey em (n + 1) K (.int .i64 a)).run P w = .ok () w := by
  simp [Instr.checkKey, run_underlying hK]
theorem checkKeyI {K : TypeId} (hK : P.underlying K = some (.int .i64)) (em : Bool) (a : Int) (w : World) : (Instr.checkKey em 10000 K (.int .i64 a)).run P w = .ok () w :=
  checkKeyInI hK em 9999 a w
/-- m[a] of a map of truths. -/
theorem t_lookupI {T K E : TypeId} {x i : Operand} {r : Nat} {a : Int} {ks : List Int} (hK : P.underlying K = some (.int .i64)) (hu : P.underlying T = some (.map K E)) (hz : ∀ w, (zeroValue E).run P w = .ok (.bool false) w)
    (hg : grd ops L g = true) (hN : Nat.blt d N = true) (hx : ev L x = some (.map (some r))) (hi : ev L i = some (.int .i64 a)) (hm : SetI ks w r)
    (h : WL rd P ops Q N ds rest ((d, .bool (decide (a ∈ ks))) :: L) w) : WL rd P ops Q N ds (⟨some d, .lookup T x i false, ty, pos, aft, g⟩ :: rest) L w := by
  obtain ⟨es, c, h1, h2⟩ := hm
  have hgo : (getObj r).run P w = .ok (.map es c) w := by simp [getObj, Sem.run, h1]
  obtain ⟨q1, q2⟩ := findKeyI hK h2 a
  by_cases hq : a ∈ ks
  · obtain ⟨j, hj⟩ := q1 hq
    rw [decide_eq_true hq] at h
    refine WL.value hg rfl hN (fun a hk => ?_) h
    simp only [execOp, hk.ev hx, hk.ev hi]
    simp [Instr.lookup, run_underlying hu, hgo, checkKeyI hK, hj]
  · have hj := q2 hq
    rw [decide_eq_false hq] at h
    refine WL.value hg rfl hN (fun a hk => ?_) h
    simp only [execOp, hk.ev hx, hk.ev hi]
    simp [Instr.lookup, run_underlying hu, hgo, checkKeyI hK, hj, hz]
/-- m[a] = true for a new key. -/
theorem t_mapnewI {T K E : TypeId} {x i y : Operand} {r : Nat} {a : Int} {ks : List Int} (hK : P.underlying K = some (.int .i64)) (hu : P.underlying T = some (.map K E))
    (hg : grd ops L g = true) (hx : ev L x = some (.map (some r))) (hi : ev L i = some (.int .i64 a)) (hy : ev L y = some (.bool true)) (hm : SetI ks w r) (hn : a ∉ ks)
    (h : ∀ w', w'.heap.size = w.heap.size → SetI (ks ++ [a]) w' r → Upd (· = r) w w' → WL rd P ops Q N ds rest L w') : WL rd P ops Q N ds (⟨none, .mapUpdate T x i y, ty, pos, aft, g⟩ :: rest) L w := by
  obtain ⟨es, c, h1, h2⟩ := hm
  have hlt := lt_of_block h1
  have hgo : (getObj r).run P w = .ok (.map es c) w := by simp [getObj, Sem.run, h1]
  have hset : ∀ o, (setObj r o).run P w = .ok () { w with heap := w.heap.setIfInBounds r o } := fun o => by simp [setObj, Sem.run, h1]
  have hq := (findKeyI hK h2 a).2 hn
  refine WL.effect (w' := { w with heap := w.heap.setIfInBounds r (.map (es.push { key := .int .i64 a, val := .bool true, born := c }) (c + 1)) }) hg rfl (fun ac hk => ?_) (h _ (by simp) ⟨_, _, by simp [hlt]; exact ⟨rfl, rfl⟩, ?_⟩ ⟨rfl, rfl, rfl, by simp, fun k hk hn => by simp [Array.getElem?_setIfInBounds_ne (show r ≠ k from fun e => hn e.symm)]⟩)
  · simp only [execOp, hk.ev hx, hk.ev hi, hk.ev hy]
    simp [Instr.mapUpdate, run_underlying hu, hgo, checkKeyI hK, hq, hset]
  · rw [Array.toList_push, List.map_append, h2, List.map_append]; rfl
end steps
end Go.Proofs.YtgoajalaomakpaaGreat
