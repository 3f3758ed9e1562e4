/-
  Part 5 of the proof: contracts and plain laws. Conditions: none.
-/
import Derived.Test.YtjkpkbdoljjeiaaGreatProg
import Derived.Test.YtjkpkbdoljjeiaaGreatAK4
namespace Go.Proofs.YtjkpkbdoljjeiaaGreat
open Go Go.RowKit Go.Proofs.Tryz

theorem any_snoc {α : Type} [Inhabited α] {p : α → Bool} {xs : List α} {k : Nat} (hk : k < xs.length) (h : (xs.take k).any p = false) (hx : p (nth xs k) = false) : (xs.take (k + 1)).any p = false := by
  rw [take_nth hk, List.any_append, h]; simp [hx]
theorem any_hit {α : Type} [Inhabited α] {p : α → Bool} {xs : List α} {k : Nat} (hk : k < xs.length) (hx : p (nth xs k) = true) : decide ((0 : Int) ≤ (k : Int)) = xs.any p := by
  have : xs.any p = true := List.any_eq_true.2 ⟨nth xs k, nth_mem hk, hx⟩
  rw [this]; simp
theorem any_none {α : Type} {p : α → Bool} {xs : List α} {k : Nat} (hk : xs.length ≤ k) (h : (xs.take k).any p = false) : decide ((0 : Int) ≤ -1) = xs.any p := by
  rw [List.take_of_length_le hk] at h; rw [h]; decide
theorem not_any_out (lo hi : Int) (xs : List Int) : (!(xs.any fun n => decide (n < lo ∨ hi < n))) = decide (∀ n ∈ xs, lo ≤ n ∧ n ≤ hi) := by
  rw [Bool.eq_iff_iff]
  simp only [Bool.not_eq_true', List.any_eq_false, decide_eq_true_eq]
  exact ⟨fun h n hn => by have := h n hn; omega, fun h n hn => by have := h n hn; omega⟩
def encI (n : Int) : List Value := [.int .i64 n]
theorem SlI.own {w : World} {b : Nat} {t : TypeId} {xs : List Int} (h : Blk w b t (xs.map (Value.int .i64))) : Sl encI 1 w (some ⟨b, 0, none⟩) b 0 xs :=
  ⟨fun _ => rfl, fun _ => h.lt, fun i hi j v hv => by
    cases j with
    | zero =>
      rw [nth_eq hi] at hv
      simp [encI] at hv
      subst hv
      exact h.get (off := 0 + i * 1 + 0) (by simp [hi])
    | succ j => simp [encI] at hv⟩
structure Bid where
  p : Int
  n : Int
  r : Int
  m : Int
instance : Inhabited Bid := ⟨⟨default, default, default, default⟩⟩
def encBid (x : Bid) : List Value := [.int .i64 x.p, .int .i64 x.n, .int .i64 x.r, .int .i64 x.m]
structure Trd where
  b : Int
  s : Int
  n : Int
instance : Inhabited Trd := ⟨⟨default, default, default⟩⟩
def encTrd (x : Trd) : List Value := [.int .i64 x.b, .int .i64 x.s, .int .i64 x.n]
structure Low where
  b : Int
  p : Int
instance : Inhabited Low := ⟨⟨default, default⟩⟩
def encLow (x : Low) : List Value := [.int .i64 x.b, .int .i64 x.p]
structure Msg where
  c : Int
  n : Int
  r : Int
  k : Int
  m : Int
  v : Int
instance : Inhabited Msg := ⟨⟨default, default, default, default, default, default⟩⟩
def encMsg (x : Msg) : List Value := [.int .i64 x.c, .int .i64 x.n, .int .i64 x.r, .int .i64 x.k, .int .i64 x.m, .int .i64 x.v]
structure Fre where
  f : Int
  t : Int
instance : Inhabited Fre := ⟨⟨default, default⟩⟩
def encFre (x : Fre) : List Value := [.int .i64 x.f, .int .i64 x.t]
structure Off where
  f : Int
  t : Int
  b : Int
  e : Int
  p : Int
instance : Inhabited Off := ⟨⟨default, default, default, default, default⟩⟩
structure Chr where
  s : Int
  c : Int
  k : Int
  r : Int
  n : Int
  l : Int
  o : Int
  d : Int
  e : Int
  m : Int
instance : Inhabited Chr := ⟨⟨default, default, default, default, default, default, default, default, default, default⟩⟩

def cmpI3 (m n : Int) : Int := if m < n then -1 else if n < m then 1 else 0
def or3 (a b c : Int) : Int := if a ≠ 0 then a else if b ≠ 0 then b else c
def okBid (x : Bid) : Bool := decide ((0 ≤ x.p ∧ x.p ≤ 99) ∧ (1 ≤ x.n ∧ x.n ≤ 1000000) ∧ (0 ≤ x.r ∧ x.r ≤ 1000000) ∧ (0 ≤ x.m ∧ x.m ≤ 100000))
def okMsg (x : Msg) : Bool := decide ((0 ≤ x.c ∧ x.c ≤ 9) ∧ (0 ≤ x.n ∧ x.n ≤ 999) ∧ (0 ≤ x.r ∧ x.r ≤ 99) ∧ (1 ≤ x.k ∧ x.k ≤ 7) ∧ (0 ≤ x.m ∧ x.m ≤ 100000) ∧ (0 ≤ x.v ∧ x.v ≤ 1000000))
def okFre (x : Fre) : Bool := decide (((0 ≤ x.f ∧ x.f ≤ 100000) ∧ (0 ≤ x.t ∧ x.t ≤ 100000)) ∧ x.f ≤ x.t)
def okLow (x : Low) : Bool := decide ((0 ≤ x.b ∧ x.b ≤ 10000) ∧ (0 ≤ x.p ∧ x.p ≤ 1000))
/-- a / b, rounded. -/
def rnd2 (a b : Int) : Int := (a + b / 2) / b
def chkFr (l : List Fre) : Int := if 30 < l.length then 5 else if (l.any fun f => !okFre f) = true then 2 else 0

theorem follows : Tryz.prog.follows .mixedOrders = true := by kernel_rfl
theorem own14 : Own Tryz.prog 14 := ⟨Tryz.f14, func14, by kernel_rfl, by kernel_rfl⟩
theorem own38 : Own Tryz.prog 38 := ⟨Tryz.f38, func38, by kernel_rfl, by kernel_rfl⟩
theorem own39 : Own Tryz.prog 39 := ⟨Tryz.f39, func39, by kernel_rfl, by kernel_rfl⟩
theorem own57 : Own Tryz.prog 57 := ⟨Tryz.f57, func57, by kernel_rfl, by kernel_rfl⟩
theorem own58 : Own Tryz.prog 58 := ⟨Tryz.f58, func58, by kernel_rfl, by kernel_rfl⟩
theorem own65 : Own Tryz.prog 65 := ⟨Tryz.f65, func65, by kernel_rfl, by kernel_rfl⟩
theorem own67 : Own Tryz.prog 67 := ⟨Tryz.f67, func67, by kernel_rfl, by kernel_rfl⟩
theorem own68 : Own Tryz.prog 68 := ⟨Tryz.f68, func68, by kernel_rfl, by kernel_rfl⟩
theorem isNaN_c (m : Int) (w0 : World) :
    CallsV Tryz.prog 58 [.int .i64 m] w0 (fun v w' => (v = .bool false ∧ Gr w0 w') ∧ Ext w0 w') := by
 refine f_n func58 ?_
 iterate 10 refine st1 ?_
 refine t_samehd (v := .bool false) (by simp) ?_
 refine go ?_
 refine f_1 results58 ?_
 exact ⟨⟨rfl, Gr.refl _⟩, u_d⟩

theorem cmpI_c (m n : Int) (w0 : World) :
    CallsV Tryz.prog 39 [.int .i64 m, .int .i64 n] w0 (fun v w' => (v = .int .i64 (cmpI3 m n) ∧ Gr w0 w') ∧ Ext w0 w') := by
 refine f_n func39 ?_
 refine go ?_
 refine t_call own58 rfl rfl rfl rfl (isNaN_c m _) (fun v3 w4 r6 => ?_)
 obtain ⟨⟨rfl, Gu5⟩, u5⟩ := r6
 have zu5 := u5.size
 refine go ?_
 refine t_call own58 rfl rfl rfl rfl (isNaN_c n _) (fun v9 w10 r12 => ?_)
 obtain ⟨⟨rfl, Gu11⟩, u11⟩ := r12
 have zu11 := u11.size
 refine go ?_
 refine q_p (fun g16 => ?_) fun g16 => ?_
 ·
  refine go ?_
  refine f_1 results39 ?_
  exact ⟨⟨congrArg (Value.int .i64) (by unfold cmpI3; rw [if_pos g16]), (((Gr.refl _).trans Gu5).trans Gu11)⟩, u_d⟩
 refine go ?_
 refine q_p (fun g19 => ?_) fun g19 => ?_
 ·
  refine go ?_
  refine f_1 results39 ?_
  exact ⟨⟨congrArg (Value.int .i64) (by unfold cmpI3; rw [if_neg g16, if_pos g19]), (((Gr.refl _).trans Gu5).trans Gu11)⟩, u_d⟩
 refine go ?_
 refine f_1 results39 ?_
 exact ⟨⟨congrArg (Value.int .i64) (by unfold cmpI3; rw [if_neg g16, if_neg g19]), (((Gr.refl _).trans Gu5).trans Gu11)⟩, u_d⟩

theorem or3_c (m n q : Int) (b : Nat) (w0 : World) (hb : Blk w0 b 3 [.int .i64 m, .int .i64 n, .int .i64 q]) :
    CallsV Tryz.prog 38 [.slice (some ⟨b, 0, none⟩) 3 3] w0 (fun v w' => (v = .int .i64 (or3 m n q) ∧ Gr w0 w') ∧ Ext w0 w') := by
 refine f_n func38 ?_
 refine go ?_
 refine c_rounds 4 (WR.weak [(3, .int .i64 0), (6, .slice (some ⟨b, 0, none⟩) 3 3), (7, .int .i64 3), (8, .int .i64 0)] ⟨rfl, rfl, rfl, rfl, trivial⟩ (r_round fun K5 hK5 => (q_of ?_)))
 refine go ?_
 refine t_index (j := 0) underlying32 sizeOf3 rfl rfl rfl rfl rfl rfl (by omega) ?_
 refine go ?_
 refine q_p (fun g14 => ?_) fun g14 => ?_
 ·
  refine go ?_
  refine f_1 results38 ?_
  exact ⟨⟨congrArg (Value.int .i64) (by unfold or3; (repeat' split) <;> omega), (Gr.refl _)⟩, u_d⟩
 refine go ?_
 refine hK5 _ _ (WR.weak [(3, .int .i64 0), (6, .slice (some ⟨b, 0, none⟩) 3 3), (7, .int .i64 3), (8, .int .i64 1)] ⟨rfl, rfl, rfl, rfl, trivial⟩ (r_round fun K12 hK12 => (q_of ?_)))
 refine go ?_
 refine t_index (j := 1) underlying32 sizeOf3 rfl rfl rfl rfl rfl rfl (by omega) ?_
 refine go ?_
 refine q_p (fun g14 => ?_) fun g14 => ?_
 ·
  refine go ?_
  refine f_1 results38 ?_
  exact ⟨⟨congrArg (Value.int .i64) (by unfold or3; (repeat' split) <;> omega), (Gr.refl _)⟩, u_d⟩
 refine go ?_
 refine hK12 _ _ (WR.weak [(3, .int .i64 0), (6, .slice (some ⟨b, 0, none⟩) 3 3), (7, .int .i64 3), (8, .int .i64 2)] ⟨rfl, rfl, rfl, rfl, trivial⟩ (r_round fun K19 hK19 => (q_of ?_)))
 refine go ?_
 refine t_index (j := 2) underlying32 sizeOf3 rfl rfl rfl rfl rfl rfl (by omega) ?_
 refine go ?_
 refine q_p (fun g14 => ?_) fun g14 => ?_
 ·
  refine go ?_
  refine f_1 results38 ?_
  exact ⟨⟨congrArg (Value.int .i64) (by unfold or3; (repeat' split) <;> omega), (Gr.refl _)⟩, u_d⟩
 refine go ?_
 refine hK19 _ _ (WR.weak [(3, .int .i64 0), (6, .slice (some ⟨b, 0, none⟩) 3 3), (7, .int .i64 3), (8, .int .i64 3)] ⟨rfl, rfl, rfl, rfl, trivial⟩ (r_round fun K26 hK26 => (q_of ?_)))
 refine go ?_
 refine f_1 results38 ?_
 exact ⟨⟨congrArg (Value.int .i64) (by unfold or3; (repeat' split) <;> omega), (Gr.refl _)⟩, u_d⟩

abbrev out1 (lo hi n : Int) : Bool := decide (n < lo ∨ hi < n)

theorem within1_c (lo hi n : Int) (b c : Nat) (t1 t2 : TypeId) (w0 : World) (hb : Blk w0 b t1 [.int .i64 lo]) (hc : Blk w0 c t2 [.int .i64 hi]) :
    CallsV Tryz.prog 57 [.int .i64 n, .pointer (some ⟨b, 0, none⟩), .pointer (some ⟨c, 0, none⟩)] w0 (fun v w' => v = .bool (out1 lo hi n) ∧ Ext w0 w') := by
 refine f_n func57 ?_
 refine go ?_
 refine t_splitp 8 rfl (fun g8 => ?_) (fun g8 => ?_)
 ·
  refine go ?_
  refine f_1 results57 ?_
  exact ⟨by simp [out1, *], u_d⟩
 refine go ?_
 refine f_1 results57 ?_
 exact ⟨by simp [out1, *], u_d⟩

theorem indexI_c (p : Int → Bool) (fv : FuncId) (caps : List Value) (xs : List Int) (ao : Option Addr) (b o cap : Nat) (w0 : World) (ho : Own Tryz.prog fv) (hp : ∀ x ∈ xs, ∀ w, Ext w0 w → CallsV Tryz.prog fv ([.int .i64 x] ++ caps) w fun v w' => v = .bool (p x) ∧ Ext w w') (hs : Sl encI 1 w0 ao b o xs) (hl : xs.length ≤ 1000000) :
    CallsV Tryz.prog 61 [.slice ao xs.length cap, .func (.func fv) #[] (caps).toArray] w0 (fun v w' => (∃ n : Int, v = .int .i64 n ∧ decide (0 ≤ n) = xs.any p) ∧ Ext w0 w') := by
 refine f_n func61 ?_
 refine go ?_
 refine x_l1 (fun _ => False) [0, 1, 7] (fun (k : Nat) => [(8, .int .i64 (k : Int))]) (fun k w => (k ≤ xs.length) ∧ ((xs.take k).any p = false)) (fun k => xs.length - k) 0 ⟨Nat.zero_le _, (by simp)⟩ ?_
 rintro k w5 ⟨hle, hnot⟩ u6 zu6 K4 hK4
 have E7 := Sc.mk ((Upd.refl (fun _ => False) w0).nx u6)
 refine go ?_
 refine q_p (fun g9 => ?_) fun g9 => ?_
 ·
  refine go ?_
  refine g_i k (hs.keep E7.u (fun _ h => h)) (fun _ => ?_)
  refine go ?_
  refine t_call (fs := []) (cs := caps) ho rfl rfl rfl rfl (hp (nth xs k) (nth_mem (by omega)) _ E7.u) (fun v14 w15 r17 => ?_)
  obtain ⟨rfl, u16⟩ := r17
  have zu16 := u16.size
  refine go ?_
  refine q_b (fun g16 => ?_) fun g16 => ?_
  ·
   refine go ?_
   refine f_1 results61 ?_
   exact ⟨⟨_, rfl, any_hit (by omega) g16⟩, u_d⟩
  refine go ?_
  exact hK4 (k + 1) ⟨(by omega), (any_snoc (by omega) hnot g16)⟩
 refine go ?_
 refine f_1 results61 ?_
 exact ⟨⟨_, rfl, any_none (by omega) hnot⟩, u_d⟩

theorem containsI_c (p : Int → Bool) (fv : FuncId) (caps : List Value) (xs : List Int) (ao : Option Addr) (b o cap : Nat) (w0 : World) (ho : Own Tryz.prog fv) (hp : ∀ x ∈ xs, ∀ w, Ext w0 w → CallsV Tryz.prog fv ([.int .i64 x] ++ caps) w fun v w' => v = .bool (p x) ∧ Ext w w') (hs : Sl encI 1 w0 ao b o xs) (hl : xs.length ≤ 1000000) :
    CallsV Tryz.prog 45 [.slice ao xs.length cap, .func (.func fv) #[] (caps).toArray] w0 (fun v w' => v = .bool (xs.any p) ∧ Ext w0 w') := by
 refine f_n func45 ?_
 refine go ?_
 refine x_c func61 rfl rfl (indexI_c p fv caps xs ao b o cap _ ho hp hs hl) ?_
 rintro _ w4 ⟨⟨n, rfl, hn⟩, u5⟩ zu5
 refine go ?_
 refine f_1 results45 ?_
 exact ⟨by rw [hn], u_d⟩

theorem indexB_c {α : Type} [Inhabited α] (enc : α → List Value) (hk : ∀ x, (enc x).length = 4) (p : α → Bool) (fv : FuncId) (caps : List Value) (xs : List α) (ao : Option Addr) (b o cap : Nat) (w0 : World) (ho : Own Tryz.prog fv) (hp : ∀ x ∈ xs, ∀ w, Ext w0 w → CallsV Tryz.prog fv ([.agg (enc x).toArray] ++ caps) w fun v w' => v = .bool (p x) ∧ Ext w w') (hs : Sl enc 4 w0 ao b o xs) (hl : xs.length ≤ 1000000) :
    CallsV Tryz.prog 35 [.slice ao xs.length cap, .func (.func fv) #[] (caps).toArray] w0 (fun v w' => (∃ n : Int, v = .int .i64 n ∧ decide (0 ≤ n) = xs.any p) ∧ Ext w0 w') := by
 refine f_n func35 ?_
 refine go ?_
 refine x_l1 (fun _ => False) [0, 1, 7] (fun (k : Nat) => [(8, .int .i64 (k : Int))]) (fun k w => (k ≤ xs.length) ∧ ((xs.take k).any p = false)) (fun k => xs.length - k) 0 ⟨Nat.zero_le _, (by simp)⟩ ?_
 rintro k w5 ⟨hle, hnot⟩ u6 zu6 K4 hK4
 have E7 := Sc.mk ((Upd.refl (fun _ => False) w0).nx u6)
 refine go ?_
 refine q_p (fun g9 => ?_) fun g9 => ?_
 ·
  refine go ?_
  refine g_i k (hs.keep E7.u (fun _ h => h)) (fun _ => ?_)
  refine t_loadN (vs := enc (nth xs k)) isAgg27 sizeOf27 rfl rfl rfl ((hs.keep E7.u (fun _ h => h)).at_ k (by omega)) (hk _) (t_call (fs := []) (cs := caps) ho rfl rfl rfl rfl (hp (nth xs k) (nth_mem (by omega)) _ E7.u) (fun v14 w15 r17 => ?_))
  obtain ⟨rfl, u16⟩ := r17
  have zu16 := u16.size
  refine go ?_
  refine q_b (fun g16 => ?_) fun g16 => ?_
  ·
   refine go ?_
   refine f_1 results35 ?_
   exact ⟨⟨_, rfl, any_hit (by omega) g16⟩, u_d⟩
  refine go ?_
  exact hK4 (k + 1) ⟨(by omega), (any_snoc (by omega) hnot g16)⟩
 refine go ?_
 refine f_1 results35 ?_
 exact ⟨⟨_, rfl, any_none (by omega) hnot⟩, u_d⟩

theorem containsB_c {α : Type} [Inhabited α] (enc : α → List Value) (hk : ∀ x, (enc x).length = 4) (p : α → Bool) (fv : FuncId) (caps : List Value) (xs : List α) (ao : Option Addr) (b o cap : Nat) (w0 : World) (ho : Own Tryz.prog fv) (hp : ∀ x ∈ xs, ∀ w, Ext w0 w → CallsV Tryz.prog fv ([.agg (enc x).toArray] ++ caps) w fun v w' => v = .bool (p x) ∧ Ext w w') (hs : Sl enc 4 w0 ao b o xs) (hl : xs.length ≤ 1000000) :
    CallsV Tryz.prog 13 [.slice ao xs.length cap, .func (.func fv) #[] (caps).toArray] w0 (fun v w' => v = .bool (xs.any p) ∧ Ext w0 w') := by
 refine f_n func13 ?_
 refine go ?_
 refine x_c func35 rfl rfl (indexB_c enc hk p fv caps xs ao b o cap _ ho hp hs hl) ?_
 rintro _ w4 ⟨⟨n, rfl, hn⟩, u5⟩ zu5
 refine go ?_
 refine f_1 results13 ?_
 exact ⟨by rw [hn], u_d⟩





theorem indexM_c {α : Type} [Inhabited α] (enc : α → List Value) (hk : ∀ x, (enc x).length = 6) (p : α → Bool) (fv : FuncId) (caps : List Value) (xs : List α) (ao : Option Addr) (b o cap : Nat) (w0 : World) (ho : Own Tryz.prog fv) (hp : ∀ x ∈ xs, ∀ w, Ext w0 w → CallsV Tryz.prog fv ([.agg (enc x).toArray] ++ caps) w fun v w' => v = .bool (p x) ∧ Ext w w') (hs : Sl enc 6 w0 ao b o xs) (hl : xs.length ≤ 1000000) :
    CallsV Tryz.prog 73 [.slice ao xs.length cap, .func (.func fv) #[] (caps).toArray] w0 (fun v w' => (∃ n : Int, v = .int .i64 n ∧ decide (0 ≤ n) = xs.any p) ∧ Ext w0 w') := by
 refine f_n func73 ?_
 refine go ?_
 refine x_l1 (fun _ => False) [0, 1, 7] (fun (k : Nat) => [(8, .int .i64 (k : Int))]) (fun k w => (k ≤ xs.length) ∧ ((xs.take k).any p = false)) (fun k => xs.length - k) 0 ⟨Nat.zero_le _, (by simp)⟩ ?_
 rintro k w5 ⟨hle, hnot⟩ u6 zu6 K4 hK4
 have E7 := Sc.mk ((Upd.refl (fun _ => False) w0).nx u6)
 refine go ?_
 refine q_p (fun g9 => ?_) fun g9 => ?_
 ·
  refine go ?_
  refine g_i k (hs.keep E7.u (fun _ h => h)) (fun _ => ?_)
  refine t_loadN (vs := enc (nth xs k)) isAgg100 sizeOf100 rfl rfl rfl ((hs.keep E7.u (fun _ h => h)).at_ k (by omega)) (hk _) (t_call (fs := []) (cs := caps) ho rfl rfl rfl rfl (hp (nth xs k) (nth_mem (by omega)) _ E7.u) (fun v14 w15 r17 => ?_))
  obtain ⟨rfl, u16⟩ := r17
  have zu16 := u16.size
  refine go ?_
  refine q_b (fun g16 => ?_) fun g16 => ?_
  ·
   refine go ?_
   refine f_1 results73 ?_
   exact ⟨⟨_, rfl, any_hit (by omega) g16⟩, u_d⟩
  refine go ?_
  exact hK4 (k + 1) ⟨(by omega), (any_snoc (by omega) hnot g16)⟩
 refine go ?_
 refine f_1 results73 ?_
 exact ⟨⟨_, rfl, any_none (by omega) hnot⟩, u_d⟩

theorem containsM_c {α : Type} [Inhabited α] (enc : α → List Value) (hk : ∀ x, (enc x).length = 6) (p : α → Bool) (fv : FuncId) (caps : List Value) (xs : List α) (ao : Option Addr) (b o cap : Nat) (w0 : World) (ho : Own Tryz.prog fv) (hp : ∀ x ∈ xs, ∀ w, Ext w0 w → CallsV Tryz.prog fv ([.agg (enc x).toArray] ++ caps) w fun v w' => v = .bool (p x) ∧ Ext w w') (hs : Sl enc 6 w0 ao b o xs) (hl : xs.length ≤ 1000000) :
    CallsV Tryz.prog 51 [.slice ao xs.length cap, .func (.func fv) #[] (caps).toArray] w0 (fun v w' => v = .bool (xs.any p) ∧ Ext w0 w') := by
 refine f_n func51 ?_
 refine go ?_
 refine x_c func73 rfl rfl (indexM_c enc hk p fv caps xs ao b o cap _ ho hp hs hl) ?_
 rintro _ w4 ⟨⟨n, rfl, hn⟩, u5⟩ zu5
 refine go ?_
 refine f_1 results51 ?_
 exact ⟨by rw [hn], u_d⟩

theorem indexL_c {α : Type} [Inhabited α] (enc : α → List Value) (hk : ∀ x, (enc x).length = 2) (p : α → Bool) (fv : FuncId) (caps : List Value) (xs : List α) (ao : Option Addr) (b o cap : Nat) (w0 : World) (ho : Own Tryz.prog fv) (hp : ∀ x ∈ xs, ∀ w, Ext w0 w → CallsV Tryz.prog fv ([.agg (enc x).toArray] ++ caps) w fun v w' => v = .bool (p x) ∧ Ext w w') (hs : Sl enc 2 w0 ao b o xs) (hl : xs.length ≤ 1000000) :
    CallsV Tryz.prog 78 [.slice ao xs.length cap, .func (.func fv) #[] (caps).toArray] w0 (fun v w' => (∃ n : Int, v = .int .i64 n ∧ decide (0 ≤ n) = xs.any p) ∧ Ext w0 w') := by
 refine f_n func78 ?_
 refine go ?_
 refine x_l1 (fun _ => False) [0, 1, 7] (fun (k : Nat) => [(8, .int .i64 (k : Int))]) (fun k w => (k ≤ xs.length) ∧ ((xs.take k).any p = false)) (fun k => xs.length - k) 0 ⟨Nat.zero_le _, (by simp)⟩ ?_
 rintro k w5 ⟨hle, hnot⟩ u6 zu6 K4 hK4
 have E7 := Sc.mk ((Upd.refl (fun _ => False) w0).nx u6)
 refine go ?_
 refine q_p (fun g9 => ?_) fun g9 => ?_
 ·
  refine go ?_
  refine g_i k (hs.keep E7.u (fun _ h => h)) (fun _ => ?_)
  refine t_loadN (vs := enc (nth xs k)) isAgg48 sizeOf48 rfl rfl rfl ((hs.keep E7.u (fun _ h => h)).at_ k (by omega)) (hk _) (t_call (fs := []) (cs := caps) ho rfl rfl rfl rfl (hp (nth xs k) (nth_mem (by omega)) _ E7.u) (fun v14 w15 r17 => ?_))
  obtain ⟨rfl, u16⟩ := r17
  have zu16 := u16.size
  refine go ?_
  refine q_b (fun g16 => ?_) fun g16 => ?_
  ·
   refine go ?_
   refine f_1 results78 ?_
   exact ⟨⟨_, rfl, any_hit (by omega) g16⟩, u_d⟩
  refine go ?_
  exact hK4 (k + 1) ⟨(by omega), (any_snoc (by omega) hnot g16)⟩
 refine go ?_
 refine f_1 results78 ?_
 exact ⟨⟨_, rfl, any_none (by omega) hnot⟩, u_d⟩

theorem containsL_c {α : Type} [Inhabited α] (enc : α → List Value) (hk : ∀ x, (enc x).length = 2) (p : α → Bool) (fv : FuncId) (caps : List Value) (xs : List α) (ao : Option Addr) (b o cap : Nat) (w0 : World) (ho : Own Tryz.prog fv) (hp : ∀ x ∈ xs, ∀ w, Ext w0 w → CallsV Tryz.prog fv ([.agg (enc x).toArray] ++ caps) w fun v w' => v = .bool (p x) ∧ Ext w w') (hs : Sl enc 2 w0 ao b o xs) (hl : xs.length ≤ 1000000) :
    CallsV Tryz.prog 64 [.slice ao xs.length cap, .func (.func fv) #[] (caps).toArray] w0 (fun v w' => v = .bool (xs.any p) ∧ Ext w0 w') := by
 refine f_n func64 ?_
 refine go ?_
 refine x_c func78 rfl rfl (indexL_c enc hk p fv caps xs ao b o cap _ ho hp hs hl) ?_
 rintro _ w4 ⟨⟨n, rfl, hn⟩, u5⟩ zu5
 refine go ?_
 refine f_1 results64 ?_
 exact ⟨by rw [hn], u_d⟩

theorem indexF_c {α : Type} [Inhabited α] (enc : α → List Value) (hk : ∀ x, (enc x).length = 2) (p : α → Bool) (fv : FuncId) (caps : List Value) (xs : List α) (ao : Option Addr) (b o cap : Nat) (w0 : World) (ho : Own Tryz.prog fv) (hp : ∀ x ∈ xs, ∀ w, Ext w0 w → CallsV Tryz.prog fv ([.agg (enc x).toArray] ++ caps) w fun v w' => v = .bool (p x) ∧ Ext w w') (hs : Sl enc 2 w0 ao b o xs) (hl : xs.length ≤ 1000000) :
    CallsV Tryz.prog 91 [.slice ao xs.length cap, .func (.func fv) #[] (caps).toArray] w0 (fun v w' => (∃ n : Int, v = .int .i64 n ∧ decide (0 ≤ n) = xs.any p) ∧ Ext w0 w') := by
 refine f_n func91 ?_
 refine go ?_
 refine x_l1 (fun _ => False) [0, 1, 7] (fun (k : Nat) => [(8, .int .i64 (k : Int))]) (fun k w => (k ≤ xs.length) ∧ ((xs.take k).any p = false)) (fun k => xs.length - k) 0 ⟨Nat.zero_le _, (by simp)⟩ ?_
 rintro k w5 ⟨hle, hnot⟩ u6 zu6 K4 hK4
 have E7 := Sc.mk ((Upd.refl (fun _ => False) w0).nx u6)
 refine go ?_
 refine q_p (fun g9 => ?_) fun g9 => ?_
 ·
  refine go ?_
  refine g_i k (hs.keep E7.u (fun _ h => h)) (fun _ => ?_)
  refine t_loadN (vs := enc (nth xs k)) isAgg57 sizeOf57 rfl rfl rfl ((hs.keep E7.u (fun _ h => h)).at_ k (by omega)) (hk _) (t_call (fs := []) (cs := caps) ho rfl rfl rfl rfl (hp (nth xs k) (nth_mem (by omega)) _ E7.u) (fun v14 w15 r17 => ?_))
  obtain ⟨rfl, u16⟩ := r17
  have zu16 := u16.size
  refine go ?_
  refine q_b (fun g16 => ?_) fun g16 => ?_
  ·
   refine go ?_
   refine f_1 results91 ?_
   exact ⟨⟨_, rfl, any_hit (by omega) g16⟩, u_d⟩
  refine go ?_
  exact hK4 (k + 1) ⟨(by omega), (any_snoc (by omega) hnot g16)⟩
 refine go ?_
 refine f_1 results91 ?_
 exact ⟨⟨_, rfl, any_none (by omega) hnot⟩, u_d⟩

theorem containsF_c {α : Type} [Inhabited α] (enc : α → List Value) (hk : ∀ x, (enc x).length = 2) (p : α → Bool) (fv : FuncId) (caps : List Value) (xs : List α) (ao : Option Addr) (b o cap : Nat) (w0 : World) (ho : Own Tryz.prog fv) (hp : ∀ x ∈ xs, ∀ w, Ext w0 w → CallsV Tryz.prog fv ([.agg (enc x).toArray] ++ caps) w fun v w' => v = .bool (p x) ∧ Ext w w') (hs : Sl enc 2 w0 ao b o xs) (hl : xs.length ≤ 1000000) :
    CallsV Tryz.prog 66 [.slice ao xs.length cap, .func (.func fv) #[] (caps).toArray] w0 (fun v w' => v = .bool (xs.any p) ∧ Ext w0 w') := by
 refine f_n func66 ?_
 refine go ?_
 refine x_c func91 rfl rfl (indexF_c enc hk p fv caps xs ao b o cap _ ho hp hs hl) ?_
 rintro _ w4 ⟨⟨n, rfl, hn⟩, u5⟩ zu5
 refine go ?_
 refine f_1 results66 ?_
 exact ⟨by rw [hn], u_d⟩

theorem within_c (lo hi : Int) (xs : List Int) (ao : Option Addr) (b o cap : Nat) (w0 : World) (hs : Sl encI 1 w0 ao b o xs) (hl : xs.length ≤ 1000000) :
    CallsV Tryz.prog 36 [.int .i64 lo, .int .i64 hi, .slice ao xs.length cap] w0 (fun v w' => v = .bool (decide (∀ n ∈ xs, lo ≤ n ∧ n ≤ hi)) ∧ Ext w0 w') := by
 refine f_n func36 ?_
 refine go ?_
 refine x_b fun bk2 w3 ebk2 sbk2 B4 u5 => ?_
 refine x_b fun bk7 w8 ebk7 sbk7 B9 u10 => ?_
 refine go ?_
 refine t_mkfunc (vs := []) (us := [.pointer (some ⟨bk2, 0, none⟩), .pointer (some ⟨bk7, 0, none⟩)]) rfl rfl rfl rfl ?_
 have B13 := (B4.kx u10)
 refine x_c func45 rfl rfl (containsI_c (out1 lo hi) 57 [.pointer (some ⟨bk2, 0, none⟩), .pointer (some ⟨bk7, 0, none⟩)] xs ao b o cap _ own57 (fun x _ w u => within1_c lo hi x bk2 bk7 _ _ w (B13.keep u (fun h => h)) (B9.keep u (fun h => h))) (hs.keep (((Upd.refl (fun _ => False) w0).nx u5).nx u10) (fun _ h => h)) hl) ?_
 rintro _ w15 ⟨rfl, u16⟩ zu16
 refine go ?_
 refine f_1 results36 ?_
 exact ⟨by rw [not_any_out], u_d⟩

theorem within1_v (lo hi m : Int) (b : Nat) (t : TypeId) (w : World) (h : Blk w b t [.int .i64 m]) :
    CallsV Tryz.prog 36 [.int .i64 lo, .int .i64 hi, .slice (some ⟨b, 0, none⟩) 1 1] w (fun v w' => v = .bool (decide ((lo ≤ m ∧ m ≤ hi))) ∧ Ext w w') :=
  (within_c lo hi [m] _ b 0 1 w (SlI.own (xs := [m]) h) (by simp)).mono fun v w' ⟨e, u⟩ => ⟨by rw [e]; simp, u⟩

theorem within2_v (lo hi m n : Int) (b : Nat) (t : TypeId) (w : World) (h : Blk w b t [.int .i64 m, .int .i64 n]) :
    CallsV Tryz.prog 36 [.int .i64 lo, .int .i64 hi, .slice (some ⟨b, 0, none⟩) 2 2] w (fun v w' => v = .bool (decide ((lo ≤ m ∧ m ≤ hi) ∧ (lo ≤ n ∧ n ≤ hi))) ∧ Ext w w') :=
  (within_c lo hi [m, n] _ b 0 2 w (SlI.own (xs := [m, n]) h) (by simp)).mono fun v w' ⟨e, u⟩ => ⟨by rw [e]; simp, u⟩

theorem within3_v (lo hi m n q : Int) (b : Nat) (t : TypeId) (w : World) (h : Blk w b t [.int .i64 m, .int .i64 n, .int .i64 q]) :
    CallsV Tryz.prog 36 [.int .i64 lo, .int .i64 hi, .slice (some ⟨b, 0, none⟩) 3 3] w (fun v w' => v = .bool (decide ((lo ≤ m ∧ m ≤ hi) ∧ (lo ≤ n ∧ n ≤ hi) ∧ (lo ≤ q ∧ q ≤ hi))) ∧ Ext w w') :=
  (within_c lo hi [m, n, q] _ b 0 3 w (SlI.own (xs := [m, n, q]) h) (by simp)).mono fun v w' ⟨e, u⟩ => ⟨by rw [e]; simp, u⟩

theorem isBid_c (x : Bid) (w0 : World) :
    CallsV Tryz.prog 15 [.agg #[.int .i64 x.p, .int .i64 x.n, .int .i64 x.r, .int .i64 x.m]] w0 (fun v w' => v = .bool (okBid x) ∧ Ext w0 w') := by
 refine f_n func15 ?_
 refine go ?_
 refine x_b fun bk2 w3 ebk2 sbk2 B4 u5 => ?_
 refine go ?_
 refine x_l fun bk8 w9 ebk8 sbk8 B10 u11 => ?_
 refine x_c func36 rfl rfl (within1_v 0 99 x.p _ _ _ B10) ?_
 rintro _ w14 ⟨rfl, u15⟩ zu15
 refine go ?_
 refine t_splitp 7 rfl (fun g7 => ?_) (fun g7 => ?_)
 ·
  refine go ?_
  refine x_l fun bk18 w19 ebk18 sbk18 B20 u21 => ?_
  refine x_c func36 rfl rfl (within1_v 1 1000000 x.n _ _ _ B20) ?_
  rintro _ w24 ⟨rfl, u25⟩ zu25
  refine go ?_
  refine t_splitp 13 rfl (fun g13 => ?_) (fun g13 => ?_)
  ·
   refine go ?_
   refine x_l fun bk28 w29 ebk28 sbk28 B30 u31 => ?_
   refine x_c func36 rfl rfl (within1_v 0 1000000 x.r _ _ _ B30) ?_
   rintro _ w34 ⟨rfl, u35⟩ zu35
   refine go ?_
   refine t_splitp 19 rfl (fun g19 => ?_) (fun g19 => ?_)
   ·
    refine go ?_
    refine x_l fun bk38 w39 ebk38 sbk38 B40 u41 => ?_
    refine x_c func36 rfl rfl (within1_v 0 100000 x.m _ _ _ B40) ?_
    rintro _ w44 ⟨rfl, u45⟩ zu45
    refine go ?_
    refine f_1 results15 ?_
    exact ⟨congrArg Value.bool (by rw [Bool.eq_iff_iff]; simp only [okBid, decide_eq_true_eq] <;> grind), u_d⟩
   refine go ?_
   refine f_1 results15 ?_
   exact ⟨congrArg Value.bool (by rw [Bool.eq_iff_iff]; simp only [okBid, decide_eq_true_eq] <;> grind), u_d⟩
  refine go ?_
  refine f_1 results15 ?_
  exact ⟨congrArg Value.bool (by rw [Bool.eq_iff_iff]; simp only [okBid, decide_eq_true_eq] <;> grind), u_d⟩
 refine go ?_
 refine f_1 results15 ?_
 exact ⟨congrArg Value.bool (by rw [Bool.eq_iff_iff]; simp only [okBid, decide_eq_true_eq] <;> grind), u_d⟩


theorem isMessage_c (x : Msg) (w0 : World) :
    CallsV Tryz.prog 69 [.agg #[.int .i64 x.c, .int .i64 x.n, .int .i64 x.r, .int .i64 x.k, .int .i64 x.m, .int .i64 x.v]] w0 (fun v w' => v = .bool (okMsg x) ∧ Ext w0 w') := by
 refine f_n func69 ?_
 refine go ?_
 refine x_b fun bk2 w3 ebk2 sbk2 B4 u5 => ?_
 refine go ?_
 refine x_l fun bk8 w9 ebk8 sbk8 B10 u11 => ?_
 refine x_c func36 rfl rfl (within1_v 0 9 x.c _ _ _ B10) ?_
 rintro _ w14 ⟨rfl, u15⟩ zu15
 refine go ?_
 refine t_splitp 7 rfl (fun g7 => ?_) (fun g7 => ?_)
 ·
  refine go ?_
  refine x_l fun bk18 w19 ebk18 sbk18 B20 u21 => ?_
  refine x_c func36 rfl rfl (within1_v 0 999 x.n _ _ _ B20) ?_
  rintro _ w24 ⟨rfl, u25⟩ zu25
  refine go ?_
  refine t_splitp 13 rfl (fun g13 => ?_) (fun g13 => ?_)
  ·
   refine go ?_
   refine x_l fun bk28 w29 ebk28 sbk28 B30 u31 => ?_
   refine x_c func36 rfl rfl (within1_v 0 99 x.r _ _ _ B30) ?_
   rintro _ w34 ⟨rfl, u35⟩ zu35
   refine go ?_
   refine t_splitp 19 rfl (fun g19 => ?_) (fun g19 => ?_)
   ·
    refine go ?_
    refine t_splitp 24 rfl (fun g24 => ?_) (fun g24 => ?_)
    ·
     refine go ?_
     refine t_splitp 29 rfl (fun g29 => ?_) (fun g29 => ?_)
     ·
      refine go ?_
      refine x_l fun bk38 w39 ebk38 sbk38 B40 u41 => ?_
      refine x_c func36 rfl rfl (within1_v 0 100000 x.m _ _ _ B40) ?_
      rintro _ w44 ⟨rfl, u45⟩ zu45
      refine go ?_
      refine t_splitp 35 rfl (fun g35 => ?_) (fun g35 => ?_)
      ·
       refine go ?_
       refine x_l fun bk48 w49 ebk48 sbk48 B50 u51 => ?_
       refine x_c func36 rfl rfl (within1_v 0 1000000 x.v _ _ _ B50) ?_
       rintro _ w54 ⟨rfl, u55⟩ zu55
       refine go ?_
       refine f_1 results69 ?_
       exact ⟨congrArg Value.bool (by rw [Bool.eq_iff_iff]; simp only [okMsg, decide_eq_true_eq] <;> grind), u_d⟩
      refine go ?_
      refine f_1 results69 ?_
      exact ⟨congrArg Value.bool (by rw [Bool.eq_iff_iff]; simp only [okMsg, decide_eq_true_eq] <;> grind), u_d⟩
     refine go ?_
     refine f_1 results69 ?_
     exact ⟨congrArg Value.bool (by rw [Bool.eq_iff_iff]; simp only [okMsg, decide_eq_true_eq] <;> grind), u_d⟩
    refine go ?_
    refine f_1 results69 ?_
    exact ⟨congrArg Value.bool (by rw [Bool.eq_iff_iff]; simp only [okMsg, decide_eq_true_eq] <;> grind), u_d⟩
   refine go ?_
   refine f_1 results69 ?_
   exact ⟨congrArg Value.bool (by rw [Bool.eq_iff_iff]; simp only [okMsg, decide_eq_true_eq] <;> grind), u_d⟩
  refine go ?_
  refine f_1 results69 ?_
  exact ⟨congrArg Value.bool (by rw [Bool.eq_iff_iff]; simp only [okMsg, decide_eq_true_eq] <;> grind), u_d⟩
 refine go ?_
 refine f_1 results69 ?_
 exact ⟨congrArg Value.bool (by rw [Bool.eq_iff_iff]; simp only [okMsg, decide_eq_true_eq] <;> grind), u_d⟩

theorem badBid_c (x : Bid) (w0 : World) :
    CallsV Tryz.prog 14 [.agg #[.int .i64 x.p, .int .i64 x.n, .int .i64 x.r, .int .i64 x.m]] w0 (fun v w' => v = .bool (!okBid x) ∧ Ext w0 w') := by
 refine f_n func14 ?_
 refine go ?_
 refine x_b fun bk2 w3 ebk2 sbk2 B4 u5 => ?_
 refine go ?_
 refine x_c func15 rfl rfl (isBid_c x _) ?_
 rintro _ w9 ⟨rfl, u10⟩ zu10
 refine go ?_
 refine f_1 results14 ?_
 exact ⟨rfl, u_d⟩


theorem badMsg_c (x : Msg) (w0 : World) :
    CallsV Tryz.prog 68 [.agg #[.int .i64 x.c, .int .i64 x.n, .int .i64 x.r, .int .i64 x.k, .int .i64 x.m, .int .i64 x.v]] w0 (fun v w' => v = .bool (!okMsg x) ∧ Ext w0 w') := by
 refine f_n func68 ?_
 refine go ?_
 refine x_b fun bk2 w3 ebk2 sbk2 B4 u5 => ?_
 refine go ?_
 refine x_c func69 rfl rfl (isMessage_c x _) ?_
 rintro _ w9 ⟨rfl, u10⟩ zu10
 refine go ?_
 refine f_1 results68 ?_
 exact ⟨rfl, u_d⟩

theorem badFre_c (x : Fre) (w0 : World) :
    CallsV Tryz.prog 67 [.agg #[.int .i64 x.f, .int .i64 x.t]] w0 (fun v w' => v = .bool (!okFre x) ∧ Ext w0 w') := by
 refine f_n func67 ?_
 refine go ?_
 refine x_b fun bk2 w3 ebk2 sbk2 B4 u5 => ?_
 refine go ?_
 refine x_l fun bk8 w9 ebk8 sbk8 B10 u11 => ?_
 refine x_c func36 rfl rfl (within2_v 0 100000 x.f x.t _ _ _ B10) ?_
 rintro _ w14 ⟨rfl, u15⟩ zu15
 refine go ?_
 refine t_splitp 10 rfl (fun g10 => ?_) (fun g10 => ?_)
 ·
  refine go ?_
  refine f_1 results67 ?_
  exact ⟨congrArg Value.bool (by rw [Bool.eq_iff_iff]; simp only [okFre, Bool.not_eq_eq_eq_not] <;> grind), u_d⟩
 refine go ?_
 refine f_1 results67 ?_
 exact ⟨congrArg Value.bool (by rw [Bool.eq_iff_iff]; simp only [okFre, decide_eq_true_eq, Bool.not_eq_eq_eq_not] <;> grind), u_d⟩

theorem badLow_c (x : Low) (w0 : World) :
    CallsV Tryz.prog 65 [.agg #[.int .i64 x.b, .int .i64 x.p]] w0 (fun v w' => v = .bool (!okLow x) ∧ Ext w0 w') := by
 refine f_n func65 ?_
 refine go ?_
 refine x_b fun bk2 w3 ebk2 sbk2 B4 u5 => ?_
 refine go ?_
 refine x_l fun bk8 w9 ebk8 sbk8 B10 u11 => ?_
 refine x_c func36 rfl rfl (within1_v 0 10000 x.b _ _ _ B10) ?_
 rintro _ w14 ⟨rfl, u15⟩ zu15
 refine go ?_
 refine t_splitp 8 rfl (fun g8 => ?_) (fun g8 => ?_)
 ·
  refine go ?_
  refine f_1 results65 ?_
  exact ⟨congrArg Value.bool (by rw [Bool.eq_iff_iff]; simp only [okLow, Bool.not_eq_eq_eq_not] <;> grind), u_d⟩
 refine go ?_
 refine x_l fun bk18 w19 ebk18 sbk18 B20 u21 => ?_
 refine x_c func36 rfl rfl (within1_v 0 1000 x.p _ _ _ B20) ?_
 rintro _ w24 ⟨rfl, u25⟩ zu25
 refine go ?_
 refine f_1 results65 ?_
 exact ⟨congrArg Value.bool (by rw [Bool.eq_iff_iff]; simp only [okLow, decide_eq_true_eq, Bool.not_eq_eq_eq_not] <;> grind), u_d⟩

theorem checkFree_c (l : List Fre) (al : Option Addr) (bl ol cl : Nat) (w0 : World) (hl : Sl encFre 2 w0 al bl ol l) (hll : l.length ≤ 1000000) :
    CallsV Tryz.prog 49 [.slice al l.length cl] w0 (fun v w' => v = .int .i64 (chkFr l) ∧ Ext w0 w') := by
 refine f_n func49 ?_
 refine go ?_
 refine q_p (fun g3 => ?_) fun g3 => ?_
 ·
  refine go ?_
  refine f_1 results49 ?_
  exact ⟨congrArg (Value.int .i64) (by unfold chkFr; rw [if_pos (by omega)]), u_d⟩
 refine go ?_
 refine x_c func66 rfl rfl (containsF_c encFre (fun _ => rfl) (fun x => !okFre x) 67 [] l al bl ol cl _ own67 (fun x _ w _ => badFre_c x w) hl hll) ?_
 rintro _ w7 ⟨rfl, u8⟩ zu8
 refine go ?_
 refine q_b (fun g7 => ?_) fun g7 => ?_
 ·
  refine go ?_
  refine f_1 results49 ?_
  exact ⟨congrArg (Value.int .i64) (by unfold chkFr; rw [if_neg (by omega), if_pos g7]), u_d⟩
 refine go ?_
 refine f_1 results49 ?_
 exact ⟨congrArg (Value.int .i64) (by unfold chkFr; rw [if_neg (by omega), if_neg (by simp [g7])]), u_d⟩

theorem rounded_c (m n : Int) (w0 : World) (hm : 0 ≤ m ∧ m ≤ 4000000000000000000) (hn : 1 ≤ n ∧ n ≤ 1000000) :
    CallsV Tryz.prog 55 [.int .i64 m, .int .i64 n] w0 (fun v w' => v = .int .i64 (rnd2 m n) ∧ Ext w0 w') := by
 refine f_n func55 ?_
 refine go ?_
 refine t_quo rfl rfl rfl rfl (by omega) (by omega) ?_
 refine go ?_
 refine t_quo rfl rfl rfl rfl (by omega) (by omega) ?_
 refine go ?_
 refine f_1 results55 ?_
 exact ⟨rfl, u_d⟩

end Go.Proofs.YtjkpkbdoljjeiaaGreat
namespace Go.Proofs.YtjkpkbdoljjeiaaGreat
open Go Go.RowKit
/-- In block r lies a map with the int keys ks, each true. -/
def SetI (ks : List Int) (w : World) (r : Nat) : Prop := ∃ es c, w.heap[r]? = some (.map es c) ∧ es.toList.map (fun e => (e.key, e.val)) = ks.map (fun k => (Value.int .i64 k, Value.bool true))
theorem SetI.lt {ks : List Int} {w : World} {r : Nat} (h : SetI ks w r) : r < w.heap.size := by obtain ⟨es, c, h, _⟩ := h; exact lt_of_block h
theorem SetI.keep {ks : List Int} {w : World} {r : Nat} {w' : World} {S : Nat → Prop} (h : SetI ks w r) (u : Upd S w w') (hn : ¬ S r) : SetI ks w' r := by
  obtain ⟨es, c, h1, h2⟩ := h
  exact ⟨es, c, (u.block r (lt_of_block h1) hn).trans h1, h2⟩
theorem SetI.ofMemo {w : World} {r : Nat} (h : ∀ F, Memo F w r) : SetI [] w r := by
  obtain ⟨es, c, h1, h2⟩ := h (fun _ _ _ => False)
  refine ⟨es, c, h1, ?_⟩
  cases he : es.toList with
  | nil => rfl
  | cons e l => obtain ⟨_, _, _, hf⟩ := h2 e (by rw [he]; simp); exact hf.elim
theorem findNowI {a : Int} : ∀ (ks : List Int) (es : List MapEntry) (i : Nat), es.map (fun e => (e.key, e.val)) = ks.map (fun k => (Value.int .i64 k, Value.bool true)) →
    (a ∈ ks → ∃ j, Instr.findNow (.int .i64) (.int .i64 a) es i = some (some (j, .bool true))) ∧ (a ∉ ks → Instr.findNow (.int .i64) (.int .i64 a) es i = some none)
  | [], [], i, _ => ⟨fun h => by simp at h, fun _ => rfl⟩
  | [], _ :: _, _, h => by simp at h
  | _ :: _, [], _, h => by simp at h
  | k :: ks, e :: es, i, h => by
    simp only [List.map_cons, List.cons.injEq, Prod.mk.injEq] at h
    obtain ⟨⟨hk, hv⟩, h⟩ := h
    obtain ⟨h1, h2⟩ := findNowI ks es (i + 1) h
    by_cases q : a = k
    · subst q
      refine ⟨fun _ => ⟨i, ?_⟩, fun hn => absurd (by simp) hn⟩
      simp [Instr.findNow, hk, hv, Instr.sameNow]
    · have hb : (a == k) = false := by simpa using q
      have hs : Instr.sameNow (.int .i64) (.int .i64 a) e.key = some false := by rw [hk]; simp [Instr.sameNow, q]
      refine ⟨fun hm => ?_, fun hn => ?_⟩
      · obtain ⟨j, hj⟩ := h1 (by simpa [q] using hm)
        exact ⟨j, by rw [Instr.findNow, hs]; exact hj⟩
      · have := h2 (fun hm => hn (by simp [hm]))
        rw [Instr.findNow, hs]; exact this
section steps
variable {rd : Option Nat} {P : Program} {ops : Array Oper} {Q : Exit → Act → World → Prop} {N : Nat} {ds : List Deferred} {rest : List Oper} {L : Slots} {w : World}
variable {d : Nat} {ty : TypeId} {pos : String} {aft : Array Edge} {g : Option (Nat × Bool)}
theorem findKeyI {K : TypeId} {ks : List Int} {es : List MapEntry} (hK : P.underlying K = some (.int .i64)) (h : es.map (fun e => (e.key, e.val)) = ks.map (fun k => (Value.int .i64 k, Value.bool true))) (a : Int) :
    (a ∈ ks → ∃ j, ∀ w, (Instr.findKey K (.int .i64 a) es).run P w = .ok (some (j, .bool true)) w) ∧ (a ∉ ks → ∀ w, (Instr.findKey K (.int .i64 a) es).run P w = .ok none w) := by
  obtain ⟨h1, h2⟩ := findNowI (a := a) ks es 0 h
  refine ⟨fun hm => ?_, fun hn w => ?_⟩
  · obtain ⟨j, hj⟩ := h1 hm
    exact ⟨j, fun w => by simp [Instr.findKey, run_underlying hK, hj]⟩
  · simp [Instr.findKey, run_underlying hK, h2 hn]
theorem checkKeyInI {K : TypeId} (hK : P.underlying K = some (.int .i64)) (em : Bool) (n : Nat) (a : Int) (w : World) : (Instr.checkKey em (n + 1) K (.int .i64 a)).run P w = .ok () w := by
  simp [Instr.checkKey, run_underlying hK]
theorem checkKeyI {K : TypeId} (hK : P.underlying K = some (.int .i64)) (em : Bool) (a : Int) (w : World) : (Instr.checkKey em 10000 K (.int .i64 a)).run P w = .ok () w :=
  checkKeyInI hK em 9999 a w
/-- m[a] of a map of truths. -/
theorem t_lookupI {T K E : TypeId} {x i : Operand} {r : Nat} {a : Int} {ks : List Int} (hK : P.underlying K = some (.int .i64)) (hu : P.underlying T = some (.map K E)) (hz : ∀ w, (zeroValue E).run P w = .ok (.bool false) w)
    (hg : grd ops L g = true) (hN : Nat.blt d N = true) (hx : ev L x = some (.map (some r))) (hi : ev L i = some (.int .i64 a)) (hm : SetI ks w r)
    (h : WL rd P ops Q N ds rest ((d, .bool (decide (a ∈ ks))) :: L) w) : WL rd P ops Q N ds (⟨some d, .lookup T x i false, ty, pos, aft, g⟩ :: rest) L w := by
  obtain ⟨es, c, h1, h2⟩ := hm
  have hgo : (getObj r).run P w = .ok (.map es c) w := by simp [getObj, Sem.run, h1]
  obtain ⟨q1, q2⟩ := findKeyI hK h2 a
  by_cases hq : a ∈ ks
  · obtain ⟨j, hj⟩ := q1 hq
    rw [decide_eq_true hq] at h
    refine WL.value hg rfl hN (fun a hk => ?_) h
    simp only [execOp, hk.ev hx, hk.ev hi]
    simp [Instr.lookup, run_underlying hu, hgo, checkKeyI hK, hj]
  · have hj := q2 hq
    rw [decide_eq_false hq] at h
    refine WL.value hg rfl hN (fun a hk => ?_) h
    simp only [execOp, hk.ev hx, hk.ev hi]
    simp [Instr.lookup, run_underlying hu, hgo, checkKeyI hK, hj, hz]
/-- m[a] = true for a new key. -/
theorem t_mapnewI {T K E : TypeId} {x i y : Operand} {r : Nat} {a : Int} {ks : List Int} (hK : P.underlying K = some (.int .i64)) (hu : P.underlying T = some (.map K E))
    (hg : grd ops L g = true) (hx : ev L x = some (.map (some r))) (hi : ev L i = some (.int .i64 a)) (hy : ev L y = some (.bool true)) (hm : SetI ks w r) (hn : a ∉ ks)
    (h : ∀ w', w'.heap.size = w.heap.size → SetI (ks ++ [a]) w' r → Upd (· = r) w w' → WL rd P ops Q N ds rest L w') : WL rd P ops Q N ds (⟨none, .mapUpdate T x i y, ty, pos, aft, g⟩ :: rest) L w := by
  obtain ⟨es, c, h1, h2⟩ := hm
  have hlt := lt_of_block h1
  have hgo : (getObj r).run P w = .ok (.map es c) w := by simp [getObj, Sem.run, h1]
  have hset : ∀ o, (setObj r o).run P w = .ok () { w with heap := w.heap.setIfInBounds r o } := fun o => by simp [setObj, Sem.run, h1]
  have hq := (findKeyI hK h2 a).2 hn
  refine WL.effect (w' := { w with heap := w.heap.setIfInBounds r (.map (es.push { key := .int .i64 a, val := .bool true, born := c }) (c + 1)) }) hg rfl (fun ac hk => ?_) (h _ (by simp) ⟨_, _, by simp [hlt]; exact ⟨rfl, rfl⟩, ?_⟩ ⟨rfl, rfl, rfl, by simp, fun k hk hn => by simp [Array.getElem?_setIfInBounds_ne (show r ≠ k from fun e => hn e.symm)]⟩)
  · simp only [execOp, hk.ev hx, hk.ev hi, hk.ev hy]
    simp [Instr.mapUpdate, run_underlying hu, hgo, checkKeyI hK, hq, hset]
  · rw [Array.toList_push, List.map_append, h2, List.map_append]; rfl
end steps
end Go.Proofs.YtjkpkbdoljjeiaaGreat
namespace Go.Proofs.YtjkpkbdoljjeiaaGreat
open Go Go.RowKit Go.Proofs.Tryz
structure Clr where
  p : Int
  t : Int
  g : Int
instance : Inhabited Clr := ⟨⟨default, default, default⟩⟩
def encClr (x : Clr) : List Value := [.int .i64 x.p, .int .i64 x.t, .int .i64 x.g]

/-- An order trades at a price. -/
def trd (sg : Int) (x : Bid) (p : Int) : Bool := decide (sg * x.r ≤ sg * p)
def tonK (sg p : Int) (l : List Bid) : Nat → Int
  | 0 => 0
  | k + 1 => if trd sg (nth l k) p = true then tonK sg p l k + (nth l k).n else tonK sg p l k
theorem okBid_ok {x : Bid} (h : okBid x = true) : (0 ≤ x.p ∧ x.p ≤ 99) ∧ (1 ≤ x.n ∧ x.n ≤ 1000000) ∧ (0 ≤ x.r ∧ x.r ≤ 1000000) ∧ (0 ≤ x.m ∧ x.m ≤ 100000) := by simpa [okBid] using h
theorem tonK_bd {sg p : Int} {l : List Bid} (hok : ∀ x ∈ l, okBid x = true) : ∀ {k : Nat}, k ≤ l.length → 0 ≤ tonK sg p l k ∧ tonK sg p l k ≤ 1000000 * (k : Int)
  | 0, _ => by simp [tonK]
  | k + 1, h => by
    have h1 := tonK_bd (sg := sg) (p := p) hok (k := k) (by omega)
    have h2 := okBid_ok (hok _ (nth_mem (xs := l) (i := k) (by omega)))
    unfold tonK
    split <;> omega
theorem twice_yes {l : List Bid} {k : Nat} (hk : k < l.length) (h : (nth l k).p ∈ (l.take k).map Bid.p) : ¬ (l.map Bid.p).Nodup := by
  intro hn
  have e : l.map Bid.p = (l.take k).map Bid.p ++ (nth l k).p :: (l.drop (k + 1)).map Bid.p := by
    rw [← List.map_cons (f := Bid.p), ← drop_nth hk, ← List.map_append, List.take_append_drop]
  rw [e, List.nodup_append] at hn
  exact hn.2.2 _ h _ (by simp) rfl
theorem twice_no {l : List Bid} {k : Nat} (hk : k < l.length) (hn : ((l.take k).map Bid.p).Nodup) (h : (nth l k).p ∉ (l.take k).map Bid.p) : ((l.take (k + 1)).map Bid.p).Nodup := by
  rw [take_nth hk, List.map_append, List.nodup_append]
  refine ⟨hn, by simp, fun a ha b hb e => ?_⟩
  simp at hb
  subst hb
  exact h (e ▸ ha)
/-- Clearings compared: the better one is less. -/
def cmpC (c d : Clr) : Int := or3 (cmpI3 d.t c.t) (cmpI3 c.g d.g) (cmpI3 c.p d.p)
def minK (l : List Clr) : Nat → Clr
  | 0 => nth l 0
  | k + 1 => if cmpC (nth l (k + 1)) (minK l k) < 0 then nth l (k + 1) else minK l k
/-- Orders of one side compared. -/
def cmpB (sg : Int) (a b : Bid) : Int := or3 (sg * cmpI3 a.r b.r) (cmpI3 a.m b.m) (cmpI3 a.p b.p)
theorem cmpI3_rng (a b : Int) : -1 ≤ cmpI3 a b ∧ cmpI3 a b ≤ 1 := by unfold cmpI3; split <;> (try split) <;> omega
theorem own42 : Own Tryz.prog 42 := ⟨Tryz.f42, func42, by kernel_rfl, by kernel_rfl⟩
theorem own44 : Own Tryz.prog 44 := ⟨Tryz.f44, func44, by kernel_rfl, by kernel_rfl⟩

theorem trades_c (sg : Int) (ao : Option Addr) (nO cO : Nat) (x : Bid) (p : Int) (w0 : World) (hsg : sg = 1 ∨ sg = -1) (hx : 0 ≤ x.r ∧ x.r ≤ 1000000) (hp : 0 ≤ p ∧ p ≤ 1000000) :
    CallsV Tryz.prog 37 [.agg #[.slice ao nO cO, .int .i64 sg], .agg #[.int .i64 x.p, .int .i64 x.n, .int .i64 x.r, .int .i64 x.m], .int .i64 p] w0 (fun v w' => v = .bool (trd sg x p) ∧ Ext w0 w') := by
 refine f_n func37 ?_
 refine go ?_
 refine x_b fun bk2 w3 ebk2 sbk2 B4 u5 => ?_
 refine x_b fun bk7 w8 ebk7 sbk7 B9 u10 => ?_
 refine go ?_
 refine t_ari rfl rfl rfl rfl rfl (by rcases hsg with h | h <;> rw [h] <;> omega) ?_
 refine go ?_
 refine t_ari rfl rfl rfl rfl rfl (by rcases hsg with h | h <;> rw [h] <;> omega) ?_
 refine go ?_
 refine f_1 results37 ?_
 exact ⟨rfl, u_d⟩

theorem tons_c (sg : Int) (l : List Bid) (al : Option Addr) (bl ol cl : Nat) (p : Int) (w0 : World) (hsg : sg = 1 ∨ sg = -1) (hl : Sl encBid 4 w0 al bl ol l) (hll : l.length ≤ 1000000) (hok : ∀ x ∈ l, okBid x = true) (hp : 0 ≤ p ∧ p ≤ 1000000) :
    CallsV Tryz.prog 17 [.agg #[.slice al l.length cl, .int .i64 sg], .int .i64 p] w0 (fun v w' => v = .int .i64 (tonK sg p l l.length) ∧ Ext w0 w') := by
 refine f_n func17 ?_
 refine go ?_
 refine x_b fun bk2 w3 ebk2 sbk2 B4 u5 => ?_
 refine go ?_
 refine x_l1 (fun _ => False) [1, 2, 8, 9] (fun (k : Nat) => [(4, .int .i64 (tonK sg p l k)), (10, .int .i64 (k : Int))]) (fun k w => (k ≤ l.length)) (fun k => l.length - k) 0 (Nat.zero_le _) ?_
 rintro k w10 hk u11 zu11 K9 hK9
 refine go ?_
 refine q_p (fun g11 => ?_) fun g11 => ?_
 ·
  refine go ?_
  refine g_i k (hl.keep (((Upd.refl (fun _ => False) w0).nx u5).nx u11) (fun _ h => h)) (fun _ => ?_)
  refine go ?_
  refine x_n fun bk18 w19 ebk18 sbk18 B20 u21 => ?_
  refine x_s fun w23 sw23 B25 u24 => ?_
  refine go ?_
  refine x_c func37 rfl rfl (trades_c sg al l.length cl (nth l k) p _ hsg (okBid_ok (hok _ (nth_mem (by omega)))).2.2.1 hp) ?_
  rintro _ w29 ⟨rfl, u30⟩ zu30
  refine go ?_
  refine q_b (fun g17 => ?_) fun g17 => ?_
  ·
   refine go ?_
   have hb := tonK_bd (sg := sg) (p := p) hok (k := k) (by omega)
   have hb2 := (okBid_ok (hok _ (nth_mem (xs := l) (i := k) (by omega)))).2.1
   refine go ?_
   exact hK9 (k + 1) (by omega) (hs := by exact ⟨(congrArg (fun z => some (Value.int .i64 z)) (by simp [tonK, g17])), rfl, rfl, rfl, rfl, rfl, trivial⟩)
  refine go ?_
  exact hK9 (k + 1) (by omega) (hs := by exact ⟨(congrArg (fun z => some (Value.int .i64 z)) (by simp [tonK, g17])), rfl, rfl, rfl, rfl, rfl, trivial⟩)
 refine go ?_
 refine f_1 results17 ?_
 obtain rfl : k = l.length := by omega
 exact ⟨rfl, u_d⟩

theorem twice_c (sg : Int) (l : List Bid) (al : Option Addr) (bl ol cl : Nat) (w0 : World) (hl : Sl encBid 4 w0 al bl ol l) (hll : l.length ≤ 1000000) :
    CallsV Tryz.prog 16 [.agg #[.slice al l.length cl, .int .i64 sg]] w0 (fun v w' => v = .bool (!decide (l.map Bid.p).Nodup) ∧ Ext w0 w') := by
 refine f_n func16 ?_
 refine go ?_
 refine x_b fun bk2 w3 ebk2 sbk2 B4 u5 => ?_
 refine go ?_
 refine t_makemap rfl rfl (fun bk8 w9 ebk8 sbk8 M10 u11 => ?_)
 have zu11 := u11.size
 refine go ?_
 refine x_l1 (fun i => i = bk8) [3, 8, 9] (fun (k : Nat) => [(10, .int .i64 (k : Int))]) (fun k w => (k ≤ l.length) ∧ (SetI ((l.take k).map Bid.p) w bk8) ∧ (((l.take k).map Bid.p).Nodup)) (fun k => l.length - k) 0 ⟨Nat.zero_le _, (by simpa using (SetI.ofMemo M10)), (by simp)⟩ ?_
 rintro k w16 ⟨hk, hset, hnd⟩ u17 zu17 K15 hK15
 have hbml := hset.lt
 refine go ?_
 refine q_p (fun g11 => ?_) fun g11 => ?_
 ·
  refine go ?_
  refine g_i k (hl.keep ((((Upd.refl (fun _ => False) w0).nx u5).nx u11).next u17 (fun i hi h => by omega)) (fun _ h => h)) (fun _ => ?_)
  refine go ?_
  refine x_n fun bk24 w25 ebk24 sbk24 B26 u27 => ?_
  refine x_s fun w29 sw29 B31 u30 => ?_
  refine go ?_
  have D35 := ((hset.keep u27 (fun h => h)).keep u30 (show ¬ (bk8 = bk24) by omega))
  refine t_lookupI (ks := ((l.take k).map Bid.p)) underlying3 underlying106 zeroValue4 rfl rfl rfl rfl D35 ?_
  refine go ?_
  refine q_p (fun g17 => ?_) fun g17 => ?_
  ·
   refine go ?_
   refine f_1 results16 ?_
   exact ⟨by rw [decide_eq_false (twice_yes (by omega) g17)]; rfl, u_d⟩
  refine go ?_
  refine t_mapnewI (ks := ((l.take k).map Bid.p)) underlying3 underlying106 rfl rfl rfl rfl D35 g17 (fun w37 ew37 M38 u39 => ?_)
  refine go ?_
  exact hK15 (k + 1) ⟨(by omega), (by rw [take_nth (by omega), List.map_append]; exact M38), (twice_no (by omega) hnd g17)⟩
 refine go ?_
 refine f_1 results16 ?_
 rw [List.take_of_length_le (by omega)] at hnd
 exact ⟨by rw [decide_eq_true hnd]; rfl, u_d⟩

theorem compare_c (c d : Clr) (w0 : World) :
    CallsV Tryz.prog 19 [.agg #[.int .i64 c.p, .int .i64 c.t, .int .i64 c.g], .agg #[.int .i64 d.p, .int .i64 d.t, .int .i64 d.g]] w0 (fun v w' => (v = .int .i64 (cmpC c d) ∧ Gr w0 w') ∧ Ext w0 w') := by
 refine f_n func19 ?_
 refine go ?_
 refine t_boxG (cs := [.int .i64 c.p, .int .i64 c.t, .int .i64 c.g]) rfl rfl rfl rfl (fun bk2 w3 ebk2 sbk2 B4 u5 Gu5 => ?_)
 refine t_boxG (cs := [.int .i64 d.p, .int .i64 d.t, .int .i64 d.g]) rfl rfl rfl rfl (fun bk7 w8 ebk7 sbk7 B9 u10 Gu10 => ?_)
 refine go ?_
 refine c_drawnMG follows (fun _ => False) (OTl [0, 2, 4, 6, 10, 12, 14, 16, 20, 22, 24, 26, 9, 19, 29, 31, 33, 34]) (by kernel_rfl) fun w13 u14 Gu14 => ?_
 have zu14 := u14.size
 refine go ?_
 refine t_call own39 rfl rfl rfl rfl (cmpI_c d.t c.t _) (fun v16 w17 r19 => ?_)
 obtain ⟨⟨rfl, Gu18⟩, u18⟩ := r19
 have zu18 := u18.size
 refine go ?_
 refine t_call own39 rfl rfl rfl rfl (cmpI_c c.g d.g _) (fun v21 w22 r24 => ?_)
 obtain ⟨⟨rfl, Gu23⟩, u23⟩ := r24
 have zu23 := u23.size
 refine go ?_
 refine t_call own39 rfl rfl rfl rfl (cmpI_c c.p d.p _) (fun v26 w27 r29 => ?_)
 obtain ⟨⟨rfl, Gu28⟩, u28⟩ := r29
 have zu28 := u28.size
 refine go ?_
 refine t_bsliceG (ps := [(0, .int .i64 (cmpI3 d.t c.t)), (1, .int .i64 (cmpI3 c.g d.g)), (2, .int .i64 (cmpI3 c.p d.p))]) (cs := [.int .i64 (cmpI3 d.t c.t), .int .i64 (cmpI3 c.g d.g), .int .i64 (cmpI3 c.p d.p)]) (e := 3) rfl rfl ⟨rfl, rfl⟩ (fun w => by kernel_rfl) (fun bk31 w32 ebk31 sbk31 B33 u34 Gu34 => ?_)
 refine go ?_
 refine t_call own38 rfl rfl rfl rfl (or3_c (cmpI3 d.t c.t) (cmpI3 c.g d.g) (cmpI3 c.p d.p) bk31 _ B33) (fun v36 w37 r39 => ?_)
 obtain ⟨⟨rfl, Gu38⟩, u38⟩ := r39
 have zu38 := u38.size
 refine go ?_
 refine f_1 results19 ?_
 exact ⟨⟨rfl, (((((((((Gr.refl _).trans Gu5).trans Gu10).trans Gu14).trans Gu18).trans Gu23).trans Gu28).trans Gu34).trans Gu38)⟩, u_d⟩

theorem minFunc_c (l : List Clr) (al : Option Addr) (bl ol cl : Nat) (w0 : World) (hl : Sl encClr 3 w0 al bl ol l) (hll : l.length ≤ 1000000) (hp : 1 ≤ l.length) :
    CallsV Tryz.prog 18 [.slice al l.length cl, .func (.func 19) #[] #[]] w0 (fun v w' => v = .agg (encClr (minK l (l.length - 1))).toArray ∧ Ext w0 w') := by
 refine f_n func18 ?_
 refine go ?_
 refine x_n fun bk2 w3 ebk2 sbk2 B4 u5 => ?_
 have E6 := Sc.mk ((Upd.refl (fun _ => False) w0).nx u5)
 refine go ?_
 refine q_p (fun g9 => ?_) fun g9 => ?_
 ·
  exfalso; omega
 refine go ?_
 refine g_i 0 (hl.keep E6.u (fun _ h => h)) (fun _ => ?_)
 refine go ?_
 refine x_n fun bk11 w12 ebk11 sbk11 B13 u14 => ?_
 refine x_s fun w16 sw16 B18 u17 => ?_
 refine go ?_
 refine x_l1 (fun i => i = bk11) [0, 1, 4, 5] (fun (k : Nat) => [(6, .int .i64 ((k + 1 : Nat) : Int))]) (fun k w => Blk w bk11 76 [.int .i64 ((minK l k).p), .int .i64 ((minK l k).t), .int .i64 ((minK l k).g)] ∧ (k + 1 ≤ l.length)) (fun k => l.length - k) 0 ⟨B18, (by omega)⟩ ?_
 rintro k w23 ⟨I25, hk⟩ u24 zu24 K22 hK22
 refine go ?_
 refine q_p (fun g17 => ?_) fun g17 => ?_
 ·
  refine go ?_
  refine c_drawnM follows (fun _ => False) (OTl [0, 2, 4, 6, 8, 10, 13, 14]) (by kernel_rfl) fun w31 u32 => ?_
  have zu32 := u32.size
  have E33 := Sc.mk ((((E6.u.nx u14).next u17 (fun i hi h => by omega)).next u24 (fun i hi h => by omega)).nx u32)
  refine go ?_
  refine y_i (k + 1 : Nat) (hl.keep E33.u (fun _ h => h)) (fun _ => ?_)
  refine go ?_
  refine x_c func19 rfl rfl (compare_c (nth l (k + 1 : Nat)) (minK l k) _) ?_
  rintro _ w36 ⟨⟨rfl, _⟩, u37⟩ zu37
  refine go ?_
  refine q_p (fun g27 => ?_) fun g27 => ?_
  ·
   refine go ?_
   refine g_i (k + 1 : Nat) (hl.keep (E33.u.nx u37) (fun _ h => h)) (fun _ => ?_)
   refine go ?_
   refine x_s fun w41 sw41 B43 u42 => ?_
   refine go ?_
   exact hK22 (k + 1) ⟨(by first | (simp only [minK, if_pos g27]; exact B43) | (simp only [minK, if_neg g27]; exact B43)), (by omega)⟩
  refine go ?_
  have B45 := ((I25.kx u32).kx u37)
  exact hK22 (k + 1) ⟨(by first | (simp only [minK]; exact B45) | (simp only [minK, if_neg g27]; exact B45)), (by omega)⟩
 refine go ?_
 refine x_s fun w47 sw47 B49 u48 => ?_
 refine go ?_
 refine f_ret1 (v := .agg #[.int .i64 ((minK l k).p), .int .i64 ((minK l k).t), .int .i64 ((minK l k).g)]) results18 ⟨_, _, rfl, run_loadVarN (vs := [.int .i64 ((minK l k).p), .int .i64 ((minK l k).t), .int .i64 ((minK l k).g)]) isAgg76 sizeOf76 rfl (B49.at.sub 0 3)⟩ ?_
 obtain rfl : k = l.length - 1 := by omega
 exact ⟨rfl, u_d⟩

theorem queue1_c (sg : Int) (ao : Option Addr) (nO cO : Nat) (p : Int) (x : Bid) (bs bp : Nat) (w0 : World) (hsg : sg = 1 ∨ sg = -1) (hx : 0 ≤ x.r ∧ x.r ≤ 1000000) (hp : 0 ≤ p ∧ p ≤ 1000000) (hs : Blk w0 bs 69 [.slice ao nO cO, .int .i64 sg]) (hq : Blk w0 bp 3 [.int .i64 p]) :
    CallsV Tryz.prog 42 [.agg #[.int .i64 x.p, .int .i64 x.n, .int .i64 x.r, .int .i64 x.m], .pointer (some ⟨bs, 0, none⟩), .pointer (some ⟨bp, 0, none⟩)] w0 (fun v w' => v = .bool (!trd sg x p) ∧ Ext w0 w') := by
 refine f_n func42 ?_
 refine go ?_
 refine x_b fun bk2 w3 ebk2 sbk2 B4 u5 => ?_
 refine go ?_
 refine x_c func37 rfl rfl (trades_c sg ao nO cO x p _ hsg hx hp) ?_
 rintro _ w9 ⟨rfl, u10⟩ zu10
 refine go ?_
 refine f_1 results42 ?_
 exact ⟨rfl, u_d⟩

theorem queue2_c (sg : Int) (ao : Option Addr) (nO cO : Nat) (x y : Bid) (bs : Nat) (w0 : World) (hsg : sg = 1 ∨ sg = -1) (hs : Blk w0 bs 69 [.slice ao nO cO, .int .i64 sg]) :
    CallsV Tryz.prog 44 [.agg #[.int .i64 x.p, .int .i64 x.n, .int .i64 x.r, .int .i64 x.m], .agg #[.int .i64 y.p, .int .i64 y.n, .int .i64 y.r, .int .i64 y.m], .pointer (some ⟨bs, 0, none⟩)] w0 (fun v w' => (v = .int .i64 (cmpB sg x y) ∧ Gr w0 w') ∧ Ext w0 w') := by
 refine f_n func44 ?_
 refine go ?_
 refine t_boxG (cs := [.int .i64 x.p, .int .i64 x.n, .int .i64 x.r, .int .i64 x.m]) rfl rfl rfl rfl (fun bk2 w3 ebk2 sbk2 B4 u5 Gu5 => ?_)
 refine t_boxG (cs := [.int .i64 y.p, .int .i64 y.n, .int .i64 y.r, .int .i64 y.m]) rfl rfl rfl rfl (fun bk7 w8 ebk7 sbk7 B9 u10 Gu10 => ?_)
 refine go ?_
 refine c_drawnMG follows (fun _ => False) (OTl [0, 2, 4, 6, 8, 10, 16, 18, 20, 22, 26, 28, 30, 32, 13, 14, 25, 35, 37, 39, 40]) (by kernel_rfl) fun w13 u14 Gu14 => ?_
 have zu14 := u14.size
 refine go ?_
 refine t_call own39 rfl rfl rfl rfl (cmpI_c x.r y.r _) (fun v16 w17 r19 => ?_)
 obtain ⟨⟨rfl, Gu18⟩, u18⟩ := r19
 have zu18 := u18.size
 refine go ?_
 refine y_ari rfl rfl rfl rfl rfl (by have := cmpI3_rng x.r y.r; rcases hsg with h | h <;> rw [h] <;> omega) ?_
 refine go ?_
 refine t_call own39 rfl rfl rfl rfl (cmpI_c x.m y.m _) (fun v21 w22 r24 => ?_)
 obtain ⟨⟨rfl, Gu23⟩, u23⟩ := r24
 have zu23 := u23.size
 refine go ?_
 refine t_call own39 rfl rfl rfl rfl (cmpI_c x.p y.p _) (fun v26 w27 r29 => ?_)
 obtain ⟨⟨rfl, Gu28⟩, u28⟩ := r29
 have zu28 := u28.size
 refine go ?_
 refine t_bsliceG (ps := [(0, .int .i64 (sg * (cmpI3 x.r y.r))), (1, .int .i64 (cmpI3 x.m y.m)), (2, .int .i64 (cmpI3 x.p y.p))]) (cs := [.int .i64 (sg * (cmpI3 x.r y.r)), .int .i64 (cmpI3 x.m y.m), .int .i64 (cmpI3 x.p y.p)]) (e := 3) rfl rfl ⟨rfl, rfl⟩ (fun w => by kernel_rfl) (fun bk31 w32 ebk31 sbk31 B33 u34 Gu34 => ?_)
 refine go ?_
 refine t_call own38 rfl rfl rfl rfl (or3_c (sg * (cmpI3 x.r y.r)) (cmpI3 x.m y.m) (cmpI3 x.p y.p) bk31 _ B33) (fun v36 w37 r39 => ?_)
 obtain ⟨⟨rfl, Gu38⟩, u38⟩ := r39
 have zu38 := u38.size
 refine go ?_
 refine f_1 results44 ?_
 exact ⟨⟨rfl, (((((((((Gr.refl _).trans Gu5).trans Gu10).trans Gu14).trans Gu18).trans Gu23).trans Gu28).trans Gu34).trans Gu38)⟩, u_d⟩

end Go.Proofs.YtjkpkbdoljjeiaaGreat
