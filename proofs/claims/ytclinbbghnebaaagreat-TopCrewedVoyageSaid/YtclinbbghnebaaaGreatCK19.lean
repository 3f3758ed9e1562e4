/-
  Part 19 of the proof: contracts and plain laws. Conditions: none.
-/
import Derived.Test.YtclinbbghnebaaaGreatCK18
namespace Go.Proofs.YtclinbbghnebaaaGreat
open Go Go.RowKit Go.Proofs.Tryz
set_option maxRecDepth 10000

def hvC : List Bnd2 := [⟨0, 0⟩, ⟨100, 300⟩, ⟨300, 900⟩]
def hvH : List Bnd2 := [⟨15, 4⟩]
def hlC : List Bnd2 := [⟨-30, 4⟩, ⟨30, 4⟩]
structure Sx where
  c : Nat
  h : Nat
instance : Inhabited Sx := ⟨⟨default, default⟩⟩
def encSx (x : Sx) : List Value := [.int .i64 30, .int .i64 100, .int .i64 50, .slice (some ⟨x.c, 0, none⟩) 3 3, .slice (some ⟨x.h, 0, none⟩) 1 1]
theorem vol_r0 {d r : Int} (hd : 0 ≤ d ∧ d ≤ 100) (h0 : 0 ≤ r) (h1 : r ≤ 2) (h2 : 0 < r → decide (d ≤ (nth hvC (r - 1 + 1).toNat).lo) = false) : r = 0 := by
  rcases Int.lt_or_le 0 r with q | q
  · have := of_decide_eq_false (h2 q)
    have e : r = 1 ∨ r = 2 := by omega
    rcases e with rfl | rfl
    · have e9 : (nth hvC ((1 : Int) - 1 + 1).toNat).lo = 100 := rfl
      omega
    · have e9 : (nth hvC ((2 : Int) - 1 + 1).toNat).lo = 300 := rfl
      omega
  · omega
theorem vol_r1 {d r : Int} (hd : 100 < d ∧ d ≤ 300) (h0 : 0 ≤ r) (h1 : r ≤ 2) (h2 : 0 < r → decide (d ≤ (nth hvC (r - 1 + 1).toNat).lo) = false) (h3 : r < 2 → decide (d ≤ (nth hvC (r + 1).toNat).lo) = true) : r = 1 := by
  have e : r = 0 ∨ r = 1 ∨ r = 2 := by omega
  rcases e with rfl | rfl | rfl
  · have := of_decide_eq_true (h3 (by decide))
    have e9 : (nth hvC ((0 : Int) + 1).toNat).lo = 100 := rfl
    omega
  · rfl
  · have := of_decide_eq_false (h2 (by decide))
    have e9 : (nth hvC ((2 : Int) - 1 + 1).toNat).lo = 300 := rfl
    omega
theorem mean_r {r : Int} (h0 : 0 ≤ r) (h1 : r ≤ 301) (h2 : 0 < r → decide ((600 : Int) ≤ 6 * (r - 1)) = false) (h3 : r < 301 → decide ((600 : Int) ≤ 6 * r) = true) : r = 100 := by
  by_cases q : r < 301
  · have := of_decide_eq_true (h3 q)
    have := of_decide_eq_false (h2 (by omega))
    omega
  · have := of_decide_eq_false (h2 (by omega))
    omega
theorem own267 : Own Tryz.prog 267 := ⟨Tryz.f267, func267, by kernel_rfl, by kernel_rfl⟩
theorem own292 : Own Tryz.prog 292 := ⟨Tryz.f292, func292, by kernel_rfl, by kernel_rfl⟩
theorem own294 : Own Tryz.prog 294 := ⟨Tryz.f294, func294, by kernel_rfl, by kernel_rfl⟩
theorem own301 : Own Tryz.prog 301 := ⟨Tryz.f301, func301, by kernel_rfl, by kernel_rfl⟩
theorem eqIn235 (n : Nat) (a0 : Int) (a1 : Int) (b0 : Int) (b1 : Int) (w : World) : (Op.equalIn (n + 2) 235 (.agg #[.int .i64 a0, .int .i64 a1]) (.agg #[.int .i64 b0, .int .i64 b1])).run Tryz.prog w = .ok (decide (a0 = b0) && decide (a1 = b1)) w := by
  have hS : Tryz.prog.underlying 235 = some (.struct (Tryz.prog.fieldsOf 235)) := by kernel_rfl
  have hp : Tryz.prog.stoodInHeld 235 = false := by kernel_rfl
  have p0 : ∀ (a0 : Int) (a1 : Int), (part 3 #[.int .i64 a0, .int .i64 a1] 0).run Tryz.prog w = .ok (.int .i64 a0) w := fun _ _ => by simp [part, isAgg3]
  have p1 : ∀ (a0 : Int) (a1 : Int), (part 3 #[.int .i64 a0, .int .i64 a1] 1).run Tryz.prog w = .ok (.int .i64 a1) w := fun _ _ => by simp [part, isAgg3]
  have e3 := fun a b w => equal_i64 underlying3 (n + 0) a b w
  rw [run_equalIn_struct w (n + 1) 235 _ _ hS hp]
  simp only [Program.fieldsOf, underlying235]
  simp only [Op.eqFields, Sem.run_bind, Sem.run_ite, p0, p1, e3, Result.andThen_ok]
  by_cases h0 : a0 = b0 <;> by_cases h1 : a1 = b1 <;> simp [h0, h1]

theorem hwithin1_c (lo hi n : Int) (b c : Nat) (t1 t2 : TypeId) (w0 : World) (hb : Blk w0 b t1 [.int .i64 lo]) (hc : Blk w0 c t2 [.int .i64 hi]) :
    CallsV Tryz.prog 267 [.int .i64 n, .pointer (some ⟨b, 0, none⟩), .pointer (some ⟨c, 0, none⟩)] w0 (fun v w' => v = .bool (out1 lo hi n) ∧ Ext w0 w') := by
 refine f_n func267 ?_
 refine go ?_
 refine t_splitp 8 rfl (fun g8 => ?_) (fun g8 => ?_)
 ·
  refine go ?_
  refine f_1 results267 ?_
  exact ⟨by simp [out1, *], u_d⟩
 refine go ?_
 refine f_1 results267 ?_
 exact ⟨by simp [out1, *], u_d⟩

theorem hwithin_c (lo hi : Int) (xs : List Int) (ao : Option Addr) (b o cap : Nat) (w0 : World) (hs : Sl encI 1 w0 ao b o xs) (hl : xs.length ≤ 1000000) :
    CallsV Tryz.prog 219 [.int .i64 lo, .int .i64 hi, .slice ao xs.length cap] w0 (fun v w' => v = .bool (decide (∀ n ∈ xs, lo ≤ n ∧ n ≤ hi)) ∧ Ext w0 w') := by
 refine f_n func219 ?_
 refine go ?_
 refine x_b fun bk2 w3 ebk2 sbk2 B4 u5 => ?_
 refine x_b fun bk7 w8 ebk7 sbk7 B9 u10 => ?_
 refine go ?_
 refine t_mkfunc (vs := []) (us := [.pointer (some ⟨bk2, 0, none⟩), .pointer (some ⟨bk7, 0, none⟩)]) rfl rfl rfl rfl ?_
 have B13 := (B4.kx u10)
 refine x_c func82 rfl rfl (containsI_c (out1 lo hi) 267 [.pointer (some ⟨bk2, 0, none⟩), .pointer (some ⟨bk7, 0, none⟩)] xs ao b o cap _ own267 (fun x _ w u => hwithin1_c lo hi x bk2 bk7 _ _ w (B13.keep u (fun h => h)) (B9.keep u (fun h => h))) (hs.keep (((Upd.refl (fun _ => False) w0).nx u5).nx u10) (fun _ h => h)) hl) ?_
 rintro _ w15 ⟨rfl, u16⟩ zu16
 refine go ?_
 refine f_1 results219 ?_
 exact ⟨by rw [not_any_out], u_d⟩

theorem hw1_t (lo hi m : Int) (b : Nat) (t : TypeId) (w : World) (h : Blk w b t [.int .i64 m]) (hr : (lo ≤ m ∧ m ≤ hi)) : CallsV Tryz.prog 219 [.int .i64 lo, .int .i64 hi, .slice (some ⟨b, 0, none⟩) 1 1] w (fun v w' => v = .bool true ∧ Ext w w') :=
  (hwithin_c lo hi [m] _ b 0 1 w (SlI.own (xs := [m]) h) (by simp)).mono fun v w' ⟨e, u⟩ => ⟨by rw [e]; simp; omega, u⟩

theorem hw2_t (lo hi m n : Int) (b : Nat) (t : TypeId) (w : World) (h : Blk w b t [.int .i64 m, .int .i64 n]) (hr : (lo ≤ m ∧ m ≤ hi) ∧ (lo ≤ n ∧ n ≤ hi)) : CallsV Tryz.prog 219 [.int .i64 lo, .int .i64 hi, .slice (some ⟨b, 0, none⟩) 2 2] w (fun v w' => v = .bool true ∧ Ext w w') :=
  (hwithin_c lo hi [m, n] _ b 0 2 w (SlI.own (xs := [m, n]) h) (by simp)).mono fun v w' ⟨e, u⟩ => ⟨by rw [e]; simp; omega, u⟩

theorem indexHd_c {α : Type} [Inhabited α] (enc : α → List Value) (hk : ∀ x, (enc x).length = 2) (p : α → Bool) (fv : FuncId) (caps : List Value) (xs : List α) (ao : Option Addr) (b o cap : Nat) (w0 : World) (ho : Own Tryz.prog fv) (hp : ∀ x ∈ xs, ∀ w, Ext w0 w → CallsV Tryz.prog fv ([.agg (enc x).toArray] ++ caps) w fun v w' => v = .bool (p x) ∧ Ext w w') (hs : Sl enc 2 w0 ao b o xs) (hl : xs.length ≤ 1000000) :
    CallsV Tryz.prog 299 [.slice ao xs.length cap, .func (.func fv) #[] (caps).toArray] w0 (fun v w' => (∃ n : Int, v = .int .i64 n ∧ decide (0 ≤ n) = xs.any p) ∧ Ext w0 w') := by
 refine f_n func299 ?_
 refine go ?_
 refine x_l1 (fun _ => False) [0, 1, 7] (fun (k : Nat) => [(8, .int .i64 (k : Int))]) (fun k w => (k ≤ xs.length) ∧ ((xs.take k).any p = false)) (fun k => xs.length - k) 0 ⟨Nat.zero_le _, (by simp)⟩ ?_
 rintro k w5 ⟨hle, hnot⟩ u6 zu6 K4 hK4
 have E7 := Sc.mk ((Upd.refl (fun _ => False) w0).nx u6)
 refine go ?_
 refine q_p (fun g9 => ?_) fun g9 => ?_
 ·
  refine go ?_
  refine g_i k (hs.keep E7.u (fun _ h => h)) (fun _ => ?_)
  refine t_loadN (vs := enc (nth xs k)) isAgg238 sizeOf238 rfl rfl rfl ((hs.keep E7.u (fun _ h => h)).at_ k (by omega)) (hk _) (t_call (fs := []) (cs := caps) ho rfl rfl rfl rfl (hp (nth xs k) (nth_mem (by omega)) _ E7.u) (fun v14 w15 r17 => ?_))
  obtain ⟨rfl, u16⟩ := r17
  have zu16 := u16.size
  refine go ?_
  refine q_b (fun g16 => ?_) fun g16 => ?_
  ·
   refine go ?_
   refine f_1 results299 ?_
   exact ⟨⟨_, rfl, any_hit (by omega) g16⟩, u_d⟩
  refine go ?_
  exact hK4 (k + 1) ⟨(by omega), (any_snoc (by omega) hnot g16)⟩
 refine go ?_
 refine f_1 results299 ?_
 exact ⟨⟨_, rfl, any_none (by omega) hnot⟩, u_d⟩

theorem containsHd_c {α : Type} [Inhabited α] (enc : α → List Value) (hk : ∀ x, (enc x).length = 2) (p : α → Bool) (fv : FuncId) (caps : List Value) (xs : List α) (ao : Option Addr) (b o cap : Nat) (w0 : World) (ho : Own Tryz.prog fv) (hp : ∀ x ∈ xs, ∀ w, Ext w0 w → CallsV Tryz.prog fv ([.agg (enc x).toArray] ++ caps) w fun v w' => v = .bool (p x) ∧ Ext w w') (hs : Sl enc 2 w0 ao b o xs) (hl : xs.length ≤ 1000000) :
    CallsV Tryz.prog 291 [.slice ao xs.length cap, .func (.func fv) #[] (caps).toArray] w0 (fun v w' => v = .bool (xs.any p) ∧ Ext w0 w') := by
 refine f_n func291 ?_
 refine go ?_
 refine x_c func299 rfl rfl (indexHd_c enc hk p fv caps xs ao b o cap _ ho hp hs hl) ?_
 rintro _ w4 ⟨⟨n, rfl, hn⟩, u5⟩ zu5
 refine go ?_
 refine f_1 results291 ?_
 exact ⟨by rw [hn], u_d⟩

theorem hbounds_c  (w0 : World) :
    CallsV Tryz.prog 268 [.agg #[.int .i64 1000, .int .i64 1000], .int .i64 900, .int .i64 1100] w0 (fun v w' => v = .bool true ∧ Ext w0 w') := by
 refine f_n func268 ?_
 refine go ?_
 refine x_b fun bk2 w3 ebk2 sbk2 B4 u5 => ?_
 refine go ?_
 refine x_l fun bk8 w9 ebk8 sbk8 B10 u11 => ?_
 refine x_c func219 rfl rfl (hw2_t 900 1100 1000 1000 _ _ _ B10 (by omega)) ?_
 rintro _ w14 ⟨rfl, u15⟩ zu15
 refine go ?_
 refine f_1 results268 ?_
 exact ⟨rfl, u_d⟩

theorem hdens_c  (w0 : World) :
    CallsV Tryz.prog 220 [.agg #[.int .i64 1000, .int .i64 1000]] w0 (fun v w' => v = .bool true ∧ Ext w0 w') := by
 refine f_n func220 ?_
 refine go ?_
 refine x_b fun bk2 w3 ebk2 sbk2 B4 u5 => ?_
 refine go ?_
 refine x_c func268 rfl rfl (hbounds_c _) ?_
 rintro _ w9 ⟨rfl, u10⟩ zu10
 refine go ?_
 refine f_1 results220 ?_
 exact ⟨rfl, u_d⟩

theorem hcurve_c (gc : Nat) (w0 : World) (hcv : Sl encRt 2 w0 (some ⟨gc, 0, none⟩) gc 0 hvC) :
    CallsV Tryz.prog 293 [.slice (some ⟨gc, 0, none⟩) 3 3] w0 (fun v w' => v = .bool true ∧ Ext w0 w') := by
 refine f_n func293 ?_
 refine go ?_
 refine x_l fun bk4 w5 ebk4 sbk4 B6 u7 => ?_
 refine x_c func219 rfl rfl (hw1_t 2 20 3 _ _ _ B6 (by omega)) ?_
 rintro _ w10 ⟨rfl, u11⟩ zu11
 have E13 := Sc.mk (((Upd.refl (fun _ => False) w0).nx u7).nx u11)
 refine go ?_
 have i14 : 0 < hvC.length := (by decide)
 refine g_i 0 (hcv.keep E13.u (fun _ h => h)) (fun _ => ?_)
 refine st1 ?_
 refine t_same 13 (v := .agg #[.int .i64 0, .int .i64 0]) rfl rfl ?_
 refine go ?_
 refine t_neS (xs := [.int .i64 0, .int .i64 0]) (ys := [.int .i64 0, .int .i64 0]) (by kernel_rfl) (eqIn235 9998 0 0 0 0) rfl rfl rfl rfl (t_samehd (v := .bool false) rfl ?_)
 refine go ?_
 refine t_sliceFrom (1) underlying236 sizeOf235 rfl rfl rfl rfl rfl (by decide) (by decide) ?_
 refine go ?_
 refine c_rounds 3 (WR.weak [(0, .slice (some ⟨gc, 0, none⟩) 3 3), (18, .slice (subAddr (some ⟨gc, 0, none⟩) 3 1 2) 2 2), (19, .int .i64 2), (20, .int .i64 0)] ⟨rfl, rfl, rfl, rfl, trivial⟩ (r_round fun K17 hK17 => (q_of ?_)))
 refine go ?_
 have i22 : 0 < ((hvC.drop 1).take 2).length := (by decide)
 refine g_i 0 (Sl.sub (hcv.keep E13.u (fun _ h => h)) 3 1 2 (by decide)) (fun _ => ?_)
 refine st1 ?_
 refine t_same 24 (v := .agg #[.int .i64 100, .int .i64 300]) rfl rfl ?_
 refine x_n fun bk23 w24 ebk23 sbk23 B25 u26 => ?_
 refine go ?_
 refine x_s fun w28 sw28 B30 u29 => ?_
 refine go ?_
 refine c_drawnM follows (fun _ => False) (OTl [0, 2, 4, 6, 8, 10, 12, 14, 17, 19, 20, 22, 24, 26, 28, 30, 32, 34, 36, 38, 41, 43, 44, 46]) (by kernel_rfl) fun w33 u34 => ?_
 have zu34 := u34.size
 have E35 := Sc.mk (((E13.u.nx u26).next u29 (fun i hi h => by omega)).nx u34)
 refine go ?_
 have i36 : 0 < hvC.length := (by decide)
 refine y_i 0 (hcv.keep E35.u (fun _ h => h)) (fun _ => ?_)
 iterate 2 refine st1 ?_
 refine y_same 29 (v := .int .i64 0) rfl rfl ?_
 refine go ?_
 refine x_l fun bk37 w38 ebk37 sbk37 B39 u40 => ?_
 refine go ?_
 refine x_c func219 rfl rfl (hw1_t 1 1000 100 _ _ _ B39 (by omega)) ?_
 rintro _ w43 ⟨rfl, u44⟩ zu44
 refine go ?_
 have i47 : 0 < hvC.length := (by decide)
 refine y_i 0 (hcv.keep E35.u (fun _ h => h)) (fun _ => ?_)
 iterate 2 refine st1 ?_
 refine y_same 41 (v := .int .i64 0) rfl rfl ?_
 refine go ?_
 refine x_l fun bk48 w49 ebk48 sbk48 B50 u51 => ?_
 refine go ?_
 refine x_c func219 rfl rfl (hw1_t 1 100000 300 _ _ _ B50 (by omega)) ?_
 rintro _ w54 ⟨rfl, u55⟩ zu55
 have E57 := Sc.mk ((((E35.u.nx u40).nx u44).nx u51).nx u55)
 refine go ?_
 refine hK17 _ _ (WR.weak [(0, .slice (some ⟨gc, 0, none⟩) 3 3), (18, .slice (subAddr (some ⟨gc, 0, none⟩) 3 1 2) 2 2), (19, .int .i64 2), (20, .int .i64 1)] ⟨rfl, rfl, rfl, rfl, trivial⟩ (r_round fun K58 hK58 => (q_of ?_)))
 refine go ?_
 have i63 : 1 < ((hvC.drop 1).take 2).length := (by decide)
 refine g_i 1 (Sl.sub (hcv.keep E57.u (fun _ h => h)) 3 1 2 (by decide)) (fun _ => ?_)
 refine st1 ?_
 refine t_same 24 (v := .agg #[.int .i64 300, .int .i64 900]) rfl rfl ?_
 refine x_n fun bk64 w65 ebk64 sbk64 B66 u67 => ?_
 refine go ?_
 refine x_s fun w69 sw69 B71 u70 => ?_
 refine go ?_
 refine c_drawnM follows (fun _ => False) (OTl [0, 2, 4, 6, 8, 10, 12, 14, 17, 19, 20, 22, 24, 26, 28, 30, 32, 34, 36, 38, 41, 43, 44, 46]) (by kernel_rfl) fun w74 u75 => ?_
 have zu75 := u75.size
 have E76 := Sc.mk (((E57.u.nx u67).next u70 (fun i hi h => by omega)).nx u75)
 refine go ?_
 have i77 : 1 < hvC.length := (by decide)
 refine y_i 1 (hcv.keep E76.u (fun _ h => h)) (fun _ => ?_)
 iterate 2 refine st1 ?_
 refine y_same 29 (v := .int .i64 100) rfl rfl ?_
 refine go ?_
 refine x_l fun bk78 w79 ebk78 sbk78 B80 u81 => ?_
 refine go ?_
 refine x_c func219 rfl rfl (hw1_t 101 1000 300 _ _ _ B80 (by omega)) ?_
 rintro _ w84 ⟨rfl, u85⟩ zu85
 refine go ?_
 have i88 : 1 < hvC.length := (by decide)
 refine y_i 1 (hcv.keep E76.u (fun _ h => h)) (fun _ => ?_)
 iterate 2 refine st1 ?_
 refine y_same 41 (v := .int .i64 300) rfl rfl ?_
 refine go ?_
 refine x_l fun bk89 w90 ebk89 sbk89 B91 u92 => ?_
 refine go ?_
 refine x_c func219 rfl rfl (hw1_t 301 100000 900 _ _ _ B91 (by omega)) ?_
 rintro _ w95 ⟨rfl, u96⟩ zu96
 refine go ?_
 refine hK58 _ _ (WR.weak [(0, .slice (some ⟨gc, 0, none⟩) 3 3), (18, .slice (subAddr (some ⟨gc, 0, none⟩) 3 1 2) 2 2), (19, .int .i64 2), (20, .int .i64 2)] ⟨rfl, rfl, rfl, rfl, trivial⟩ (r_round fun K99 hK99 => (q_of ?_)))
 refine go ?_
 refine f_1 results293 ?_
 exact ⟨rfl, u_d⟩

theorem hsec1_c (gc gh p : Nat) (w0 : World) (hp : Blk w0 p 241 [.int .i64 30, .int .i64 100, .int .i64 50, .slice (some ⟨gc, 0, none⟩) 3 3, .slice (some ⟨gh, 0, none⟩) 1 1]) :
    CallsV Tryz.prog 292 [.agg #[.int .i64 15, .int .i64 4], .pointer (some ⟨p, 0, none⟩)] w0 (fun v w' => v = .bool false ∧ Ext w0 w') := by
 refine f_n func292 ?_
 refine go ?_
 refine x_b fun bk2 w3 ebk2 sbk2 B4 u5 => ?_
 refine go ?_
 refine x_l fun bk8 w9 ebk8 sbk8 B10 u11 => ?_
 refine x_c func219 rfl rfl (hw1_t 0 30 15 _ _ _ B10 (by omega)) ?_
 rintro _ w14 ⟨rfl, u15⟩ zu15
 refine go ?_
 refine x_l fun bk18 w19 ebk18 sbk18 B20 u21 => ?_
 refine x_c func219 rfl rfl (hw1_t 0 20 4 _ _ _ B20 (by omega)) ?_
 rintro _ w24 ⟨rfl, u25⟩ zu25
 refine go ?_
 refine f_1 results292 ?_
 exact ⟨rfl, u_d⟩

theorem hsec_c (gc gh : Nat) (w0 : World) (hcv : Sl encRt 2 w0 (some ⟨gc, 0, none⟩) gc 0 hvC) (hhd : Sl encRt 2 w0 (some ⟨gh, 0, none⟩) gh 0 hvH) :
    CallsV Tryz.prog 266 [.agg #[.int .i64 30, .int .i64 100, .int .i64 50, .slice (some ⟨gc, 0, none⟩) 3 3, .slice (some ⟨gh, 0, none⟩) 1 1]] w0 (fun v w' => v = .bool true ∧ Ext w0 w') := by
 refine f_n func266 ?_
 refine go ?_
 refine x_b fun bk2 w3 ebk2 sbk2 B4 u5 => ?_
 have E6 := Sc.mk ((Upd.refl (fun _ => False) w0).nx u5)
 refine go ?_
 refine t_mkfunc (vs := []) (us := [.pointer (some ⟨bk2, 0, none⟩)]) rfl rfl rfl rfl ?_
 have hc9 := containsHd_c encRt (fun _ => rfl) (fun _ => false) 292 [.pointer (some ⟨bk2, 0, none⟩)] hvH (some ⟨gh, 0, none⟩) gh 0 1 w3 own292 (fun x hx w u => by
   obtain rfl := List.mem_singleton.1 hx
   exact hsec1_c gc gh bk2 w (B4.keep u (fun h => h))) (hhd.keep E6.u (fun _ h => h)) (by decide)
 refine x_c func291 rfl rfl hc9 ?_
 rintro _ w9 ⟨rfl, u10⟩ zu10
 refine st1 ?_
 refine t_same 3 (v := .bool false) rfl rfl ?_
 refine go ?_
 refine x_l fun bk14 w15 ebk14 sbk14 B16 u17 => ?_
 refine x_c func219 rfl rfl (hw1_t 1 100 30 _ _ _ B16 (by omega)) ?_
 rintro _ w20 ⟨rfl, u21⟩ zu21
 refine go ?_
 refine x_l fun bk24 w25 ebk24 sbk24 B26 u27 => ?_
 refine x_c func219 rfl rfl (hw1_t 0 10000 100 _ _ _ B26 (by omega)) ?_
 rintro _ w30 ⟨rfl, u31⟩ zu31
 refine go ?_
 refine x_l fun bk34 w35 ebk34 sbk34 B36 u37 => ?_
 refine x_c func219 rfl rfl (hw1_t 1 100000 50 _ _ _ B36 (by omega)) ?_
 rintro _ w40 ⟨rfl, u41⟩ zu41
 refine go ?_
 refine x_c func293 rfl rfl (hcurve_c gc _ (hcv.keep (((((((E6.u.nx u10).nx u17).nx u21).nx u27).nx u31).nx u37).nx u41) (fun _ h => h))) ?_
 rintro _ w45 ⟨rfl, u46⟩ zu46
 refine go ?_
 refine f_1 results266 ?_
 exact ⟨rfl, u_d⟩

set_option maxHeartbeats 4000000 in
theorem hopen_c (gs gc gh : Nat) (w0 : World) (hse : Sl encSx 5 w0 (some ⟨gs, 0, none⟩) gs 0 [⟨gc, gh⟩, ⟨gc, gh⟩]) (hcv : Sl encRt 2 w0 (some ⟨gc, 0, none⟩) gc 0 hvC) (hhd : Sl encRt 2 w0 (some ⟨gh, 0, none⟩) gh 0 hvH) :
    CallsV Tryz.prog 218 [.agg #[.int .i64 100, .slice (some ⟨gs, 0, none⟩) 2 2]] w0 (fun v w' => (∃ p ah g ch, v = .tuple #[.pointer (some ⟨p, 0, none⟩), .int .i64 0] ∧ w0.heap.size ≤ p ∧ Blk w' p 376 [.int .i64 100, .slice (some ⟨gs, 0, none⟩) 2 2, .slice ah 2 ch, .int .i64 60, .int .i64 200, .int .i64 0, .int .i64 100, .int .i64 300] ∧ Sl encRt 2 w' ah g 0 hlC ∧ w0.heap.size ≤ g) ∧ Ext w0 w') := by
 have hgc9 := hcv.lt (by decide)
 have hgh9 := hhd.lt (by decide)
 have hgs9 := hse.lt (by simp)
 refine f_n func218 ?_
 refine go ?_
 refine x_b fun bk2 w3 ebk2 sbk2 B4 u5 => ?_
 refine go ?_
 refine x_b fun bk8 w9 ebk8 sbk8 B10 u11 => ?_
 refine go ?_
 refine x_l fun bk15 w16 ebk15 sbk15 B17 u18 => ?_
 refine x_c func219 rfl rfl (hw1_t 1 1000 100 _ _ _ B17 (by omega)) ?_
 rintro _ w21 ⟨rfl, u22⟩ zu22
 refine go ?_
 refine x_l fun bk25 w26 ebk25 sbk25 B27 u28 => ?_
 refine x_c func219 rfl rfl (hw1_t 1 6 2 _ _ _ B27 (by omega)) ?_
 rintro _ w31 ⟨rfl, u32⟩ zu32
 have E34 := Sc.mk (((((((Upd.refl (fun _ => False) w0).nx u5).nx u11).nx u18).nx u22).nx u28).nx u32)
 refine go ?_
 refine c_rounds 3 (WR.weak [(1, .pointer (some ⟨bk2, 0, none⟩)), (4, .pointer (some ⟨bk8, 0, none⟩)), (5, .int .i64 0), (30, .slice (some ⟨gs, 0, none⟩) 2 2), (31, .int .i64 2), (32, .int .i64 0)] ⟨rfl, rfl, rfl, rfl, rfl, rfl, trivial⟩ (r_round fun K38 hK38 => (q_of ?_)))
 refine go ?_
 have i43 : 0 < ([⟨gc, gh⟩, ⟨gc, gh⟩] : List Sx).length := (by simp)
 refine g_i 0 (hse.keep E34.u (fun _ h => h)) (fun _ => ?_)
 refine st1 ?_
 refine t_same 35 (v := .agg #[.int .i64 30, .int .i64 100, .int .i64 50, .slice (some ⟨gc, 0, none⟩) 3 3, .slice (some ⟨gh, 0, none⟩) 1 1]) rfl rfl ?_
 refine x_n fun bk44 w45 ebk44 sbk44 B46 u47 => ?_
 refine x_s fun w49 sw49 B51 u50 => ?_
 have E52 := Sc.mk ((E34.u.nx u47).next u50 (fun i hi h => by omega))
 refine go ?_
 refine x_c func266 rfl rfl (hsec_c gc gh _ (hcv.keep E52.u (fun _ h => h)) (hhd.keep E52.u (fun _ h => h))) ?_
 rintro _ w56 ⟨rfl, u57⟩ zu57
 refine go ?_
 refine c_drawnM follows (fun i => i = bk8) (OTl [0, 2, 4, 8, 10, 7, 12, 14, 16, 19]) (by kernel_rfl) fun w61 u62 => ?_
 have zu62 := u62.size
 refine go ?_
 refine x_s fun w64 sw64 B66 u65 => ?_
 refine go ?_
 refine c_drawnM follows (fun i => i = bk8) (OTl [0, 2, 4, 8, 10, 7, 12, 14, 16, 19]) (by kernel_rfl) fun w69 u70 => ?_
 have zu70 := u70.size
 refine go ?_
 refine x_s fun w72 sw72 B74 u73 => ?_
 refine go ?_
 refine c_drawnM follows (fun i => i = bk8) (OTl [0, 2, 4, 8, 10, 7, 12, 14, 16, 19]) (by kernel_rfl) fun w77 u78 => ?_
 have zu78 := u78.size
 refine go ?_
 refine x_s fun w80 sw80 B82 u81 => ?_
 refine go ?_
 refine c_drawnM follows (fun i => i = bk8) (OTl [0, 2, 4, 6, 10, 12, 14, 16, 18, 20, 22, 24, 26, 9, 28, 30, 32, 35]) (by kernel_rfl) fun w85 u86 => ?_
 have zu86 := u86.size
 have E87 := Sc.mk ((((((((E52.u.nx u57).nx u62).next u65 (fun i hi h => by omega)).nx u70).next u73 (fun i hi h => by omega)).nx u78).next u81 (fun i hi h => by omega)).nx u86)
 refine go ?_
 have i88 : 2 < hvC.length := (by decide)
 refine y_i 2 (hcv.keep E87.u (fun _ h => h)) (fun _ => ?_)
 iterate 2 refine st1 ?_
 refine y_same 79 (v := .int .i64 300) rfl rfl ?_
 refine go ?_
 refine y_min rfl rfl rfl rfl (y_same 80 (v := .int .i64 300) rfl rfl ?_)
 refine go ?_
 refine x_s fun w89 sw89 B91 u90 => ?_
 have E92 := Sc.mk (E87.u.next u90 (fun i hi h => by omega))
 refine go ?_
 refine hK38 _ _ (WR.weak [(1, .pointer (some ⟨bk2, 0, none⟩)), (4, .pointer (some ⟨bk8, 0, none⟩)), (5, .int .i64 1), (30, .slice (some ⟨gs, 0, none⟩) 2 2), (31, .int .i64 2), (32, .int .i64 1)] ⟨rfl, rfl, rfl, rfl, rfl, rfl, trivial⟩ (r_round fun K93 hK93 => (q_of ?_)))
 refine go ?_
 have i98 : 1 < ([⟨gc, gh⟩, ⟨gc, gh⟩] : List Sx).length := (by simp)
 refine g_i 1 (hse.keep E92.u (fun _ h => h)) (fun _ => ?_)
 refine st1 ?_
 refine t_same 35 (v := .agg #[.int .i64 30, .int .i64 100, .int .i64 50, .slice (some ⟨gc, 0, none⟩) 3 3, .slice (some ⟨gh, 0, none⟩) 1 1]) rfl rfl ?_
 refine x_n fun bk99 w100 ebk99 sbk99 B101 u102 => ?_
 refine x_s fun w104 sw104 B106 u105 => ?_
 have E107 := Sc.mk ((E92.u.nx u102).next u105 (fun i hi h => by omega))
 refine go ?_
 refine x_c func266 rfl rfl (hsec_c gc gh _ (hcv.keep E107.u (fun _ h => h)) (hhd.keep E107.u (fun _ h => h))) ?_
 rintro _ w111 ⟨rfl, u112⟩ zu112
 refine go ?_
 refine c_drawnM follows (fun i => i = bk8) (OTl [0, 2, 4, 8, 10, 7, 12, 14, 16, 19]) (by kernel_rfl) fun w116 u117 => ?_
 have zu117 := u117.size
 refine go ?_
 refine x_s fun w119 sw119 B121 u120 => ?_
 refine go ?_
 refine c_drawnM follows (fun i => i = bk8) (OTl [0, 2, 4, 8, 10, 7, 12, 14, 16, 19]) (by kernel_rfl) fun w124 u125 => ?_
 have zu125 := u125.size
 refine go ?_
 refine x_s fun w127 sw127 B129 u128 => ?_
 refine go ?_
 refine c_drawnM follows (fun i => i = bk8) (OTl [0, 2, 4, 8, 10, 7, 12, 14, 16, 19]) (by kernel_rfl) fun w132 u133 => ?_
 have zu133 := u133.size
 refine go ?_
 refine x_s fun w135 sw135 B137 u136 => ?_
 refine go ?_
 refine c_drawnM follows (fun i => i = bk8) (OTl [0, 2, 4, 6, 10, 12, 14, 16, 18, 20, 22, 24, 26, 9, 28, 30, 32, 35]) (by kernel_rfl) fun w140 u141 => ?_
 have zu141 := u141.size
 have E142 := Sc.mk ((((((((E107.u.nx u112).nx u117).next u120 (fun i hi h => by omega)).nx u125).next u128 (fun i hi h => by omega)).nx u133).next u136 (fun i hi h => by omega)).nx u141)
 refine go ?_
 have i143 : 2 < hvC.length := (by decide)
 refine y_i 2 (hcv.keep E142.u (fun _ h => h)) (fun _ => ?_)
 iterate 2 refine st1 ?_
 refine y_same 79 (v := .int .i64 300) rfl rfl ?_
 refine go ?_
 refine y_min rfl rfl rfl rfl (y_same 80 (v := .int .i64 300) rfl rfl ?_)
 refine go ?_
 refine x_s fun w144 sw144 B146 u145 => ?_
 have E147 := Sc.mk (E142.u.next u145 (fun i hi h => by omega))
 refine go ?_
 refine hK93 _ _ (WR.weak [(1, .pointer (some ⟨bk2, 0, none⟩)), (4, .pointer (some ⟨bk8, 0, none⟩)), (5, .int .i64 2), (30, .slice (some ⟨gs, 0, none⟩) 2 2), (31, .int .i64 2), (32, .int .i64 2)] ⟨rfl, rfl, rfl, rfl, rfl, rfl, trivial⟩ (r_round fun K148 hK148 => (q_of ?_)))
 refine go ?_
 refine c_rounds 3 (WR.weak [(4, .pointer (some ⟨bk8, 0, none⟩)), (8, .int .i64 0), (99, .slice (some ⟨gs, 0, none⟩) 2 2), (100, .int .i64 2), (101, .int .i64 0)] ⟨rfl, rfl, rfl, rfl, rfl, trivial⟩ (r_round fun K156 hK156 => (q_of ?_)))
 refine go ?_
 have i161 : 0 < ([⟨gc, gh⟩, ⟨gc, gh⟩] : List Sx).length := (by simp)
 refine g_i 0 (hse.keep E147.u (fun _ h => h)) (fun _ => ?_)
 refine st1 ?_
 refine t_same 104 (v := .agg #[.int .i64 30, .int .i64 100, .int .i64 50, .slice (some ⟨gc, 0, none⟩) 3 3, .slice (some ⟨gh, 0, none⟩) 1 1]) rfl rfl ?_
 refine x_n fun bk162 w163 ebk162 sbk162 B164 u165 => ?_
 refine x_s fun w167 sw167 B169 u168 => ?_
 iterate 2 refine st1 ?_
 refine x_k1 (fun i => i = bk8) [4, 8, 10, 99, 100, 101] (fun (_x : Unit) => []) (fun _x w => Blk w bk8 376 [.int .i64 100, .slice (some ⟨gs, 0, none⟩) 2 2, .slice none 0 0, .int .i64 60, .int .i64 200, .int .i64 (-3000), .int .i64 100, .int .i64 300]) (fun K175 hK175 => ?_) ?_
 ·
  refine c_drawnM follows (fun i => i = bk8) (.look 0 (.look 1 (.look 2 (.look 4 (.look 5 (.look 6 (.look 7 (.look 8 (.look 9 (.look 10 (.look 11 (.look 12 (.look 13 (.act 3 (.act 14 (.look 15 (.look 16 (.look 17 (.look 18 (.look 19 (.act 20 .done .stop)))))) .stop) (.act 14 (.look 15 (.look 16 (.act 3 (.look 17 (.look 18 (.look 19 (.act 20 .done .stop)))) .stop))) .stop))))))))))))))) (by kernel_rfl) fun w178 u179 => ?_
  have zu179 := u179.size
  refine go ?_
  refine s_or ?_ ?_
  ·
   iterate 9 refine st1 ?_
   refine y_same 122 (v := .int .i64 (-3000)) rfl rfl ?_
   refine go ?_
   refine x_s fun w181 sw181 B183 u182 => ?_
   refine go ?_
   exact hK175 () B183
  iterate 9 refine st1 ?_
  refine y_same 122 (v := .int .i64 (-3000)) rfl rfl ?_
  refine go ?_
  refine x_s fun w185 sw185 B187 u186 => ?_
  refine go ?_
  exact hK175 () B187
 rintro _x w176 I189 u177 zu177
 have E190 := Sc.mk (((E147.u.nx u165).next u168 (fun i hi h => by omega)).next u177 (fun i hi h => by omega))
 refine go ?_
 refine c_rounds 2 (WR.weak [(4, .pointer (some ⟨bk8, 0, none⟩)), (8, .int .i64 0), (10, .pointer (some ⟨bk162, 0, none⟩)), (99, .slice (some ⟨gs, 0, none⟩) 2 2), (100, .int .i64 2), (101, .int .i64 0), (126, .slice (some ⟨gh, 0, none⟩) 1 1), (127, .int .i64 1), (128, .int .i64 0)] ⟨rfl, rfl, rfl, rfl, rfl, rfl, rfl, rfl, rfl, trivial⟩ (r_round fun K193 hK193 => (q_of ?_)))
 iterate 9 refine st1 ?_
 refine x_k3 (fun i => i = bk8 ∨ (i = 0 ∧ w176.heap.size ≤ i)) [4, 8, 10, 99, 100, 101, 126, 127, 128] (fun (aq0 : Option Addr) (gq0 : Nat) (cq0 : Nat) => []) (fun aq0 gq0 cq0 w => Blk w bk8 376 [.int .i64 100, .slice (some ⟨gs, 0, none⟩) 2 2, .slice aq0 1 cq0, .int .i64 60, .int .i64 200, .int .i64 (-3000), .int .i64 100, .int .i64 300] ∧ (Acc encRt 2 378 w176.heap.size w aq0 gq0 cq0 ([⟨-30, 4⟩] : List Bnd2))) (fun K200 hK200 => ?_) ?_
 ·
  refine go ?_
  have i204 : 0 < hvH.length := (by decide)
  refine g_i 0 (hhd.keep E190.u (fun _ h => h)) (fun _ => ?_)
  refine st1 ?_
  refine t_same 131 (v := .agg #[.int .i64 15, .int .i64 4]) rfl rfl ?_
  refine x_n fun bk205 w206 ebk205 sbk205 B207 u208 => ?_
  refine x_s fun w210 sw210 B212 u211 => ?_
  refine go ?_
  refine c_drawnM follows (fun i => (i = 0 ∧ w176.heap.size ≤ i) ∨ i = bk8) (.look 0 (.look 1 (.look 2 (.look 3 (.look 5 (.look 6 (.look 7 (.look 8 (.look 9 (.look 10 (.look 11 (.look 12 (.look 15 (.look 16 (.act 4 (.act 13 (.look 14 (.look 17 (.act 18 (.act 19 (.look 20 (.look 21 (.act 22 .done .stop))) .stop) .stop))) .stop) (.act 13 (.look 14 (.look 17 (.act 4 (.act 18 (.act 19 (.look 20 (.look 21 (.act 22 .done .stop))) .stop) .stop) (.act 18 (.act 4 (.act 19 (.look 20 (.look 21 (.act 22 .done .stop))) .stop) .stop) .stop)))) .stop)))))))))))))))) (by kernel_rfl) fun w214 u215 => ?_
  have zu215 := u215.size
  refine go ?_
  refine s_or ?_ ?_
  ·
   iterate 7 refine st1 ?_
   refine y_same 146 (v := .int .i64 (-30)) rfl rfl ?_
   refine go ?_
   refine x_l fun bk217 w218 ebk217 sbk217 B219 u220 => ?_
   refine go ?_
   have hnil := Acc.nil (α := Bnd2) encRt 2 378 w176.heap.size w218 (by omega) (by omega)
   refine t_append (z := .agg #[.int .i64 0, .int .i64 0]) (bytes := 16) (k := 2) (base := w176.heap.size) (⟨-30, 4⟩ : Bnd2) underlying374 (by kernel_rfl) rfl (by decide) (fun _ => rfl) (by intro x; simp [encRt, Value.oneCell']) rfl rfl rfl rfl hnil B219 (by omega) (by decide) (by decide) (fun ao222 gb223 cp224 w225 A226 u227 gegb223 lngb223 => ?_)
   have zu227 := u227.size
   have lt_gb223 := A226.lt
   refine go ?_
   refine x_s fun w229 sw229 B231 u230 => ?_
   refine go ?_
   have D233 := (A226.keep u230 (fun hb => show ¬ (gb223 = bk8) by first | omega | assumption))
   exact hK200 ao222 gb223 cp224 ⟨B231, D233⟩
  iterate 4 refine st1 ?_
  refine y_same 146 (v := .int .i64 (-30)) rfl rfl ?_
  refine go ?_
  refine s_or ?_ ?_
  ·
   refine go ?_
   refine x_l fun bk234 w235 ebk234 sbk234 B236 u237 => ?_
   refine go ?_
   have hnil := Acc.nil (α := Bnd2) encRt 2 378 w176.heap.size w235 (by omega) (by omega)
   refine t_append (z := .agg #[.int .i64 0, .int .i64 0]) (bytes := 16) (k := 2) (base := w176.heap.size) (⟨-30, 4⟩ : Bnd2) underlying374 (by kernel_rfl) rfl (by decide) (fun _ => rfl) (by intro x; simp [encRt, Value.oneCell']) rfl rfl rfl rfl hnil B236 (by omega) (by decide) (by decide) (fun ao239 gb240 cp241 w242 A243 u244 gegb240 lngb240 => ?_)
   have zu244 := u244.size
   have lt_gb240 := A243.lt
   refine go ?_
   refine x_s fun w246 sw246 B248 u247 => ?_
   refine go ?_
   have D250 := (A243.keep u247 (fun hb => show ¬ (gb240 = bk8) by first | omega | assumption))
   exact hK200 ao239 gb240 cp241 ⟨B248, D250⟩
  refine go ?_
  refine x_l fun bk251 w252 ebk251 sbk251 B253 u254 => ?_
  refine go ?_
  have hnil := Acc.nil (α := Bnd2) encRt 2 378 w176.heap.size w252 (by omega) (by omega)
  refine t_append (z := .agg #[.int .i64 0, .int .i64 0]) (bytes := 16) (k := 2) (base := w176.heap.size) (⟨-30, 4⟩ : Bnd2) underlying374 (by kernel_rfl) rfl (by decide) (fun _ => rfl) (by intro x; simp [encRt, Value.oneCell']) rfl rfl rfl rfl hnil B253 (by omega) (by decide) (by decide) (fun ao256 gb257 cp258 w259 A260 u261 gegb257 lngb257 => ?_)
  have zu261 := u261.size
  have lt_gb257 := A260.lt
  refine go ?_
  refine x_s fun w263 sw263 B265 u264 => ?_
  refine go ?_
  have D267 := (A260.keep u264 (fun hb => show ¬ (gb257 = bk8) by first | omega | assumption))
  exact hK200 ao256 gb257 cp258 ⟨B265, D267⟩
 rintro aq0 gq0 cq0 w201 ⟨I268, hac0⟩ u202 zu202
 have E269 := Sc.mk (E190.u.next u202 (fun i hi h => by omega))
 have lt_gq0 := hac0.lt
 refine go ?_
 refine hK193 _ _ (WR.weak [(4, .pointer (some ⟨bk8, 0, none⟩)), (8, .int .i64 0), (10, .pointer (some ⟨bk162, 0, none⟩)), (99, .slice (some ⟨gs, 0, none⟩) 2 2), (100, .int .i64 2), (101, .int .i64 0), (126, .slice (some ⟨gh, 0, none⟩) 1 1), (127, .int .i64 1), (128, .int .i64 1)] ⟨rfl, rfl, rfl, rfl, rfl, rfl, rfl, rfl, rfl, trivial⟩ (r_round fun K270 hK270 => (q_of ?_)))
 refine go ?_
 refine hK156 _ _ (WR.weak [(4, .pointer (some ⟨bk8, 0, none⟩)), (8, .int .i64 30), (99, .slice (some ⟨gs, 0, none⟩) 2 2), (100, .int .i64 2), (101, .int .i64 1)] ⟨rfl, rfl, rfl, rfl, rfl, trivial⟩ (r_round fun K273 hK273 => (q_of ?_)))
 refine go ?_
 have i278 : 1 < ([⟨gc, gh⟩, ⟨gc, gh⟩] : List Sx).length := (by simp)
 refine g_i 1 (hse.keep E269.u (fun _ h => h)) (fun _ => ?_)
 refine st1 ?_
 refine t_same 104 (v := .agg #[.int .i64 30, .int .i64 100, .int .i64 50, .slice (some ⟨gc, 0, none⟩) 3 3, .slice (some ⟨gh, 0, none⟩) 1 1]) rfl rfl ?_
 refine x_n fun bk279 w280 ebk279 sbk279 B281 u282 => ?_
 refine x_s fun w284 sw284 B286 u285 => ?_
 iterate 2 refine st1 ?_
 refine x_k1 (fun i => i = bk8) [4, 8, 10, 99, 100, 101] (fun (_x : Unit) => []) (fun _x w => Blk w bk8 376 [.int .i64 100, .slice (some ⟨gs, 0, none⟩) 2 2, .slice aq0 1 cq0, .int .i64 60, .int .i64 200, .int .i64 0, .int .i64 100, .int .i64 300]) (fun K292 hK292 => ?_) ?_
 ·
  refine c_drawnM follows (fun i => i = bk8) (.look 0 (.look 1 (.look 2 (.look 4 (.look 5 (.look 6 (.look 7 (.look 8 (.look 9 (.look 10 (.look 11 (.look 12 (.look 13 (.act 3 (.act 14 (.look 15 (.look 16 (.look 17 (.look 18 (.look 19 (.act 20 .done .stop)))))) .stop) (.act 14 (.look 15 (.look 16 (.act 3 (.look 17 (.look 18 (.look 19 (.act 20 .done .stop)))) .stop))) .stop))))))))))))))) (by kernel_rfl) fun w295 u296 => ?_
  have zu296 := u296.size
  refine go ?_
  refine s_or ?_ ?_
  ·
   iterate 9 refine st1 ?_
   refine y_same 122 (v := .int .i64 0) rfl rfl ?_
   refine go ?_
   refine x_s fun w298 sw298 B300 u299 => ?_
   refine go ?_
   exact hK292 () B300
  iterate 9 refine st1 ?_
  refine y_same 122 (v := .int .i64 0) rfl rfl ?_
  refine go ?_
  refine x_s fun w302 sw302 B304 u303 => ?_
  refine go ?_
  exact hK292 () B304
 rintro _x w293 I306 u294 zu294
 refine go ?_
 refine c_rounds 2 (WR.weak [(4, .pointer (some ⟨bk8, 0, none⟩)), (8, .int .i64 30), (10, .pointer (some ⟨bk279, 0, none⟩)), (99, .slice (some ⟨gs, 0, none⟩) 2 2), (100, .int .i64 2), (101, .int .i64 1), (126, .slice (some ⟨gh, 0, none⟩) 1 1), (127, .int .i64 1), (128, .int .i64 0)] ⟨rfl, rfl, rfl, rfl, rfl, rfl, rfl, rfl, rfl, trivial⟩ (r_round fun K310 hK310 => (q_of ?_)))
 iterate 9 refine st1 ?_
 refine x_k3 (fun i => i = bk8 ∨ (i = gq0 ∧ w176.heap.size ≤ i)) [4, 8, 10, 99, 100, 101, 126, 127, 128] (fun (aq1 : Option Addr) (gq1 : Nat) (cq1 : Nat) => []) (fun aq1 gq1 cq1 w => Blk w bk8 376 [.int .i64 100, .slice (some ⟨gs, 0, none⟩) 2 2, .slice aq1 2 cq1, .int .i64 60, .int .i64 200, .int .i64 0, .int .i64 100, .int .i64 300] ∧ (Acc encRt 2 378 w176.heap.size w aq1 gq1 cq1 hlC)) (fun K317 hK317 => ?_) ?_
 ·
  refine go ?_
  have i321 : 0 < hvH.length := (by decide)
  refine g_i 0 (hhd.keep (((E269.u.nx u282).next u285 (fun i hi h => by omega)).next u294 (fun i hi h => by omega)) (fun _ h => h)) (fun _ => ?_)
  refine st1 ?_
  refine t_same 131 (v := .agg #[.int .i64 15, .int .i64 4]) rfl rfl ?_
  refine x_n fun bk322 w323 ebk322 sbk322 B324 u325 => ?_
  refine x_s fun w327 sw327 B329 u328 => ?_
  refine go ?_
  refine c_drawnM follows (fun i => (i = gq0 ∧ w176.heap.size ≤ i) ∨ i = bk8) (.look 0 (.look 1 (.look 2 (.look 3 (.look 5 (.look 6 (.look 7 (.look 8 (.look 9 (.look 10 (.look 11 (.look 12 (.look 15 (.look 16 (.act 4 (.act 13 (.look 14 (.look 17 (.act 18 (.act 19 (.look 20 (.look 21 (.act 22 .done .stop))) .stop) .stop))) .stop) (.act 13 (.look 14 (.look 17 (.act 4 (.act 18 (.act 19 (.look 20 (.look 21 (.act 22 .done .stop))) .stop) .stop) (.act 18 (.act 4 (.act 19 (.look 20 (.look 21 (.act 22 .done .stop))) .stop) .stop) .stop)))) .stop)))))))))))))))) (by kernel_rfl) fun w331 u332 => ?_
  have zu332 := u332.size
  refine go ?_
  refine s_or ?_ ?_
  ·
   iterate 7 refine st1 ?_
   refine y_same 146 (v := .int .i64 30) rfl rfl ?_
   refine go ?_
   refine x_l fun bk334 w335 ebk334 sbk334 B336 u337 => ?_
   refine go ?_
   have D339 := (((((((hac0.keep u282 (fun _ h => h)).keep u285 (fun hb => show ¬ (gq0 = bk279) by first | omega | assumption)).keep u294 (fun hb => show ¬ (gq0 = bk8) by first | omega | assumption)).keep u325 (fun _ h => h)).keep u328 (fun hb => show ¬ (gq0 = bk322) by first | omega | assumption)).keep u332 (fun _ h => h)).keep u337 (fun _ h => h))
   refine t_append (z := .agg #[.int .i64 0, .int .i64 0]) (bytes := 16) (k := 2) (base := w176.heap.size) (⟨30, 4⟩ : Bnd2) underlying374 (by kernel_rfl) rfl (by decide) (fun _ => rfl) (by intro x; simp [encRt, Value.oneCell']) rfl rfl rfl rfl D339 B336 (by omega) (by decide) (by decide) (fun ao340 gb341 cp342 w343 A344 u345 gegb341 lngb341 => ?_)
   have zu345 := u345.size
   have lt_gb341 := A344.lt
   refine go ?_
   refine x_s fun w347 sw347 B349 u348 => ?_
   refine go ?_
   have D351 := (A344.keep u348 (fun hb => show ¬ (gb341 = bk8) by first | omega | assumption))
   exact hK317 ao340 gb341 cp342 ⟨B349, D351⟩
  iterate 4 refine st1 ?_
  refine y_same 146 (v := .int .i64 30) rfl rfl ?_
  refine go ?_
  refine s_or ?_ ?_
  ·
   refine go ?_
   refine x_l fun bk352 w353 ebk352 sbk352 B354 u355 => ?_
   refine go ?_
   have D357 := (((((((hac0.keep u282 (fun _ h => h)).keep u285 (fun hb => show ¬ (gq0 = bk279) by first | omega | assumption)).keep u294 (fun hb => show ¬ (gq0 = bk8) by first | omega | assumption)).keep u325 (fun _ h => h)).keep u328 (fun hb => show ¬ (gq0 = bk322) by first | omega | assumption)).keep u332 (fun _ h => h)).keep u355 (fun _ h => h))
   refine t_append (z := .agg #[.int .i64 0, .int .i64 0]) (bytes := 16) (k := 2) (base := w176.heap.size) (⟨30, 4⟩ : Bnd2) underlying374 (by kernel_rfl) rfl (by decide) (fun _ => rfl) (by intro x; simp [encRt, Value.oneCell']) rfl rfl rfl rfl D357 B354 (by omega) (by decide) (by decide) (fun ao358 gb359 cp360 w361 A362 u363 gegb359 lngb359 => ?_)
   have zu363 := u363.size
   have lt_gb359 := A362.lt
   refine go ?_
   refine x_s fun w365 sw365 B367 u366 => ?_
   refine go ?_
   have D369 := (A362.keep u366 (fun hb => show ¬ (gb359 = bk8) by first | omega | assumption))
   exact hK317 ao358 gb359 cp360 ⟨B367, D369⟩
  refine go ?_
  refine x_l fun bk370 w371 ebk370 sbk370 B372 u373 => ?_
  refine go ?_
  have D375 := (((((((hac0.keep u282 (fun _ h => h)).keep u285 (fun hb => show ¬ (gq0 = bk279) by first | omega | assumption)).keep u294 (fun hb => show ¬ (gq0 = bk8) by first | omega | assumption)).keep u325 (fun _ h => h)).keep u328 (fun hb => show ¬ (gq0 = bk322) by first | omega | assumption)).keep u332 (fun _ h => h)).keep u373 (fun _ h => h))
  refine t_append (z := .agg #[.int .i64 0, .int .i64 0]) (bytes := 16) (k := 2) (base := w176.heap.size) (⟨30, 4⟩ : Bnd2) underlying374 (by kernel_rfl) rfl (by decide) (fun _ => rfl) (by intro x; simp [encRt, Value.oneCell']) rfl rfl rfl rfl D375 B372 (by omega) (by decide) (by decide) (fun ao376 gb377 cp378 w379 A380 u381 gegb377 lngb377 => ?_)
  have zu381 := u381.size
  have lt_gb377 := A380.lt
  refine go ?_
  refine x_s fun w383 sw383 B385 u384 => ?_
  refine go ?_
  have D387 := (A380.keep u384 (fun hb => show ¬ (gb377 = bk8) by first | omega | assumption))
  exact hK317 ao376 gb377 cp378 ⟨B385, D387⟩
 rintro aq1 gq1 cq1 w318 ⟨I388, hac1⟩ u319 zu319
 have lt_gq1 := hac1.lt
 refine go ?_
 refine hK310 _ _ (WR.weak [(4, .pointer (some ⟨bk8, 0, none⟩)), (8, .int .i64 30), (10, .pointer (some ⟨bk279, 0, none⟩)), (99, .slice (some ⟨gs, 0, none⟩) 2 2), (100, .int .i64 2), (101, .int .i64 1), (126, .slice (some ⟨gh, 0, none⟩) 1 1), (127, .int .i64 1), (128, .int .i64 1)] ⟨rfl, rfl, rfl, rfl, rfl, rfl, rfl, rfl, rfl, trivial⟩ (r_round fun K390 hK390 => (q_of ?_)))
 refine go ?_
 refine hK273 _ _ (WR.weak [(4, .pointer (some ⟨bk8, 0, none⟩)), (8, .int .i64 60), (99, .slice (some ⟨gs, 0, none⟩) 2 2), (100, .int .i64 2), (101, .int .i64 2)] ⟨rfl, rfl, rfl, rfl, rfl, trivial⟩ (r_round fun K393 hK393 => (q_of ?_)))
 refine go ?_
 refine f_ret2 (v1 := .pointer (some ⟨bk8, 0, none⟩)) (v2 := .int .i64 0) results218 rfl rfl ?_
 have hA9 : Acc encRt 2 378 w176.heap.size w318 aq1 gq1 cq1 hlC := hac1
 have hge9 := hA9.ge (by decide)
 exact ⟨⟨bk8, aq1, gq1, cq1, rfl, by omega, I388, hA9.sl (fun _ => rfl), by omega⟩, u_d⟩

theorem hvol1_c (i : Nat) (d : Int) (gc gh p q : Nat) (w0 : World) (hi : i < 2) (hcv : Sl encRt 2 w0 (some ⟨gc, 0, none⟩) gc 0 hvC) (hp : Blk w0 p 241 [.int .i64 30, .int .i64 100, .int .i64 50, .slice (some ⟨gc, 0, none⟩) 3 3, .slice (some ⟨gh, 0, none⟩) 1 1]) (hq : Blk w0 q 3 [.int .i64 d]) :
    CallsV Tryz.prog 301 [.int .i64 (i : Int), .pointer (some ⟨p, 0, none⟩), .pointer (some ⟨q, 0, none⟩)] w0 (fun v w' => v = .bool (decide (d ≤ (nth hvC (i + 1)).lo)) ∧ Ext w0 w') := by
 refine f_n func301 ?_
 refine go ?_
 refine c_drawnM follows (fun _ => False) (OTl [0, 2, 4, 6, 8, 10, 12, 14, 16, 18]) (by kernel_rfl) fun w3 u4 => ?_
 have zu4 := u4.size
 refine go ?_
 have i6 : (i + 1) < hvC.length := (show i + 1 < 3 by omega)
 refine y_i (i + 1) (hcv.keep ((Upd.refl (fun _ => False) w0).nx u4) (fun _ h => h)) (fun _ => ?_) (hj := (by omega))
 refine go ?_
 refine f_1 results301 ?_
 exact ⟨rfl, u_d⟩

theorem volS0_c (d : Int) (gc gh p q : Nat) (w0 : World) (hd : 0 ≤ d ∧ d ≤ 100) (hcv : Sl encRt 2 w0 (some ⟨gc, 0, none⟩) gc 0 hvC) (hp : Blk w0 p 241 [.int .i64 30, .int .i64 100, .int .i64 50, .slice (some ⟨gc, 0, none⟩) 3 3, .slice (some ⟨gh, 0, none⟩) 1 1]) (hq : Blk w0 q 3 [.int .i64 d]) :
    CallsV Tryz.prog 275 [.int .i64 2, .func (.func 301) #[] #[.pointer (some ⟨p, 0, none⟩), .pointer (some ⟨q, 0, none⟩)]] w0 (fun v w' => v = .int .i64 0 ∧ Ext w0 w') :=
  (search_c 2 (fun x => decide (d ≤ (nth hvC (x + 1).toNat).lo)) 301 [.pointer (some ⟨p, 0, none⟩), .pointer (some ⟨q, 0, none⟩)] w0 (by decide) own301 (fun x hx W u => by
    obtain ⟨i, rfl⟩ : ∃ i : Nat, x = (i : Int) := ⟨x.toNat, by omega⟩
    exact hvol1_c i d gc gh p q W (by omega) (hcv.keep u (fun _ h => h)) (hp.keep u (fun h => h)) (hq.keep u (fun h => h)))).mono fun v w' ⟨⟨r, e, h0, h1, h2, h3⟩, u⟩ => ⟨by rw [e, vol_r0 hd h0 h1 h2], u⟩

theorem hvol_c0 (d : Int) (gc gh : Nat) (w0 : World) (hd : 0 ≤ d ∧ d ≤ 100) (hcv : Sl encRt 2 w0 (some ⟨gc, 0, none⟩) gc 0 hvC) :
    CallsV Tryz.prog 300 [.agg #[.int .i64 30, .int .i64 100, .int .i64 50, .slice (some ⟨gc, 0, none⟩) 3 3, .slice (some ⟨gh, 0, none⟩) 1 1], .int .i64 d] w0 (fun v w' => v = .int .i64 (3 * d) ∧ Ext w0 w') := by
 refine f_n func300 ?_
 refine go ?_
 refine x_b fun bk2 w3 ebk2 sbk2 B4 u5 => ?_
 refine x_b fun bk7 w8 ebk7 sbk7 B9 u10 => ?_
 have E11 := Sc.mk (((Upd.refl (fun _ => False) w0).nx u5).nx u10)
 refine go ?_
 refine t_mkfunc (vs := []) (us := [.pointer (some ⟨bk2, 0, none⟩), .pointer (some ⟨bk7, 0, none⟩)]) rfl rfl rfl rfl ?_
 have B13 := (B4.kx u10)
 refine x_c func275 rfl rfl (volS0_c d gc gh bk2 bk7 _ hd (hcv.keep E11.u (fun _ h => h)) B13 B9) ?_
 rintro _ w15 ⟨rfl, u16⟩ zu16
 refine go ?_
 refine c_drawnM follows (fun _ => False) (.look 0 (.look 1 (.look 2 (.look 3 (.look 4 (.look 5 (.look 6 (.look 7 (.look 8 (.look 9 (.look 10 (.act 11 (.act 12 (.act 13 (.act 14 .done .stop) .stop) .stop) (.act 12 (.act 11 (.act 13 (.act 14 .done .stop) .stop) .stop) .stop))))))))))))) (by kernel_rfl) fun w20 u21 => ?_
 have zu21 := u21.size
 have E22 := Sc.mk ((E11.u.nx u16).nx u21)
 refine go ?_
 have i23 : 0 < hvC.length := (by decide)
 refine y_i 0 (hcv.keep E22.u (fun _ h => h)) (fun _ => ?_)
 refine st1 ?_
 refine y_same 18 (v := .agg #[.int .i64 0, .int .i64 0]) rfl rfl ?_
 refine go ?_
 have i24 : 1 < hvC.length := (by decide)
 refine y_i 1 (hcv.keep E22.u (fun _ h => h)) (fun _ => ?_)
 refine st1 ?_
 refine y_same 24 (v := .agg #[.int .i64 100, .int .i64 300]) rfl rfl (s_or ?_ ?_)
 ·
  refine go ?_
  refine x_n fun bk25 w26 ebk25 sbk25 B27 u28 => ?_
  refine go ?_
  refine x_n fun bk30 w31 ebk30 sbk30 B32 u33 => ?_
  refine go ?_
  refine x_s fun w35 sw35 B37 u36 => ?_
  refine go ?_
  refine x_s fun w39 sw39 B41 u40 => ?_
  refine go ?_
  refine c_drawnM follows (fun _ => False) (OTl [0, 2, 4, 6, 8, 10, 12, 14, 16, 18, 20, 22, 24, 26, 28, 30, 32, 34, 36, 38]) (by kernel_rfl) fun w44 u45 => ?_
  have zu45 := u45.size
  refine go ?_
  refine y_quo rfl rfl rfl rfl (by omega) (by omega) ?_
  refine go ?_
  refine f_1 results300 ?_
  exact ⟨congrArg (Value.int .i64) (by omega), u_d⟩
 refine go ?_
 refine x_n fun bk47 w48 ebk47 sbk47 B49 u50 => ?_
 refine go ?_
 refine x_n fun bk52 w53 ebk52 sbk52 B54 u55 => ?_
 refine go ?_
 refine x_s fun w57 sw57 B59 u58 => ?_
 refine go ?_
 refine x_s fun w61 sw61 B63 u62 => ?_
 refine go ?_
 refine c_drawnM follows (fun _ => False) (OTl [0, 2, 4, 6, 8, 10, 12, 14, 16, 18, 20, 22, 24, 26, 28, 30, 32, 34, 36, 38]) (by kernel_rfl) fun w66 u67 => ?_
 have zu67 := u67.size
 refine go ?_
 refine y_quo rfl rfl rfl rfl (by omega) (by omega) ?_
 refine go ?_
 refine f_1 results300 ?_
 exact ⟨congrArg (Value.int .i64) (by omega), u_d⟩

theorem volS1_c (d : Int) (gc gh p q : Nat) (w0 : World) (hd : 100 < d ∧ d ≤ 300) (hcv : Sl encRt 2 w0 (some ⟨gc, 0, none⟩) gc 0 hvC) (hp : Blk w0 p 241 [.int .i64 30, .int .i64 100, .int .i64 50, .slice (some ⟨gc, 0, none⟩) 3 3, .slice (some ⟨gh, 0, none⟩) 1 1]) (hq : Blk w0 q 3 [.int .i64 d]) :
    CallsV Tryz.prog 275 [.int .i64 2, .func (.func 301) #[] #[.pointer (some ⟨p, 0, none⟩), .pointer (some ⟨q, 0, none⟩)]] w0 (fun v w' => v = .int .i64 1 ∧ Ext w0 w') :=
  (search_c 2 (fun x => decide (d ≤ (nth hvC (x + 1).toNat).lo)) 301 [.pointer (some ⟨p, 0, none⟩), .pointer (some ⟨q, 0, none⟩)] w0 (by decide) own301 (fun x hx W u => by
    obtain ⟨i, rfl⟩ : ∃ i : Nat, x = (i : Int) := ⟨x.toNat, by omega⟩
    exact hvol1_c i d gc gh p q W (by omega) (hcv.keep u (fun _ h => h)) (hp.keep u (fun h => h)) (hq.keep u (fun h => h)))).mono fun v w' ⟨⟨r, e, h0, h1, h2, h3⟩, u⟩ => ⟨by rw [e, vol_r1 hd h0 h1 h2 h3], u⟩

theorem hvol_c1 (d : Int) (gc gh : Nat) (w0 : World) (hd : 100 < d ∧ d ≤ 300) (hcv : Sl encRt 2 w0 (some ⟨gc, 0, none⟩) gc 0 hvC) :
    CallsV Tryz.prog 300 [.agg #[.int .i64 30, .int .i64 100, .int .i64 50, .slice (some ⟨gc, 0, none⟩) 3 3, .slice (some ⟨gh, 0, none⟩) 1 1], .int .i64 d] w0 (fun v w' => v = .int .i64 (3 * d) ∧ Ext w0 w') := by
 refine f_n func300 ?_
 refine go ?_
 refine x_b fun bk2 w3 ebk2 sbk2 B4 u5 => ?_
 refine x_b fun bk7 w8 ebk7 sbk7 B9 u10 => ?_
 have E11 := Sc.mk (((Upd.refl (fun _ => False) w0).nx u5).nx u10)
 refine go ?_
 refine t_mkfunc (vs := []) (us := [.pointer (some ⟨bk2, 0, none⟩), .pointer (some ⟨bk7, 0, none⟩)]) rfl rfl rfl rfl ?_
 have B13 := (B4.kx u10)
 refine x_c func275 rfl rfl (volS1_c d gc gh bk2 bk7 _ hd (hcv.keep E11.u (fun _ h => h)) B13 B9) ?_
 rintro _ w15 ⟨rfl, u16⟩ zu16
 refine go ?_
 refine c_drawnM follows (fun _ => False) (.look 0 (.look 1 (.look 2 (.look 3 (.look 4 (.look 5 (.look 6 (.look 7 (.look 8 (.look 9 (.look 10 (.act 11 (.act 12 (.act 13 (.act 14 .done .stop) .stop) .stop) (.act 12 (.act 11 (.act 13 (.act 14 .done .stop) .stop) .stop) .stop))))))))))))) (by kernel_rfl) fun w20 u21 => ?_
 have zu21 := u21.size
 have E22 := Sc.mk ((E11.u.nx u16).nx u21)
 refine go ?_
 have i23 : 1 < hvC.length := (by decide)
 refine y_i 1 (hcv.keep E22.u (fun _ h => h)) (fun _ => ?_)
 refine st1 ?_
 refine y_same 18 (v := .agg #[.int .i64 100, .int .i64 300]) rfl rfl ?_
 refine go ?_
 have i24 : 2 < hvC.length := (by decide)
 refine y_i 2 (hcv.keep E22.u (fun _ h => h)) (fun _ => ?_)
 refine st1 ?_
 refine y_same 24 (v := .agg #[.int .i64 300, .int .i64 900]) rfl rfl (s_or ?_ ?_)
 ·
  refine go ?_
  refine x_n fun bk25 w26 ebk25 sbk25 B27 u28 => ?_
  refine go ?_
  refine x_n fun bk30 w31 ebk30 sbk30 B32 u33 => ?_
  refine go ?_
  refine x_s fun w35 sw35 B37 u36 => ?_
  refine go ?_
  refine x_s fun w39 sw39 B41 u40 => ?_
  refine go ?_
  refine c_drawnM follows (fun _ => False) (OTl [0, 2, 4, 6, 8, 10, 12, 14, 16, 18, 20, 22, 24, 26, 28, 30, 32, 34, 36, 38]) (by kernel_rfl) fun w44 u45 => ?_
  have zu45 := u45.size
  refine go ?_
  refine y_quo rfl rfl rfl rfl (by omega) (by omega) ?_
  refine go ?_
  refine f_1 results300 ?_
  exact ⟨congrArg (Value.int .i64) (by omega), u_d⟩
 refine go ?_
 refine x_n fun bk47 w48 ebk47 sbk47 B49 u50 => ?_
 refine go ?_
 refine x_n fun bk52 w53 ebk52 sbk52 B54 u55 => ?_
 refine go ?_
 refine x_s fun w57 sw57 B59 u58 => ?_
 refine go ?_
 refine x_s fun w61 sw61 B63 u62 => ?_
 refine go ?_
 refine c_drawnM follows (fun _ => False) (OTl [0, 2, 4, 6, 8, 10, 12, 14, 16, 18, 20, 22, 24, 26, 28, 30, 32, 34, 36, 38]) (by kernel_rfl) fun w66 u67 => ?_
 have zu67 := u67.size
 refine go ?_
 refine y_quo rfl rfl rfl rfl (by omega) (by omega) ?_
 refine go ?_
 refine f_1 results300 ?_
 exact ⟨congrArg (Value.int .i64) (by omega), u_d⟩

theorem hvol_c (d : Int) (gc gh : Nat) (w0 : World) (hd : 0 ≤ d ∧ d ≤ 300) (hcv : Sl encRt 2 w0 (some ⟨gc, 0, none⟩) gc 0 hvC) : CallsV Tryz.prog 300 [.agg #[.int .i64 30, .int .i64 100, .int .i64 50, .slice (some ⟨gc, 0, none⟩) 3 3, .slice (some ⟨gh, 0, none⟩) 1 1], .int .i64 d] w0 (fun v w' => v = .int .i64 (3 * d) ∧ Ext w0 w') := by
  by_cases h : d ≤ 100
  · exact hvol_c0 d gc gh w0 ⟨hd.1, h⟩ hcv
  · exact hvol_c1 d gc gh w0 ⟨by omega, hd.2⟩ hcv

theorem hsvol_c (d : Int) (gs gc gh _ga p : Nat) (ah : Option Addr) (ch : Nat) (w0 : World) (hd : 0 ≤ d ∧ d ≤ 300) (hp : Blk w0 p 376 [.int .i64 100, .slice (some ⟨gs, 0, none⟩) 2 2, .slice ah 2 ch, .int .i64 60, .int .i64 200, .int .i64 0, .int .i64 100, .int .i64 300]) (hse : Sl encSx 5 w0 (some ⟨gs, 0, none⟩) gs 0 [⟨gc, gh⟩, ⟨gc, gh⟩]) (hcv : Sl encRt 2 w0 (some ⟨gc, 0, none⟩) gc 0 hvC) :
    CallsV Tryz.prog 295 [.pointer (some ⟨p, 0, none⟩), .int .i64 d] w0 (fun v w' => v = .int .i64 (6 * d) ∧ Ext w0 w') := by
 have hlp9 := hp.lt
 refine f_n func295 ?_
 refine go ?_
 refine c_rounds 3 (WR.weak [(1, .int .i64 d), (4, .int .i64 0), (11, .slice (some ⟨gs, 0, none⟩) 2 2), (12, .int .i64 2), (13, .int .i64 0)] ⟨rfl, rfl, rfl, rfl, rfl, trivial⟩ (r_round fun K4 hK4 => (q_of ?_)))
 refine go ?_
 have i9 : 0 < ([⟨gc, gh⟩, ⟨gc, gh⟩] : List Sx).length := (by simp)
 refine g_i 0 hse (fun _ => ?_)
 refine st1 ?_
 refine t_same 16 (v := .agg #[.int .i64 30, .int .i64 100, .int .i64 50, .slice (some ⟨gc, 0, none⟩) 3 3, .slice (some ⟨gh, 0, none⟩) 1 1]) rfl rfl ?_
 refine x_n fun bk10 w11 ebk10 sbk10 B12 u13 => ?_
 refine x_s fun w15 sw15 B17 u16 => ?_
 have E18 := Sc.mk (((Upd.refl (fun _ => False) w0).nx u13).next u16 (fun i hi h => by omega))
 refine go ?_
 refine x_c func300 rfl rfl (hvol_c d gc gh _ hd (hcv.keep E18.u (fun _ h => h))) ?_
 rintro _ w20 ⟨rfl, u21⟩ zu21
 have E23 := Sc.mk (E18.u.nx u21)
 refine go ?_
 refine hK4 _ _ (WR.weak [(1, .int .i64 d), (4, .int .i64 (0 + (3 * d))), (11, .slice (some ⟨gs, 0, none⟩) 2 2), (12, .int .i64 2), (13, .int .i64 1)] ⟨rfl, rfl, rfl, rfl, rfl, trivial⟩ (r_round fun K24 hK24 => (q_of ?_)))
 refine go ?_
 have i29 : 1 < ([⟨gc, gh⟩, ⟨gc, gh⟩] : List Sx).length := (by simp)
 refine g_i 1 (hse.keep E23.u (fun _ h => h)) (fun _ => ?_)
 refine st1 ?_
 refine t_same 16 (v := .agg #[.int .i64 30, .int .i64 100, .int .i64 50, .slice (some ⟨gc, 0, none⟩) 3 3, .slice (some ⟨gh, 0, none⟩) 1 1]) rfl rfl ?_
 refine x_n fun bk30 w31 ebk30 sbk30 B32 u33 => ?_
 refine x_s fun w35 sw35 B37 u36 => ?_
 refine go ?_
 refine x_c func300 rfl rfl (hvol_c d gc gh _ hd (hcv.keep ((E23.u.nx u33).next u36 (fun i hi h => by omega)) (fun _ h => h))) ?_
 rintro _ w40 ⟨rfl, u41⟩ zu41
 refine go ?_
 refine hK24 _ _ (WR.weak [(1, .int .i64 d), (4, .int .i64 ((0 + (3 * d)) + (3 * d))), (11, .slice (some ⟨gs, 0, none⟩) 2 2), (12, .int .i64 2), (13, .int .i64 2)] ⟨rfl, rfl, rfl, rfl, rfl, trivial⟩ (r_round fun K44 hK44 => (q_of ?_)))
 refine go ?_
 refine f_1 results295 ?_
 exact ⟨congrArg (Value.int .i64) (by omega), u_d⟩

theorem hmean1_c (d nd : Int) (gs gc gh ga p : Nat) (ah : Option Addr) (ch : Nat) (q r : Nat) (w0 : World) (hd : 0 ≤ d ∧ d ≤ 300) (hp : Blk w0 p 376 [.int .i64 100, .slice (some ⟨gs, 0, none⟩) 2 2, .slice ah 2 ch, .int .i64 60, .int .i64 200, .int .i64 0, .int .i64 100, .int .i64 300]) (hse : Sl encSx 5 w0 (some ⟨gs, 0, none⟩) gs 0 [⟨gc, gh⟩, ⟨gc, gh⟩]) (hcv : Sl encRt 2 w0 (some ⟨gc, 0, none⟩) gc 0 hvC) (hq : Blk w0 q 371 [.pointer (some ⟨p, 0, none⟩)]) (hr : Blk w0 r 3 [.int .i64 nd]) :
    CallsV Tryz.prog 294 [.int .i64 d, .pointer (some ⟨q, 0, none⟩), .pointer (some ⟨r, 0, none⟩)] w0 (fun v w' => v = .bool (decide (nd ≤ 6 * d)) ∧ Ext w0 w') := by
 have hlp9 := hp.lt
 refine f_n func294 ?_
 refine go ?_
 refine c_drawnM follows (fun _ => False) (OTl [0, 2, 6, 5, 8, 10]) (by kernel_rfl) fun w3 u4 => ?_
 have zu4 := u4.size
 have E5 := Sc.mk ((Upd.refl (fun _ => False) w0).nx u4)
 refine go ?_
 have B6 := (hp.kx u4)
 refine x_c func295 rfl rfl (hsvol_c d gs gc gh ga p ah ch _ hd B6 (hse.keep E5.u (fun _ h => h)) (hcv.keep E5.u (fun _ h => h))) ?_
 rintro _ w8 ⟨rfl, u9⟩ zu9
 refine go ?_
 refine f_1 results294 ?_
 exact ⟨rfl, u_d⟩

theorem meanS_c (gs gc gh ga p : Nat) (ah : Option Addr) (ch : Nat) (q r : Nat) (w0 : World) (hp : Blk w0 p 376 [.int .i64 100, .slice (some ⟨gs, 0, none⟩) 2 2, .slice ah 2 ch, .int .i64 60, .int .i64 200, .int .i64 0, .int .i64 100, .int .i64 300]) (hse : Sl encSx 5 w0 (some ⟨gs, 0, none⟩) gs 0 [⟨gc, gh⟩, ⟨gc, gh⟩]) (hcv : Sl encRt 2 w0 (some ⟨gc, 0, none⟩) gc 0 hvC) (hq : Blk w0 q 371 [.pointer (some ⟨p, 0, none⟩)]) (hr : Blk w0 r 3 [.int .i64 600]) :
    CallsV Tryz.prog 275 [.int .i64 301, .func (.func 294) #[] #[.pointer (some ⟨q, 0, none⟩), .pointer (some ⟨r, 0, none⟩)]] w0 (fun v w' => v = .int .i64 100 ∧ Ext w0 w') :=
  (search_c 301 (fun x => decide ((600 : Int) ≤ 6 * x)) 294 [.pointer (some ⟨q, 0, none⟩), .pointer (some ⟨r, 0, none⟩)] w0 (by decide) own294 (fun x hx W u => hmean1_c x 600 gs gc gh ga p ah ch q r W (by omega) (hp.keep u (fun h => h)) (hse.keep u (fun _ h => h)) (hcv.keep u (fun _ h => h)) (hq.keep u (fun h => h)) (hr.keep u (fun h => h)))).mono fun v w' ⟨⟨r, e, h0, h1, h2, h3⟩, u⟩ => ⟨by rw [e, mean_r h0 h1 h2 h3], u⟩

theorem hmean_c (gs gc gh ga p : Nat) (ah : Option Addr) (ch : Nat) (w0 : World) (hp : Blk w0 p 376 [.int .i64 100, .slice (some ⟨gs, 0, none⟩) 2 2, .slice ah 2 ch, .int .i64 60, .int .i64 200, .int .i64 0, .int .i64 100, .int .i64 300]) (hse : Sl encSx 5 w0 (some ⟨gs, 0, none⟩) gs 0 [⟨gc, gh⟩, ⟨gc, gh⟩]) (hcv : Sl encRt 2 w0 (some ⟨gc, 0, none⟩) gc 0 hvC) :
    CallsV Tryz.prog 272 [.pointer (some ⟨p, 0, none⟩), .int .i64 4, .int .i64 1000] w0 (fun v w' => v = .int .i64 100 ∧ Ext w0 w') := by
 have hlp9 := hp.lt
 refine f_n func272 ?_
 refine go ?_
 refine x_b fun bk2 w3 ebk2 sbk2 B4 u5 => ?_
 refine go ?_
 refine c_drawnM follows (fun _ => False) (OTl [0, 2, 4, 6, 8, 10, 12, 14, 16, 18, 20, 22, 24, 26]) (by kernel_rfl) fun w8 u9 => ?_
 have zu9 := u9.size
 refine go ?_
 refine t_quo rfl rfl rfl rfl (by omega) (by omega) (t_same 27 (v := .int .i64 600) rfl rfl ?_)
 refine x_n fun bk12 w13 ebk12 sbk12 B14 u15 => ?_
 refine x_s fun w17 sw17 B19 u18 => ?_
 have E20 := Sc.mk (((((Upd.refl (fun _ => False) w0).nx u5).nx u9).nx u15).next u18 (fun i hi h => by omega))
 refine go ?_
 refine t_mkfunc (vs := []) (us := [.pointer (some ⟨bk2, 0, none⟩), .pointer (some ⟨bk12, 0, none⟩)]) rfl rfl rfl rfl ?_
 have B22 := ((((hp.kx u5).kx u9).kx u15).keep u18 (by omega))
 have B23 := (((B4.kx u9).kx u15).keep u18 (by omega))
 refine x_c func275 rfl rfl (meanS_c gs gc gh ga p ah ch bk2 bk12 _ B22 (hse.keep E20.u (fun _ h => h)) (hcv.keep E20.u (fun _ h => h)) B23 B19) ?_
 rintro _ w25 ⟨rfl, u26⟩ zu26
 refine go ?_
 refine f_1 results272 ?_
 exact ⟨rfl, u_d⟩

theorem hsum_c (gl : Nat) (w0 : World) (hld : Sl encI 1 w0 (some ⟨gl, 0, none⟩) gl 0 [3, 1]) :
    CallsV Tryz.prog 269 [.slice (some ⟨gl, 0, none⟩) 2 2] w0 (fun v w' => v = .int .i64 4 ∧ Ext w0 w') := by
 refine f_n func269 ?_
 refine go ?_
 refine c_rounds 3 (WR.weak [(2, .int .i64 0), (5, .slice (some ⟨gl, 0, none⟩) 2 2), (6, .int .i64 2), (7, .int .i64 0)] ⟨rfl, rfl, rfl, rfl, trivial⟩ (r_round fun K4 hK4 => (q_of ?_)))
 refine go ?_
 have i9 : 0 < ([3, 1] : List Int).length := (by decide)
 refine g_i 0 hld (fun _ => ?_)
 refine st1 ?_
 refine t_same 10 (v := .int .i64 3) rfl rfl ?_
 refine go ?_
 refine hK4 _ _ (WR.weak [(2, .int .i64 3), (5, .slice (some ⟨gl, 0, none⟩) 2 2), (6, .int .i64 2), (7, .int .i64 1)] ⟨rfl, rfl, rfl, rfl, trivial⟩ (r_round fun K10 hK10 => (q_of ?_)))
 refine go ?_
 have i15 : 1 < ([3, 1] : List Int).length := (by decide)
 refine g_i 1 hld (fun _ => ?_)
 refine st1 ?_
 refine t_same 10 (v := .int .i64 1) rfl rfl ?_
 refine go ?_
 refine hK10 _ _ (WR.weak [(2, .int .i64 4), (5, .slice (some ⟨gl, 0, none⟩) 2 2), (6, .int .i64 2), (7, .int .i64 2)] ⟨rfl, rfl, rfl, rfl, trivial⟩ (r_round fun K16 hK16 => (q_of ?_)))
 refine go ?_
 refine f_1 results269 ?_
 exact ⟨rfl, u_d⟩

theorem hmoms_c (gs _gc _gh ga p : Nat) (ah : Option Addr) (ch : Nat) (gl : Nat) (w0 : World) (hp : Blk w0 p 376 [.int .i64 100, .slice (some ⟨gs, 0, none⟩) 2 2, .slice ah 2 ch, .int .i64 60, .int .i64 200, .int .i64 0, .int .i64 100, .int .i64 300]) (hhl : Sl encRt 2 w0 ah ga 0 hlC) (hld : Sl encI 1 w0 (some ⟨gl, 0, none⟩) gl 0 [3, 1]) :
    CallsV Tryz.prog 270 [.pointer (some ⟨p, 0, none⟩), .slice (some ⟨gl, 0, none⟩) 2 2] w0 (fun v w' => v = .int .i64 (-6000) ∧ Ext w0 w') := by
 have hlp9 := hp.lt
 refine f_n func270 ?_
 refine go ?_
 refine c_rounds 3 (WR.weak [(0, .pointer (some ⟨p, 0, none⟩)), (5, .int .i64 0), (12, .slice (some ⟨gl, 0, none⟩) 2 2), (13, .int .i64 2), (14, .int .i64 0)] ⟨rfl, rfl, rfl, rfl, rfl, trivial⟩ (r_round fun K5 hK5 => (q_of ?_)))
 refine go ?_
 have i10 : 0 < ([3, 1] : List Int).length := (by decide)
 refine g_i 0 hld (fun _ => ?_)
 refine st1 ?_
 refine t_same 18 (v := .int .i64 3) rfl rfl ?_
 refine go ?_
 refine c_drawnM follows (fun _ => False) (OTl [0, 2, 4, 6, 8, 10, 12, 14, 16, 18, 20, 22, 24, 26, 28, 30, 32, 34, 36]) (by kernel_rfl) fun w11 u12 => ?_
 have zu12 := u12.size
 have E13 := Sc.mk ((Upd.refl (fun _ => False) w0).nx u12)
 refine go ?_
 have i14 : 0 < hlC.length := (by decide)
 refine y_i 0 (hhl.keep E13.u (fun _ h => h)) (fun _ => ?_)
 iterate 2 refine st1 ?_
 refine y_same 34 (v := .int .i64 (-30)) rfl rfl ?_
 iterate 2 refine st1 ?_
 refine y_same 36 (v := .int .i64 (-9000)) rfl rfl ?_
 refine go ?_
 refine hK5 _ _ (WR.weak [(0, .pointer (some ⟨p, 0, none⟩)), (5, .int .i64 (-9000)), (12, .slice (some ⟨gl, 0, none⟩) 2 2), (13, .int .i64 2), (14, .int .i64 1)] ⟨rfl, rfl, rfl, rfl, rfl, trivial⟩ (r_round fun K15 hK15 => (q_of ?_)))
 refine go ?_
 have i20 : 1 < ([3, 1] : List Int).length := (by decide)
 refine g_i 1 (hld.keep E13.u (fun _ h => h)) (fun _ => ?_)
 refine st1 ?_
 refine t_same 18 (v := .int .i64 1) rfl rfl ?_
 refine go ?_
 refine c_drawnM follows (fun _ => False) (OTl [0, 2, 4, 6, 8, 10, 12, 14, 16, 18, 20, 22, 24, 26, 28, 30, 32, 34, 36]) (by kernel_rfl) fun w21 u22 => ?_
 have zu22 := u22.size
 refine go ?_
 have i24 : 1 < hlC.length := (by decide)
 refine y_i 1 (hhl.keep (E13.u.nx u22) (fun _ h => h)) (fun _ => ?_)
 iterate 2 refine st1 ?_
 refine y_same 34 (v := .int .i64 30) rfl rfl ?_
 iterate 2 refine st1 ?_
 refine y_same 36 (v := .int .i64 (-6000)) rfl rfl ?_
 refine go ?_
 refine hK15 _ _ (WR.weak [(0, .pointer (some ⟨p, 0, none⟩)), (5, .int .i64 (-6000)), (12, .slice (some ⟨gl, 0, none⟩) 2 2), (13, .int .i64 2), (14, .int .i64 2)] ⟨rfl, rfl, rfl, rfl, rfl, trivial⟩ (r_round fun K25 hK25 => (q_of ?_)))
 refine go ?_
 refine f_1 results270 ?_
 exact ⟨rfl, u_d⟩

theorem habs_c  (w0 : World) :
    CallsV Tryz.prog 271 [.int .i64 (-6000)] w0 (fun v w' => v = .int .i64 6000 ∧ Ext w0 w') := by
 refine f_n func271 ?_
 refine go ?_
 refine t_neg rfl rfl rfl (by omega) (t_same 5 (v := .int .i64 6000) rfl rfl (t_max rfl rfl rfl rfl (t_same 6 (v := .int .i64 6000) rfl rfl ?_)))
 refine go ?_
 refine f_1 results271 ?_
 exact ⟨rfl, u_d⟩

theorem hfloat_c (gs gc gh ga p : Nat) (ah : Option Addr) (ch : Nat) (gl : Nat) (w0 : World) (hp : Blk w0 p 376 [.int .i64 100, .slice (some ⟨gs, 0, none⟩) 2 2, .slice ah 2 ch, .int .i64 60, .int .i64 200, .int .i64 0, .int .i64 100, .int .i64 300]) (hse : Sl encSx 5 w0 (some ⟨gs, 0, none⟩) gs 0 [⟨gc, gh⟩, ⟨gc, gh⟩]) (hcv : Sl encRt 2 w0 (some ⟨gc, 0, none⟩) gc 0 hvC) (hhl : Sl encRt 2 w0 ah ga 0 hlC) (hld : Sl encI 1 w0 (some ⟨gl, 0, none⟩) gl 0 [3, 1]) :
    CallsV Tryz.prog 221 [.pointer (some ⟨p, 0, none⟩), .slice (some ⟨gl, 0, none⟩) 2 2, .agg #[.int .i64 1000, .int .i64 1000]] w0 (fun v w' => v = .tuple #[.agg #[.int .i64 100, .int .i64 100, .int .i64 115, .int .i64 115, .int .i64 (-1)], .bool true] ∧ Ext w0 w') := by
 have hlp9 := hp.lt
 refine f_n func221 ?_
 refine go ?_
 refine x_b fun bk2 w3 ebk2 sbk2 B4 u5 => ?_
 refine x_n fun bk7 w8 ebk7 sbk7 B9 u10 => ?_
 have E11 := Sc.mk (((Upd.refl (fun _ => False) w0).nx u5).nx u10)
 refine go ?_
 refine x_c func269 rfl rfl (hsum_c gl _ (hld.keep E11.u (fun _ h => h))) ?_
 rintro _ w14 ⟨rfl, u15⟩ zu15
 have E17 := Sc.mk (E11.u.nx u15)
 refine go ?_
 have B18 := (((hp.kx u5).kx u10).kx u15)
 refine x_c func270 rfl rfl (hmoms_c gs gc gh ga p ah ch gl _ B18 (hhl.keep E17.u (fun _ h => h)) (hld.keep E17.u (fun _ h => h))) ?_
 rintro _ w20 ⟨rfl, u21⟩ zu21
 refine go ?_
 refine c_drawnM follows (fun _ => False) (OTl [0, 4, 6, 8, 10, 12, 18, 20, 22, 24, 26, 3, 14, 16, 28, 30]) (by kernel_rfl) fun w25 u26 => ?_
 have zu26 := u26.size
 refine go ?_
 refine x_c func271 rfl rfl (habs_c _) ?_
 rintro _ w29 ⟨rfl, u30⟩ zu30
 refine go ?_
 refine y_quo rfl rfl rfl rfl (by omega) (by omega) (y_same 30 (v := .int .i64 15) rfl rfl ?_)
 refine go ?_
 refine c_drawnM follows (fun i => i = bk7) (OTl [0, 2, 4, 6, 10, 12, 14, 16, 9, 19, 20, 22, 25]) (by kernel_rfl) fun w34 u35 => ?_
 have zu35 := u35.size
 have E36 := Sc.mk ((((E17.u.nx u21).nx u26).nx u30).nx u35)
 refine go ?_
 have B37 := ((((B18.kx u21).kx u26).kx u30).kx u35)
 refine x_c func272 rfl rfl (hmean_c gs gc gh ga p ah ch _ B37 (hse.keep E36.u (fun _ h => h)) (hcv.keep E36.u (fun _ h => h))) ?_
 rintro _ w39 ⟨rfl, u40⟩ zu40
 have E42 := Sc.mk (E36.u.nx u40)
 refine go ?_
 have B43 := (B37.kx u40)
 refine x_c func272 rfl rfl (hmean_c gs gc gh ga p ah ch _ B43 (hse.keep E42.u (fun _ h => h)) (hcv.keep E42.u (fun _ h => h))) ?_
 rintro _ w45 ⟨rfl, u46⟩ zu46
 refine go ?_
 refine x_s fun w49 sw49 B51 u50 => ?_
 refine go ?_
 refine x_s fun w54 sw54 B56 u55 => ?_
 refine go ?_
 refine x_s fun w60 sw60 B62 u61 => ?_
 refine go ?_
 refine c_drawnM follows (fun i => i = bk7) (.look 1 (.look 2 (.look 4 (.look 5 (.look 6 (.look 7 (.act 0 (.act 3 (.look 8 (.act 9 (.look 10 .done) .stop)) .stop) (.act 3 (.look 8 (.act 0 (.act 9 (.look 10 .done) .stop) .stop)) .stop)))))))) (by kernel_rfl) fun w65 u66 => ?_
 have zu66 := u66.size
 refine go ?_
 refine s_or ?_ ?_
 ·
  refine go ?_
  refine x_s fun w68 sw68 B70 u69 => ?_
  refine go ?_
  refine f_ret2 (v1 := .agg #[.int .i64 100, .int .i64 100, .int .i64 115, .int .i64 115, .int .i64 (-1)]) (v2 := .bool true) results221 ⟨_, _, rfl, run_loadVarN (vs := [.int .i64 100, .int .i64 100, .int .i64 115, .int .i64 115, .int .i64 (-1)]) isAgg243 sizeOf243 rfl (B70.at.sub 0 5)⟩ rfl ?_
  exact ⟨rfl, u_d⟩
 refine go ?_
 refine x_s fun w72 sw72 B74 u73 => ?_
 refine go ?_
 refine f_ret2 (v1 := .agg #[.int .i64 100, .int .i64 100, .int .i64 115, .int .i64 115, .int .i64 (-1)]) (v2 := .bool true) results221 ⟨_, _, rfl, run_loadVarN (vs := [.int .i64 100, .int .i64 100, .int .i64 115, .int .i64 115, .int .i64 (-1)]) isAgg243 sizeOf243 rfl (B74.at.sub 0 5)⟩ rfl ?_
 exact ⟨rfl, u_d⟩

theorem hload_c (gs gc gh gl : Nat) (w0 : World) (hse : Sl encSx 5 w0 (some ⟨gs, 0, none⟩) gs 0 [⟨gc, gh⟩, ⟨gc, gh⟩]) (hcv : Sl encRt 2 w0 (some ⟨gc, 0, none⟩) gc 0 hvC) (hhd : Sl encRt 2 w0 (some ⟨gh, 0, none⟩) gh 0 hvH) (hld : Sl encI 1 w0 (some ⟨gl, 0, none⟩) gl 0 [3, 1]) :
    CallsV Tryz.prog 175 [.agg #[.int .i64 100, .slice (some ⟨gs, 0, none⟩) 2 2], .slice (some ⟨gl, 0, none⟩) 2 2, .agg #[.int .i64 1000, .int .i64 1000]] w0 (fun v w' => v = .tuple #[.agg #[.int .i64 100, .int .i64 100, .int .i64 115, .int .i64 115, .int .i64 (-1)], .int .i64 0] ∧ Ext w0 w') := by
 refine f_n func175 ?_
 refine go ?_
 refine x_b fun bk2 w3 ebk2 sbk2 B4 u5 => ?_
 refine x_b fun bk7 w8 ebk7 sbk7 B9 u10 => ?_
 refine x_n fun bk12 w13 ebk12 sbk12 B14 u15 => ?_
 have E16 := Sc.mk ((((Upd.refl (fun _ => False) w0).nx u5).nx u10).nx u15)
 refine go ?_
 refine x_c func218 rfl rfl (hopen_c gs gc gh _ (hse.keep E16.u (fun _ h => h)) (hcv.keep E16.u (fun _ h => h)) (hhd.keep E16.u (fun _ h => h))) ?_
 rintro _ w19 ⟨⟨p, ah, ga, ch, rfl, hgp, hBp, hHl, hga⟩, u20⟩ zu20
 have hgal := hHl.lt (by decide)
 have hpl9 := hBp.lt
 refine go ?_
 refine c_rounds 3 (WR.weak [(1, .slice (some ⟨gl, 0, none⟩) 2 2), (5, .pointer (some ⟨bk7, 0, none⟩)), (6, .pointer (some ⟨bk12, 0, none⟩)), (8, .pointer (some ⟨p, 0, none⟩)), (35, .slice ah 2 ch), (36, .int .i64 2), (37, .int .i64 0)] ⟨rfl, rfl, rfl, rfl, rfl, rfl, rfl, trivial⟩ (r_round fun K28 hK28 => (q_of ?_)))
 refine go ?_
 have i33 : 0 < hlC.length := (by decide)
 refine g_i 0 hHl (fun _ => ?_)
 refine st1 ?_
 refine t_same 41 (v := .agg #[.int .i64 (-30), .int .i64 4]) rfl rfl ?_
 refine x_n fun bk34 w35 ebk34 sbk34 B36 u37 => ?_
 refine go ?_
 refine x_s fun w39 sw39 B41 u40 => ?_
 refine go ?_
 refine c_drawnM follows (fun _ => False) (OTl [0, 2, 4, 6, 8, 10, 13, 15, 16]) (by kernel_rfl) fun w44 u45 => ?_
 have zu45 := u45.size
 have E46 := Sc.mk ((((E16.u.nx u20).nx u37).next u40 (fun i hi h => by omega)).nx u45)
 refine go ?_
 have i47 : 0 < ([3, 1] : List Int).length := (by decide)
 refine y_i 0 (hld.keep E46.u (fun _ h => h)) (fun _ => ?_)
 refine st1 ?_
 refine y_same 47 (v := .int .i64 3) rfl rfl ?_
 refine go ?_
 refine x_l fun bk48 w49 ebk48 sbk48 B50 u51 => ?_
 refine go ?_
 refine x_c func219 rfl rfl (hw1_t 0 4 3 _ _ _ B50 (by omega)) ?_
 rintro _ w54 ⟨rfl, u55⟩ zu55
 refine go ?_
 refine hK28 _ _ (WR.weak [(1, .slice (some ⟨gl, 0, none⟩) 2 2), (5, .pointer (some ⟨bk7, 0, none⟩)), (6, .pointer (some ⟨bk12, 0, none⟩)), (8, .pointer (some ⟨p, 0, none⟩)), (35, .slice ah 2 ch), (36, .int .i64 2), (37, .int .i64 1)] ⟨rfl, rfl, rfl, rfl, rfl, rfl, rfl, trivial⟩ (r_round fun K58 hK58 => (q_of ?_)))
 refine go ?_
 have D63 := (((((hHl.keep u37 (fun _ h => h)).keep u40 (fun hb => show ¬ (ga = bk34) by first | omega | assumption)).keep u45 (fun _ h => h)).keep u51 (fun _ h => h)).keep u55 (fun _ h => h))
 have i64 : 1 < hlC.length := (by decide)
 refine g_i 1 D63 (fun _ => ?_)
 refine st1 ?_
 refine t_same 41 (v := .agg #[.int .i64 30, .int .i64 4]) rfl rfl ?_
 refine x_n fun bk65 w66 ebk65 sbk65 B67 u68 => ?_
 refine go ?_
 refine x_s fun w70 sw70 B72 u71 => ?_
 refine go ?_
 refine c_drawnM follows (fun _ => False) (OTl [0, 2, 4, 6, 8, 10, 13, 15, 16]) (by kernel_rfl) fun w75 u76 => ?_
 have zu76 := u76.size
 have E77 := Sc.mk (((((E46.u.nx u51).nx u55).nx u68).next u71 (fun i hi h => by omega)).nx u76)
 refine go ?_
 have i78 : 1 < ([3, 1] : List Int).length := (by decide)
 refine y_i 1 (hld.keep E77.u (fun _ h => h)) (fun _ => ?_)
 refine st1 ?_
 refine y_same 47 (v := .int .i64 1) rfl rfl ?_
 refine go ?_
 refine x_l fun bk79 w80 ebk79 sbk79 B81 u82 => ?_
 refine go ?_
 refine x_c func219 rfl rfl (hw1_t 0 4 1 _ _ _ B81 (by omega)) ?_
 rintro _ w85 ⟨rfl, u86⟩ zu86
 refine go ?_
 refine hK58 _ _ (WR.weak [(1, .slice (some ⟨gl, 0, none⟩) 2 2), (5, .pointer (some ⟨bk7, 0, none⟩)), (6, .pointer (some ⟨bk12, 0, none⟩)), (8, .pointer (some ⟨p, 0, none⟩)), (35, .slice ah 2 ch), (36, .int .i64 2), (37, .int .i64 2)] ⟨rfl, rfl, rfl, rfl, rfl, rfl, rfl, trivial⟩ (r_round fun K89 hK89 => (q_of ?_)))
 refine go ?_
 refine x_c func220 rfl rfl (hdens_c _) ?_
 rintro _ w95 ⟨rfl, u96⟩ zu96
 have E98 := Sc.mk (((E77.u.nx u82).nx u86).nx u96)
 refine go ?_
 have B100 := (((((((((((hBp.kx u37).keep u40 (by omega)).kx u45).kx u51).kx u55).kx u68).keep u71 (by omega)).kx u76).kx u82).kx u86).kx u96)
 have D101 := ((((((D63.keep u68 (fun _ h => h)).keep u71 (fun hb => show ¬ (ga = bk65) by first | omega | assumption)).keep u76 (fun _ h => h)).keep u82 (fun _ h => h)).keep u86 (fun _ h => h)).keep u96 (fun _ h => h))
 refine x_c func221 rfl rfl (hfloat_c gs gc gh ga p ah ch gl _ B100 (hse.keep E98.u (fun _ h => h)) (hcv.keep E98.u (fun _ h => h)) D101 (hld.keep E98.u (fun _ h => h))) ?_
 rintro _ w103 ⟨rfl, u104⟩ zu104
 refine go ?_
 refine x_s fun w107 sw107 B109 u108 => ?_
 refine go ?_
 refine x_s fun w114 sw114 B116 u115 => ?_
 refine go ?_
 refine f_ret2 (v1 := .agg #[.int .i64 100, .int .i64 100, .int .i64 115, .int .i64 115, .int .i64 (-1)]) (v2 := .int .i64 0) results175 ⟨_, _, rfl, run_loadVarN (vs := [.int .i64 100, .int .i64 100, .int .i64 115, .int .i64 115, .int .i64 (-1)]) isAgg243 sizeOf243 rfl (B116.at.sub 0 5)⟩ rfl ?_
 exact ⟨rfl, u_d⟩

theorem Float_c (gs gc gh gl : Nat) (w0 : World) (hse : Sl encSx 5 w0 (some ⟨gs, 0, none⟩) gs 0 [⟨gc, gh⟩, ⟨gc, gh⟩]) (hcv : Sl encRt 2 w0 (some ⟨gc, 0, none⟩) gc 0 hvC) (hhd : Sl encRt 2 w0 (some ⟨gh, 0, none⟩) gh 0 hvH) (hld : Sl encI 1 w0 (some ⟨gl, 0, none⟩) gl 0 [3, 1]) :
    CallsV Tryz.prog 108 [.agg #[.int .i64 100, .slice (some ⟨gs, 0, none⟩) 2 2], .slice (some ⟨gl, 0, none⟩) 2 2, .agg #[.int .i64 1000, .int .i64 1000]] w0 (fun v w' => v = .tuple #[.agg #[.int .i64 100, .int .i64 100, .int .i64 115, .int .i64 115, .int .i64 (-1)], .int .i64 0] ∧ Ext w0 w') := by
 refine f_n func108 ?_
 refine go ?_
 refine x_b fun bk2 w3 ebk2 sbk2 B4 u5 => ?_
 refine x_b fun bk7 w8 ebk7 sbk7 B9 u10 => ?_
 refine x_n fun bk12 w13 ebk12 sbk12 B14 u15 => ?_
 have E16 := Sc.mk ((((Upd.refl (fun _ => False) w0).nx u5).nx u10).nx u15)
 refine go ?_
 refine x_c func175 rfl rfl (hload_c gs gc gh gl _ (hse.keep E16.u (fun _ h => h)) (hcv.keep E16.u (fun _ h => h)) (hhd.keep E16.u (fun _ h => h)) (hld.keep E16.u (fun _ h => h))) ?_
 rintro _ w19 ⟨rfl, u20⟩ zu20
 refine go ?_
 refine x_s fun w23 sw23 B25 u24 => ?_
 refine go ?_
 refine f_ret2 (v1 := .agg #[.int .i64 100, .int .i64 100, .int .i64 115, .int .i64 115, .int .i64 (-1)]) (v2 := .int .i64 0) results108 ⟨_, _, rfl, run_loadVarN (vs := [.int .i64 100, .int .i64 100, .int .i64 115, .int .i64 115, .int .i64 (-1)]) isAgg243 sizeOf243 rfl (B25.at.sub 0 5)⟩ rfl ?_
 exact ⟨rfl, u_d⟩

end Go.Proofs.YtclinbbghnebaaaGreat
