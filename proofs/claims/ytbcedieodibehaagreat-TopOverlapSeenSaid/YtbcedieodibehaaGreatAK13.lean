/-
  Part 13 of the proof: contracts and plain laws. Conditions: none.
-/
import Derived.Test.YtbcedieodibehaaGreatAK12
namespace Go.Proofs.YtbcedieodibehaaGreat
open Go Go.RowKit Go.Proofs.Tryz
set_option maxRecDepth 10000
section
variable {P : Program} {ops : Array Oper} {Q : Exit → Act → World → Prop} {N : Nat} {ds : List Deferred} {rest : List Oper} {L : Slots} {w : World} {rd : Option Nat} {d : Nat} {ty : TypeId} {pos : String} {aft : Array Edge} {gd : Option (Nat × Bool)}
/-- A remainder whose value is known. -/
theorem t_remV {xt yt : TypeId} {x y : Operand} {m n : Int} (q : Int) (hg : grd ops L gd = true) (hN : Nat.blt d N = true) (hx : ev L x = some (.int .i64 m)) (hy : ev L y = some (.int .i64 n)) (hn : n ≠ 0) (hq : m.tmod n = q) (hr : -9223372036854775808 ≤ q ∧ q ≤ 9223372036854775807)
    (h : WL rd P ops Q N ds rest ((d, .int .i64 q) :: L) w) : WL rd P ops Q N ds (⟨some d, .binOp .rem xt x y yt, ty, pos, aft, gd⟩ :: rest) L w :=
  WL.value hg rfl hN (fun a ha => by
    have e1 := ha.ev hx
    have e2 := ha.ev hy
    have e3 : IntKind.i64.wrap (m.tmod n) = q := by rw [hq]; exact IntWalk.i64_in _ hr
    simp [execOp, e1, e2, eqGuard, binOp, Op.intDiv, hn, hq]) h
end
theorem own87 : Own Tryz.prog 87 := ⟨Tryz.f87, func87, by kernel_rfl, by kernel_rfl⟩
theorem own105 : Own Tryz.prog 105 := ⟨Tryz.f105, func105, by kernel_rfl, by kernel_rfl⟩
theorem own107 : Own Tryz.prog 107 := ⟨Tryz.f107, func107, by kernel_rfl, by kernel_rfl⟩
theorem rwithin1_c (lo hi n : Int) (b c : Nat) (t1 t2 : TypeId) (w0 : World) (hb : Blk w0 b t1 [.int .i64 lo]) (hc : Blk w0 c t2 [.int .i64 hi]) :
    CallsV Tryz.prog 105 [.int .i64 n, .pointer (some ⟨b, 0, none⟩), .pointer (some ⟨c, 0, none⟩)] w0 (fun v w' => v = .bool (out1 lo hi n) ∧ Ext w0 w') := by
 refine f_n func105 ?_
 refine go ?_
 refine t_splitp 8 rfl (fun g8 => ?_) (fun g8 => ?_)
 ·
  refine go ?_
  refine f_1 results105 ?_
  exact ⟨by simp [out1, *], u_d⟩
 refine go ?_
 refine f_1 results105 ?_
 exact ⟨by simp [out1, *], u_d⟩
theorem rwithin_c (lo hi : Int) (xs : List Int) (ao : Option Addr) (b o cap : Nat) (w0 : World) (hs : Sl encI 1 w0 ao b o xs) (hl : xs.length ≤ 1000000) :
    CallsV Tryz.prog 86 [.int .i64 lo, .int .i64 hi, .slice ao xs.length cap] w0 (fun v w' => v = .bool (decide (∀ n ∈ xs, lo ≤ n ∧ n ≤ hi)) ∧ Ext w0 w') := by
 refine f_n func86 ?_
 refine go ?_
 refine x_b fun bk2 w3 ebk2 sbk2 B4 u5 => ?_
 refine x_b fun bk7 w8 ebk7 sbk7 B9 u10 => ?_
 refine go ?_
 refine t_mkfunc (vs := []) (us := [.pointer (some ⟨bk2, 0, none⟩), .pointer (some ⟨bk7, 0, none⟩)]) rfl rfl rfl rfl ?_
 have B13 := (B4.kx u10)
 refine x_c func44 rfl rfl (containsI_c (out1 lo hi) 105 [.pointer (some ⟨bk2, 0, none⟩), .pointer (some ⟨bk7, 0, none⟩)] xs ao b o cap _ own105 (fun x _ w u => rwithin1_c lo hi x bk2 bk7 _ _ w (B13.keep u (fun h => h)) (B9.keep u (fun h => h))) (hs.keep (((Upd.refl (fun _ => False) w0).nx u5).nx u10) (fun _ h => h)) hl) ?_
 rintro _ w15 ⟨rfl, u16⟩ zu16
 refine go ?_
 refine f_1 results86 ?_
 exact ⟨by rw [not_any_out], u_d⟩
theorem rw1_t (lo hi m : Int) (b : Nat) (t : TypeId) (w : World) (h : Blk w b t [.int .i64 m]) (hr : (lo ≤ m ∧ m ≤ hi)) : CallsV Tryz.prog 86 [.int .i64 lo, .int .i64 hi, .slice (some ⟨b, 0, none⟩) 1 1] w (fun v w' => v = .bool true ∧ Ext w w') :=
  (rwithin_c lo hi [m] _ b 0 1 w (SlI.own (xs := [m]) h) (by simp)).mono fun v w' ⟨e, u⟩ => ⟨by rw [e]; simp; omega, u⟩
theorem rw2_t (lo hi m n : Int) (b : Nat) (t : TypeId) (w : World) (h : Blk w b t [.int .i64 m, .int .i64 n]) (hr : (lo ≤ m ∧ m ≤ hi) ∧ (lo ≤ n ∧ n ≤ hi)) : CallsV Tryz.prog 86 [.int .i64 lo, .int .i64 hi, .slice (some ⟨b, 0, none⟩) 2 2] w (fun v w' => v = .bool true ∧ Ext w w') :=
  (rwithin_c lo hi [m, n] _ b 0 2 w (SlI.own (xs := [m, n]) h) (by simp)).mono fun v w' ⟨e, u⟩ => ⟨by rw [e]; simp; omega, u⟩
structure Bnd2 where
  lo : Int
  hi : Int
instance : Inhabited Bnd2 := ⟨⟨default, default⟩⟩
def encBd2 (x : Bnd2) : List Value := [.int .i64 x.lo, .int .i64 x.hi]
def encRt (x : Bnd2) : List Value := [.int .i64 x.lo, .int .i64 x.hi]
def cvR : List Bnd2 := [⟨0, 100⟩, ⟨10000, 300⟩]
theorem indexBd_c {α : Type} [Inhabited α] (enc : α → List Value) (hk : ∀ x, (enc x).length = 2) (p : α → Bool) (fv : FuncId) (caps : List Value) (xs : List α) (ao : Option Addr) (b o cap : Nat) (w0 : World) (ho : Own Tryz.prog fv) (hp : ∀ x ∈ xs, ∀ w, Ext w0 w → CallsV Tryz.prog fv ([.agg (enc x).toArray] ++ caps) w fun v w' => v = .bool (p x) ∧ Ext w w') (hs : Sl enc 2 w0 ao b o xs) (hl : xs.length ≤ 1000000) :
    CallsV Tryz.prog 97 [.slice ao xs.length cap, .func (.func fv) #[] (caps).toArray] w0 (fun v w' => (∃ n : Int, v = .int .i64 n ∧ decide (0 ≤ n) = xs.any p) ∧ Ext w0 w') := by
 refine f_n func97 ?_
 refine go ?_
 refine x_l1 (fun _ => False) [0, 1, 7] (fun (k : Nat) => [(8, .int .i64 (k : Int))]) (fun k w => (k ≤ xs.length) ∧ ((xs.take k).any p = false)) (fun k => xs.length - k) 0 ⟨Nat.zero_le _, (by simp)⟩ ?_
 rintro k w5 ⟨hle, hnot⟩ u6 zu6 K4 hK4
 have E7 := Sc.mk ((Upd.refl (fun _ => False) w0).nx u6)
 refine go ?_
 refine q_p (fun g9 => ?_) fun g9 => ?_
 ·
  refine go ?_
  refine g_i k (hs.keep E7.u (fun _ h => h)) (fun _ => ?_)
  refine t_loadN (vs := enc (nth xs k)) isAgg23 sizeOf23 rfl rfl rfl ((hs.keep E7.u (fun _ h => h)).at_ k (by omega)) (hk _) (t_call (fs := []) (cs := caps) ho rfl rfl rfl rfl (hp (nth xs k) (nth_mem (by omega)) _ E7.u) (fun v14 w15 r17 => ?_))
  obtain ⟨rfl, u16⟩ := r17
  have zu16 := u16.size
  refine go ?_
  refine q_b (fun g16 => ?_) fun g16 => ?_
  ·
   refine go ?_
   refine f_1 results97 ?_
   exact ⟨⟨_, rfl, any_hit (by omega) g16⟩, u_d⟩
  refine go ?_
  exact hK4 (k + 1) ⟨(by omega), (any_snoc (by omega) hnot g16)⟩
 refine go ?_
 refine f_1 results97 ?_
 exact ⟨⟨_, rfl, any_none (by omega) hnot⟩, u_d⟩
theorem containsBd_c {α : Type} [Inhabited α] (enc : α → List Value) (hk : ∀ x, (enc x).length = 2) (p : α → Bool) (fv : FuncId) (caps : List Value) (xs : List α) (ao : Option Addr) (b o cap : Nat) (w0 : World) (ho : Own Tryz.prog fv) (hp : ∀ x ∈ xs, ∀ w, Ext w0 w → CallsV Tryz.prog fv ([.agg (enc x).toArray] ++ caps) w fun v w' => v = .bool (p x) ∧ Ext w w') (hs : Sl enc 2 w0 ao b o xs) (hl : xs.length ≤ 1000000) :
    CallsV Tryz.prog 65 [.slice ao xs.length cap, .func (.func fv) #[] (caps).toArray] w0 (fun v w' => v = .bool (xs.any p) ∧ Ext w0 w') := by
 refine f_n func65 ?_
 refine go ?_
 refine x_c func97 rfl rfl (indexBd_c enc hk p fv caps xs ao b o cap _ ho hp hs hl) ?_
 rintro _ w4 ⟨⟨n, rfl, hn⟩, u5⟩ zu5
 refine go ?_
 refine f_1 results65 ?_
 exact ⟨by rw [hn], u_d⟩
theorem rvalid1_c (lo hi a b : Int) (p q : Nat) (t1 t2 : TypeId) (w0 : World) (hb : Blk w0 p t1 [.int .i64 lo]) (hc : Blk w0 q t2 [.int .i64 hi]) (hr : a ≤ b ∧ (lo ≤ a ∧ a ≤ hi) ∧ (lo ≤ b ∧ b ≤ hi)) :
    CallsV Tryz.prog 87 [.agg #[.int .i64 a, .int .i64 b], .pointer (some ⟨p, 0, none⟩), .pointer (some ⟨q, 0, none⟩)] w0 (fun v w' => v = .bool false ∧ Ext w0 w') := by
 refine f_n func87 ?_
 refine go ?_
 refine x_b fun bk2 w3 ebk2 sbk2 B4 u5 => ?_
 iterate 10 refine st1 ?_
 refine t_same 9 (v := .bool false) rfl (congrArg Value.bool (decide_eq_false (by omega))) ?_
 refine go ?_
 refine x_l fun bk8 w9 ebk8 sbk8 B10 u11 => ?_
 refine x_c func86 rfl rfl (rw2_t lo hi a b _ _ _ B10 (by omega)) ?_
 rintro _ w14 ⟨rfl, u15⟩ zu15
 refine go ?_
 refine f_1 results87 ?_
 exact ⟨rfl, u_d⟩
theorem rvalid_c (lo hi a b : Int) (g : Nat) (w0 : World) (hs : Blk w0 g 23 [.int .i64 a, .int .i64 b]) (hr : a ≤ b ∧ (lo ≤ a ∧ a ≤ hi) ∧ (lo ≤ b ∧ b ≤ hi)) :
    CallsV Tryz.prog 60 [.int .i64 lo, .int .i64 hi, .slice (some ⟨g, 0, none⟩) 1 1] w0 (fun v w' => v = .bool true ∧ Ext w0 w') := by
 have hx : Sl encBd2 2 w0 (some ⟨g, 0, none⟩) g 0 [⟨a, b⟩] := Sl.ofBlk (enc := encBd2) (xs := [⟨a, b⟩]) (fun _ => rfl) hs
 refine f_n func60 ?_
 refine go ?_
 refine x_b fun bk2 w3 ebk2 sbk2 B4 u5 => ?_
 refine x_b fun bk7 w8 ebk7 sbk7 B9 u10 => ?_
 refine go ?_
 refine t_mkfunc (vs := []) (us := [.pointer (some ⟨bk2, 0, none⟩), .pointer (some ⟨bk7, 0, none⟩)]) rfl rfl rfl rfl ?_
 have B13 := (B4.kx u10)
 have hc9 := containsBd_c encBd2 (fun _ => rfl) (fun _ => false) 87 [.pointer (some ⟨bk2, 0, none⟩), .pointer (some ⟨bk7, 0, none⟩)] [⟨a, b⟩] (some ⟨g, 0, none⟩) g 0 1 w8 own87 (fun x hx w u => by
   obtain rfl := List.mem_singleton.1 hx
   exact rvalid1_c lo hi a b bk2 bk7 _ _ w (B13.keep u (fun h => h)) (B9.keep u (fun h => h)) hr) (hx.keep (((Upd.refl (fun _ => False) w0).nx u5).nx u10) (fun _ h => h)) (by simp)
 refine x_c func65 rfl rfl hc9 ?_
 rintro _ w15 ⟨rfl, u16⟩ zu16
 refine go ?_
 refine f_1 results60 ?_
 exact ⟨rfl, u_d⟩
theorem rcheck_c (dl bl bh fl : Int) (g : Nat) (w0 : World) (hcv : Sl encRt 2 w0 (some ⟨g, 0, none⟩) g 0 cvR) (hd : 0 ≤ dl ∧ dl ≤ 200) (hb : bl ≤ bh ∧ (0 ≤ bl ∧ bl ≤ 10000000000) ∧ (0 ≤ bh ∧ bh ≤ 10000000000)) (hf : 0 ≤ fl ∧ fl ≤ 10000) :
    CallsV Tryz.prog 59 [.agg #[.int .i64 100, .int .i64 dl, .int .i64 bl, .int .i64 bh, .slice (some ⟨g, 0, none⟩) 2 2, .int .i64 0, .int .i64 50, .int .i64 60, .int .i64 fl]] w0 (fun v w' => v = .int .i64 0 ∧ Ext w0 w') := by
 refine f_n func59 ?_
 refine go ?_
 refine x_b fun bk2 w3 ebk2 sbk2 B4 u5 => ?_
 refine go ?_
 refine x_l fun bk10 w11 ebk10 sbk10 B12 u13 => ?_
 refine x_c func86 rfl rfl (rw1_t 1 5000 100 _ _ _ B12 (by omega)) ?_
 rintro _ w16 ⟨rfl, u17⟩ zu17
 refine go ?_
 refine x_l fun bk20 w21 ebk20 sbk20 B22 u23 => ?_
 refine x_c func86 rfl rfl (rw1_t 0 200 dl _ _ _ B22 (by omega)) ?_
 rintro _ w26 ⟨rfl, u27⟩ zu27
 refine go ?_
 refine x_l fun bk30 w31 ebk30 sbk30 B32 u33 => ?_
 refine x_c func60 rfl rfl (rvalid_c 0 10000000000 bl bh bk30 _ B32 (by omega)) ?_
 rintro _ w36 ⟨rfl, u37⟩ zu37
 refine go ?_
 refine x_l fun bk40 w41 ebk40 sbk40 B42 u43 => ?_
 refine x_c func86 rfl rfl (rw1_t 2 30 2 _ _ _ B42 (by omega)) ?_
 rintro _ w46 ⟨rfl, u47⟩ zu47
 refine go ?_
 refine x_l fun bk50 w51 ebk50 sbk50 B52 u53 => ?_
 refine x_c func86 rfl rfl (rw2_t 0 10000 0 fl _ _ _ B52 (by omega)) ?_
 rintro _ w56 ⟨rfl, u57⟩ zu57
 refine go ?_
 refine x_l fun bk60 w61 ebk60 sbk60 B62 u63 => ?_
 refine x_c func60 rfl rfl (rvalid_c 0 10000 50 60 bk60 _ B62 (by omega)) ?_
 rintro _ w66 ⟨rfl, u67⟩ zu67
 refine go ?_
 refine x_n fun bk71 w72 ebk71 sbk71 B73 u74 => ?_
 refine x_s fun w76 sw76 B78 u77 => ?_
 have E79 := Sc.mk ((((((((((((((((Upd.refl (fun _ => False) w0).nx u5).nx u13).nx u17).nx u23).nx u27).nx u33).nx u37).nx u43).nx u47).nx u53).nx u57).nx u63).nx u67).nx u74).next u77 (fun i hi h => by omega))
 refine go ?_
 refine c_rounds 3 (WR.weak [(4, .pointer (some ⟨bk71, 0, none⟩)), (53, .slice (some ⟨g, 0, none⟩) 2 2), (54, .int .i64 2), (55, .int .i64 0)] ⟨rfl, rfl, rfl, rfl, trivial⟩ (r_round fun K82 hK82 => (q_of ?_)))
 refine go ?_
 have i87 : 0 < cvR.length := (by decide)
 refine g_i 0 (hcv.keep E79.u (fun _ h => h)) (fun _ => ?_)
 refine st1 ?_
 refine t_same 58 (v := .agg #[.int .i64 0, .int .i64 100]) rfl rfl ?_
 refine x_n fun bk88 w89 ebk88 sbk88 B90 u91 => ?_
 refine x_s fun w93 sw93 B95 u94 => ?_
 refine go ?_
 refine x_l fun bk99 w100 ebk99 sbk99 B101 u102 => ?_
 refine x_c func86 rfl rfl (rw1_t (-1 + 1) 10000000000 0 _ _ _ B101 (by omega)) ?_
 rintro _ w105 ⟨rfl, u106⟩ zu106
 refine go ?_
 refine x_l fun bk109 w110 ebk109 sbk109 B111 u112 => ?_
 refine x_c func86 rfl rfl (rw1_t 0 10000 100 _ _ _ B111 (by omega)) ?_
 rintro _ w115 ⟨rfl, u116⟩ zu116
 refine go ?_
 refine x_s fun w119 sw119 B121 u120 => ?_
 refine go ?_
 refine hK82 _ _ (WR.weak [(4, .pointer (some ⟨bk71, 0, none⟩)), (53, .slice (some ⟨g, 0, none⟩) 2 2), (54, .int .i64 2), (55, .int .i64 1)] ⟨rfl, rfl, rfl, rfl, trivial⟩ (r_round fun K123 hK123 => (q_of ?_)))
 refine go ?_
 have i128 : 1 < cvR.length := (by decide)
 refine g_i 1 (hcv.keep (((((((E79.u.nx u91).next u94 (fun i hi h => by omega)).nx u102).nx u106).nx u112).nx u116).next u120 (fun i hi h => by omega)) (fun _ h => h)) (fun _ => ?_)
 refine st1 ?_
 refine t_same 58 (v := .agg #[.int .i64 10000, .int .i64 300]) rfl rfl ?_
 refine x_n fun bk129 w130 ebk129 sbk129 B131 u132 => ?_
 refine x_s fun w134 sw134 B136 u135 => ?_
 refine go ?_
 refine x_l fun bk140 w141 ebk140 sbk140 B142 u143 => ?_
 refine x_c func86 rfl rfl (rw1_t 1 10000000000 10000 _ _ _ B142 (by omega)) ?_
 rintro _ w146 ⟨rfl, u147⟩ zu147
 refine go ?_
 refine x_l fun bk150 w151 ebk150 sbk150 B152 u153 => ?_
 refine x_c func86 rfl rfl (rw1_t 100 10000 300 _ _ _ B152 (by omega)) ?_
 rintro _ w156 ⟨rfl, u157⟩ zu157
 refine go ?_
 refine x_s fun w160 sw160 B162 u161 => ?_
 refine go ?_
 refine hK123 _ _ (WR.weak [(4, .pointer (some ⟨bk71, 0, none⟩)), (53, .slice (some ⟨g, 0, none⟩) 2 2), (54, .int .i64 2), (55, .int .i64 2)] ⟨rfl, rfl, rfl, rfl, trivial⟩ (r_round fun K164 hK164 => (q_of ?_)))
 refine go ?_
 refine f_1 results59 ?_
 exact ⟨rfl, u_d⟩
theorem down1_c  (w0 : World) :
    CallsV Tryz.prog 89 [.int .i64 400000, .int .i64 10000] w0 (fun v w' => v = .int .i64 40 ∧ Ext w0 w') := by
 refine f_n func89 ?_
 refine go ?_
 refine c_drawnM follows (fun _ => False) (OTl [0, 2, 4, 6, 8, 10, 12, 14]) (by kernel_rfl) fun w3 u4 => ?_
 have zu4 := u4.size
 refine go ?_
 refine y_quo rfl rfl rfl rfl (by omega) (by omega) (y_same 9 (v := .int .i64 40) rfl rfl ?_)
 refine go ?_
 refine y_rem rfl rfl rfl rfl (by omega) (by omega) (y_same 12 (v := .int .i64 0) rfl rfl ?_)
 refine go ?_
 refine f_1 results89 ?_
 exact ⟨rfl, u_d⟩
theorem down2_c  (w0 : World) :
    CallsV Tryz.prog 89 [.int .i64 (-600000), .int .i64 10000] w0 (fun v w' => v = .int .i64 (-60) ∧ Ext w0 w') := by
 refine f_n func89 ?_
 refine go ?_
 refine c_drawnM follows (fun _ => False) (.look 0 (.look 1 (.look 3 (.look 4 (.act 2 (.look 6 (.act 5 (.look 7 .done) .stop)) (.act 5 (.act 2 (.look 6 (.look 7 .done)) .stop) .stop)))))) (by kernel_rfl) fun w3 u4 => ?_
 have zu4 := u4.size
 refine go ?_
 refine s_or ?_ ?_
 ·
  refine go ?_
  refine t_quoV (-60) rfl rfl rfl rfl (by decide) (by decide) (by decide) ?_
  refine go ?_
  refine t_remV 0 rfl rfl rfl rfl (by decide) (by decide) (by decide) ?_
  refine go ?_
  refine f_1 results89 ?_
  exact ⟨rfl, u_d⟩
 refine go ?_
 refine t_remV 0 rfl rfl rfl rfl (by decide) (by decide) (by decide) ?_
 refine go ?_
 refine t_quoV (-60) rfl rfl rfl rfl (by decide) (by decide) (by decide) ?_
 refine go ?_
 refine f_1 results89 ?_
 exact ⟨rfl, u_d⟩
theorem up_c  (w0 : World) :
    CallsV Tryz.prog 90 [.int .i64 600000, .int .i64 10000] w0 (fun v w' => v = .int .i64 60 ∧ Ext w0 w') := by
 refine f_n func90 ?_
 refine go ?_
 refine t_neg rfl rfl rfl (by omega) (t_same 6 (v := .int .i64 (-600000)) rfl rfl ?_)
 refine go ?_
 refine x_c func89 rfl rfl (down2_c _) ?_
 rintro _ w4 ⟨rfl, u5⟩ zu5
 refine t_neg rfl rfl rfl (by omega) (t_same 9 (v := .int .i64 60) rfl rfl ?_)
 refine go ?_
 refine f_1 results90 ?_
 exact ⟨rfl, u_d⟩
theorem at1_c (i : Nat) (fl : Int) (g p q : Nat) (w0 : World) (hi : i < 2) (hcv : Sl encRt 2 w0 (some ⟨g, 0, none⟩) g 0 cvR) (hp : Blk w0 p 96 [.slice (some ⟨g, 0, none⟩) 2 2]) (hq : Blk w0 q 3 [.int .i64 fl]) :
    CallsV Tryz.prog 107 [.int .i64 (i : Int), .pointer (some ⟨p, 0, none⟩), .pointer (some ⟨q, 0, none⟩)] w0 (fun v w' => v = .bool (decide (fl < (nth cvR i).lo)) ∧ Ext w0 w') := by
 refine f_n func107 ?_
 refine go ?_
 refine c_drawnM follows (fun _ => False) (OTl [0, 2, 4, 6, 8, 10, 12, 14]) (by kernel_rfl) fun w3 u4 => ?_
 have zu4 := u4.size
 refine go ?_
 have i6 : i < cvR.length := hi
 refine y_i i (hcv.keep ((Upd.refl (fun _ => False) w0).nx u4) (fun _ h => h)) (fun _ => ?_)
 refine go ?_
 refine f_1 results107 ?_
 exact ⟨rfl, u_d⟩
theorem at_r {fl r : Int} (hf : 0 ≤ fl ∧ fl < 10000) (h0 : 0 ≤ r) (h1 : r ≤ 2) (h2 : 0 < r → decide (fl < (nth cvR (r - 1).toNat).lo) = false) (h3 : r < 2 → decide (fl < (nth cvR r.toNat).lo) = true) : r = 1 := by
  have e : r = 0 ∨ r = 1 ∨ r = 2 := by omega
  rcases e with rfl | rfl | rfl
  · have := of_decide_eq_true (h3 (by decide))
    have e9 : (nth cvR (0 : Int).toNat).lo = 0 := rfl
    omega
  · rfl
  · have := of_decide_eq_false (h2 (by decide))
    have e9 : (nth cvR ((2 : Int) - 1).toNat).lo = 10000 := rfl
    omega
theorem atS_c (fl : Int) (g p q : Nat) (w : World) (hf : 0 ≤ fl ∧ fl < 10000) (hcv : Sl encRt 2 w (some ⟨g, 0, none⟩) g 0 cvR) (hp : Blk w p 96 [.slice (some ⟨g, 0, none⟩) 2 2]) (hq : Blk w q 3 [.int .i64 fl]) :
    CallsV Tryz.prog 106 [.int .i64 2, .func (.func 107) #[] #[.pointer (some ⟨p, 0, none⟩), .pointer (some ⟨q, 0, none⟩)]] w (fun v w' => v = .int .i64 1 ∧ Ext w w') :=
  (search_cV 2 (fun x => decide (fl < (nth cvR x.toNat).lo)) 107 [.pointer (some ⟨p, 0, none⟩), .pointer (some ⟨q, 0, none⟩)] w (by decide) own107 (fun x hx W u => by
    obtain ⟨i, rfl⟩ : ∃ i : Nat, x = (i : Int) := ⟨x.toNat, by omega⟩
    exact at1_c i fl g p q W (by omega) (hcv.keep u (fun _ h => h)) (hp.keep u (fun h => h)) (hq.keep u (fun h => h)))).mono fun v w' ⟨⟨r, e, h0, h1, h2, h3⟩, u⟩ => ⟨by rw [e, at_r hf h0 h1 h2 h3], u⟩
theorem at_c1 (g : Nat) (w0 : World) (hcv : Sl encRt 2 w0 (some ⟨g, 0, none⟩) g 0 cvR) :
    CallsV Tryz.prog 88 [.slice (some ⟨g, 0, none⟩) 2 2, .int .i64 2000, .func (.func 89) #[] #[]] w0 (fun v w' => v = .int .i64 140 ∧ Ext w0 w') := by
 refine f_n func88 ?_
 refine go ?_
 refine x_b fun bk2 w3 ebk2 sbk2 B4 u5 => ?_
 refine x_b fun bk7 w8 ebk7 sbk7 B9 u10 => ?_
 have E11 := Sc.mk (((Upd.refl (fun _ => False) w0).nx u5).nx u10)
 refine go ?_
 refine t_mkfunc (vs := []) (us := [.pointer (some ⟨bk2, 0, none⟩), .pointer (some ⟨bk7, 0, none⟩)]) rfl rfl rfl rfl ?_
 have B13 := (B4.kx u10)
 refine x_c func106 rfl rfl (atS_c 2000 g bk2 bk7 _ (by omega) (hcv.keep E11.u (fun _ h => h)) B13 B9) ?_
 rintro _ w15 ⟨rfl, u16⟩ zu16
 refine go ?_
 refine c_drawnM follows (fun _ => False) (.look 0 (.look 1 (.look 2 (.look 3 (.look 4 (.look 5 (.look 6 (.look 7 (.look 8 (.act 9 (.act 10 (.act 11 (.act 12 .done .stop) .stop) .stop) (.act 10 (.act 9 (.act 11 (.act 12 .done .stop) .stop) .stop) .stop))))))))))) (by kernel_rfl) fun w24 u25 => ?_
 have zu25 := u25.size
 have E26 := Sc.mk ((E11.u.nx u16).nx u25)
 refine go ?_
 have i27 : 0 < cvR.length := (by decide)
 refine y_i 0 (hcv.keep E26.u (fun _ h => h)) (fun _ => ?_)
 refine st1 ?_
 refine y_same 35 (v := .agg #[.int .i64 0, .int .i64 100]) rfl rfl ?_
 refine go ?_
 have i28 : 1 < cvR.length := (by decide)
 refine y_i 1 (hcv.keep E26.u (fun _ h => h)) (fun _ => ?_)
 refine st1 ?_
 refine y_same 39 (v := .agg #[.int .i64 10000, .int .i64 300]) rfl rfl (s_or ?_ ?_)
 ·
  refine go ?_
  refine x_n fun bk29 w30 ebk29 sbk29 B31 u32 => ?_
  refine go ?_
  refine x_n fun bk34 w35 ebk34 sbk34 B36 u37 => ?_
  refine go ?_
  refine x_s fun w39 sw39 B41 u40 => ?_
  refine go ?_
  refine x_s fun w43 sw43 B45 u44 => ?_
  refine go ?_
  refine c_drawnM follows (fun _ => False) (OTl [0, 2, 4, 6, 8, 10, 12, 14, 16, 18, 20, 22, 24, 26, 28, 30, 32, 34, 37, 38, 40]) (by kernel_rfl) fun w48 u49 => ?_
  have zu49 := u49.size
  refine go ?_
  refine x_c func89 rfl rfl (down1_c _) ?_
  rintro _ w52 ⟨rfl, u53⟩ zu53
  refine go ?_
  refine f_1 results88 ?_
  exact ⟨rfl, u_d⟩
 refine go ?_
 refine x_n fun bk56 w57 ebk56 sbk56 B58 u59 => ?_
 refine go ?_
 refine x_n fun bk61 w62 ebk61 sbk61 B63 u64 => ?_
 refine go ?_
 refine x_s fun w66 sw66 B68 u67 => ?_
 refine go ?_
 refine x_s fun w70 sw70 B72 u71 => ?_
 refine go ?_
 refine c_drawnM follows (fun _ => False) (OTl [0, 2, 4, 6, 8, 10, 12, 14, 16, 18, 20, 22, 24, 26, 28, 30, 32, 34, 37, 38, 40]) (by kernel_rfl) fun w75 u76 => ?_
 have zu76 := u76.size
 refine go ?_
 refine x_c func89 rfl rfl (down1_c _) ?_
 rintro _ w79 ⟨rfl, u80⟩ zu80
 refine go ?_
 refine f_1 results88 ?_
 exact ⟨rfl, u_d⟩
theorem at_c2 (g : Nat) (w0 : World) (hcv : Sl encRt 2 w0 (some ⟨g, 0, none⟩) g 0 cvR) :
    CallsV Tryz.prog 88 [.slice (some ⟨g, 0, none⟩) 2 2, .int .i64 3000, .func (.func 90) #[] #[]] w0 (fun v w' => v = .int .i64 160 ∧ Ext w0 w') := by
 refine f_n func88 ?_
 refine go ?_
 refine x_b fun bk2 w3 ebk2 sbk2 B4 u5 => ?_
 refine x_b fun bk7 w8 ebk7 sbk7 B9 u10 => ?_
 have E11 := Sc.mk (((Upd.refl (fun _ => False) w0).nx u5).nx u10)
 refine go ?_
 refine t_mkfunc (vs := []) (us := [.pointer (some ⟨bk2, 0, none⟩), .pointer (some ⟨bk7, 0, none⟩)]) rfl rfl rfl rfl ?_
 have B13 := (B4.kx u10)
 refine x_c func106 rfl rfl (atS_c 3000 g bk2 bk7 _ (by omega) (hcv.keep E11.u (fun _ h => h)) B13 B9) ?_
 rintro _ w15 ⟨rfl, u16⟩ zu16
 refine go ?_
 refine c_drawnM follows (fun _ => False) (.look 0 (.look 1 (.look 2 (.look 3 (.look 4 (.look 5 (.look 6 (.look 7 (.look 8 (.act 9 (.act 10 (.act 11 (.act 12 .done .stop) .stop) .stop) (.act 10 (.act 9 (.act 11 (.act 12 .done .stop) .stop) .stop) .stop))))))))))) (by kernel_rfl) fun w24 u25 => ?_
 have zu25 := u25.size
 have E26 := Sc.mk ((E11.u.nx u16).nx u25)
 refine go ?_
 have i27 : 0 < cvR.length := (by decide)
 refine y_i 0 (hcv.keep E26.u (fun _ h => h)) (fun _ => ?_)
 refine st1 ?_
 refine y_same 35 (v := .agg #[.int .i64 0, .int .i64 100]) rfl rfl ?_
 refine go ?_
 have i28 : 1 < cvR.length := (by decide)
 refine y_i 1 (hcv.keep E26.u (fun _ h => h)) (fun _ => ?_)
 refine st1 ?_
 refine y_same 39 (v := .agg #[.int .i64 10000, .int .i64 300]) rfl rfl (s_or ?_ ?_)
 ·
  refine go ?_
  refine x_n fun bk29 w30 ebk29 sbk29 B31 u32 => ?_
  refine go ?_
  refine x_n fun bk34 w35 ebk34 sbk34 B36 u37 => ?_
  refine go ?_
  refine x_s fun w39 sw39 B41 u40 => ?_
  refine go ?_
  refine x_s fun w43 sw43 B45 u44 => ?_
  refine go ?_
  refine c_drawnM follows (fun _ => False) (OTl [0, 2, 4, 6, 8, 10, 12, 14, 16, 18, 20, 22, 24, 26, 28, 30, 32, 34, 37, 38, 40]) (by kernel_rfl) fun w48 u49 => ?_
  have zu49 := u49.size
  refine go ?_
  refine x_c func90 rfl rfl (up_c _) ?_
  rintro _ w52 ⟨rfl, u53⟩ zu53
  refine go ?_
  refine f_1 results88 ?_
  exact ⟨rfl, u_d⟩
 refine go ?_
 refine x_n fun bk56 w57 ebk56 sbk56 B58 u59 => ?_
 refine go ?_
 refine x_n fun bk61 w62 ebk61 sbk61 B63 u64 => ?_
 refine go ?_
 refine x_s fun w66 sw66 B68 u67 => ?_
 refine go ?_
 refine x_s fun w70 sw70 B72 u71 => ?_
 refine go ?_
 refine c_drawnM follows (fun _ => False) (OTl [0, 2, 4, 6, 8, 10, 12, 14, 16, 18, 20, 22, 24, 26, 28, 30, 32, 34, 37, 38, 40]) (by kernel_rfl) fun w75 u76 => ?_
 have zu76 := u76.size
 refine go ?_
 refine x_c func90 rfl rfl (up_c _) ?_
 rintro _ w79 ⟨rfl, u80⟩ zu80
 refine go ?_
 refine f_1 results88 ?_
 exact ⟨rfl, u_d⟩
theorem rlevel_c (dl bl bh fl : Int) (g : Nat) (w0 : World) (hcv : Sl encRt 2 w0 (some ⟨g, 0, none⟩) g 0 cvR) :
    CallsV Tryz.prog 61 [.agg #[.int .i64 100, .int .i64 dl, .int .i64 bl, .int .i64 bh, .slice (some ⟨g, 0, none⟩) 2 2, .int .i64 0, .int .i64 50, .int .i64 60, .int .i64 fl], .agg #[.int .i64 2000, .int .i64 3000]] w0 (fun v w' => v = .agg #[.int .i64 140, .int .i64 160] ∧ Ext w0 w') := by
 refine f_n func61 ?_
 refine go ?_
 refine x_b fun bk2 w3 ebk2 sbk2 B4 u5 => ?_
 refine x_b fun bk7 w8 ebk7 sbk7 B9 u10 => ?_
 refine x_n fun bk12 w13 ebk12 sbk12 B14 u15 => ?_
 refine go ?_
 refine c_drawnM follows (fun i => i = bk12) (OTl [0, 2, 4, 6, 8, 10, 16, 18, 20, 22, 24, 26, 13, 14, 29, 30, 32, 35]) (by kernel_rfl) fun w18 u19 => ?_
 have zu19 := u19.size
 have E20 := Sc.mk (((((Upd.refl (fun _ => False) w0).nx u5).nx u10).nx u15).nx u19)
 refine go ?_
 refine x_c func88 rfl rfl (at_c1 g _ (hcv.keep E20.u (fun _ h => h))) ?_
 rintro _ w22 ⟨rfl, u23⟩ zu23
 refine go ?_
 refine y_max rfl rfl rfl rfl (y_same 12 (v := .int .i64 140) rfl rfl ?_)
 refine go ?_
 refine x_c func88 rfl rfl (at_c2 g _ (hcv.keep (E20.u.nx u23) (fun _ h => h))) ?_
 rintro _ w27 ⟨rfl, u28⟩ zu28
 refine go ?_
 refine y_max rfl rfl rfl rfl (y_same 20 (v := .int .i64 160) rfl rfl ?_)
 refine go ?_
 refine x_s fun w31 sw31 B33 u32 => ?_
 refine go ?_
 refine f_ret1 (v := .agg #[.int .i64 140, .int .i64 160]) results61 ⟨_, _, rfl, run_loadVarN (vs := [.int .i64 140, .int .i64 160]) isAgg23 sizeOf23 rfl (B33.at.sub 0 2)⟩ ?_
 exact ⟨rfl, u_d⟩
theorem Level_c (dl bl bh fl : Int) (g : Nat) (w0 : World) (hcv : Sl encRt 2 w0 (some ⟨g, 0, none⟩) g 0 cvR) (hd : 0 ≤ dl ∧ dl ≤ 200) (hb : bl ≤ bh ∧ (0 ≤ bl ∧ bl ≤ 10000000000) ∧ (0 ≤ bh ∧ bh ≤ 10000000000)) (hf : 0 ≤ fl ∧ fl ≤ 10000) :
    CallsV Tryz.prog 38 [.agg #[.int .i64 100, .int .i64 dl, .int .i64 bl, .int .i64 bh, .slice (some ⟨g, 0, none⟩) 2 2, .int .i64 0, .int .i64 50, .int .i64 60, .int .i64 fl], .agg #[.int .i64 2000, .int .i64 3000]] w0 (fun v w' => v = .tuple #[.agg #[.int .i64 140, .int .i64 160], .int .i64 0] ∧ Ext w0 w') := by
 refine f_n func38 ?_
 refine go ?_
 refine x_b fun bk2 w3 ebk2 sbk2 B4 u5 => ?_
 refine x_b fun bk7 w8 ebk7 sbk7 B9 u10 => ?_
 refine x_n fun bk12 w13 ebk12 sbk12 B14 u15 => ?_
 have E16 := Sc.mk ((((Upd.refl (fun _ => False) w0).nx u5).nx u10).nx u15)
 refine go ?_
 refine x_c func59 rfl rfl (rcheck_c dl bl bh fl g _ (hcv.keep E16.u (fun _ h => h)) hd hb hf) ?_
 rintro _ w20 ⟨rfl, u21⟩ zu21
 refine go ?_
 refine x_l fun bk25 w26 ebk25 sbk25 B27 u28 => ?_
 refine x_c func60 rfl rfl (rvalid_c 0 210000000000 2000 3000 bk25 _ B27 (by omega)) ?_
 rintro _ w31 ⟨rfl, u32⟩ zu32
 refine go ?_
 refine x_c func61 rfl rfl (rlevel_c dl bl bh fl g _ (hcv.keep (((E16.u.nx u21).nx u28).nx u32) (fun _ h => h))) ?_
 rintro _ w37 ⟨rfl, u38⟩ zu38
 refine x_s fun w41 sw41 B43 u42 => ?_
 refine go ?_
 refine f_ret2 (v1 := .agg #[.int .i64 140, .int .i64 160]) (v2 := .int .i64 0) results38 ⟨_, _, rfl, run_loadVarN (vs := [.int .i64 140, .int .i64 160]) isAgg23 sizeOf23 rfl (B43.at.sub 0 2)⟩ rfl ?_
 exact ⟨rfl, u_d⟩

end Go.Proofs.YtbcedieodibehaaGreat
namespace Go.Proofs.YtbcedieodibehaaGreat
open Go Go.RowKit Go.Proofs.Tryz
set_option maxRecDepth 10000
def knR : Rul := ⟨600, 840, 600, 2880, 1000⟩
def knD (b e : Int) : Dty := ⟨b, b, e, e⟩
def knL : List Dty := [knD 0 300, knD 400 700]
def knM : List Dty := [knD 0 300, knD 899 1200]
theorem kn_chk : chkRD knR knL = 0 ∧ chkRD knR knM = 0 := ⟨by kernel_rfl, by kernel_rfl⟩
theorem kn_b1 : brkK knR knM 1 = 0 := by kernel_rfl
theorem kn_b2 : brkK knR knM 2 = 2 := by kernel_rfl
theorem kn_b3 : brokP knR (srtS (knM.map shtS)) = 2 := by kernel_rfl
theorem kn_rested {at_ rule e : Int} {pos : Bool} (h : RestA knR knM at_ rule pos e) : at_ = 1 ∧ rule = 2 ∧ pos = false ∧ e = 0 := by
  rcases h with ⟨h, _⟩ | ⟨_, h1, h2, h3⟩
  · exact absurd kn_chk.2 h
  · rw [kn_b3] at h3
    rcases h2 with ⟨_, _, h4⟩ | ⟨k, hk, h4, h5, h6, h7⟩
    · have := h4 1 (by decide); rw [kn_b2] at this; cases this
    · match k, hk with
      | 0, _ => rw [kn_b1] at h5; exact absurd h5 h6
      | 1, _ => rw [kn_b2] at h5; exact ⟨h4, h5, h3, h1⟩

theorem eqIn23 (n : Nat) (a0 : Int) (a1 : Int) (b0 : Int) (b1 : Int) (w : World) : (Op.equalIn (n + 2) 23 (.agg #[.int .i64 a0, .int .i64 a1]) (.agg #[.int .i64 b0, .int .i64 b1])).run Tryz.prog w = .ok (decide (a0 = b0) && decide (a1 = b1)) w := by
  have hS : Tryz.prog.underlying 23 = some (.struct (Tryz.prog.fieldsOf 23)) := by kernel_rfl
  have hp : Tryz.prog.stoodInHeld 23 = false := by kernel_rfl
  have p0 : ∀ (a0 : Int) (a1 : Int), (part 3 #[.int .i64 a0, .int .i64 a1] 0).run Tryz.prog w = .ok (.int .i64 a0) w := fun _ _ => by simp [part, isAgg3]
  have p1 : ∀ (a0 : Int) (a1 : Int), (part 3 #[.int .i64 a0, .int .i64 a1] 1).run Tryz.prog w = .ok (.int .i64 a1) w := fun _ _ => by simp [part, isAgg3]
  have e3 := fun a b w => equal_i64 underlying3 (n + 0) a b w
  rw [run_equalIn_struct w (n + 1) 23 _ _ hS hp]
  simp only [Program.fieldsOf, underlying23]
  simp only [Op.eqFields, Sem.run_bind, Sem.run_ite, p0, p1, e3, Result.andThen_ok]
  by_cases h0 : a0 = b0 <;> by_cases h1 : a1 = b1 <;> simp [h0, h1]


def svR : Voy := ⟨⟨0, 10⟩, [⟨0, 100, ⟨50, 100⟩, ⟨0, 0⟩⟩], 200, 22⟩
theorem arr_r : ArrB svR 50 = ⟨30, 70⟩ ∧ ArrE svR 50 = 0 := ⟨by kernel_rfl, by kernel_rfl⟩
theorem haulRest_c  (w0 : World) :
    CallsV Tryz.prog 21 [] w0 (fun v w' => v = .agg #[.int .i64 600, .int .i64 840, .int .i64 600, .int .i64 2880, .int .i64 1000] ∧ Ext w0 w') := by
 refine f_n func21 ?_
 refine go ?_
 refine x_n fun bk2 w3 ebk2 sbk2 B4 u5 => ?_
 refine go ?_
 refine x_s fun w8 sw8 B10 u9 => ?_
 refine go ?_
 refine f_ret1 (v := .agg #[.int .i64 600, .int .i64 840, .int .i64 600, .int .i64 2880, .int .i64 1000]) results21 ⟨_, _, rfl, run_loadVarN (vs := [.int .i64 600, .int .i64 840, .int .i64 600, .int .i64 2880, .int .i64 1000]) isAgg27 sizeOf27 rfl (B10.at.sub 0 5)⟩ ?_
 exact ⟨rfl, u_d⟩

theorem kcrew1_c (a b : Int) (w0 : World) :
    CallsV Tryz.prog 20 [.int .i64 a, .int .i64 b] w0 (fun v w' => v = .agg #[.int .i64 a, .int .i64 a, .int .i64 b, .int .i64 b] ∧ Ext w0 w') := by
 refine f_n func20 ?_
 refine go ?_
 refine x_n fun bk2 w3 ebk2 sbk2 B4 u5 => ?_
 refine go ?_
 refine x_s fun w8 sw8 B10 u9 => ?_
 refine go ?_
 refine f_ret1 (v := .agg #[.int .i64 a, .int .i64 a, .int .i64 b, .int .i64 b]) results20 ⟨_, _, rfl, run_loadVarN (vs := [.int .i64 a, .int .i64 a, .int .i64 b, .int .i64 b]) isAgg25 sizeOf25 rfl (B10.at.sub 0 4)⟩ ?_
 exact ⟨rfl, u_d⟩

theorem knownRiver_c  (w0 : World) :
    CallsV Tryz.prog 19 [] w0 (fun v w' => v = .bool true ∧ Ext w0 w') := by
 refine f_n func19 ?_
 refine go ?_
 refine x_l fun bk3 w4 ebk3 sbk3 B5 u6 => ?_
 refine go ?_
 refine x_n fun bk8 w9 ebk8 sbk8 B10 u11 => ?_
 refine x_s fun w13 sw13 B15 u14 => ?_
 refine go ?_
 have B18 := ((B5.kx u11).keep u14 (by omega))
 refine x_c func38 rfl rfl (Level_c 0 0 0 0 bk3 _ (Sl.ofBlk (enc := encRt) (xs := cvR) (fun _ => rfl) B18) (by decide) (by decide) (by decide)) ?_
 rintro _ w20 ⟨rfl, u21⟩ zu21
 refine go ?_
 refine x_n fun bk24 w25 ebk24 sbk24 B26 u27 => ?_
 refine x_s fun w29 sw29 B31 u30 => ?_
 refine go ?_
 refine x_l fun bk34 w35 ebk34 sbk34 B36 u37 => ?_
 refine go ?_
 refine x_n fun bk39 w40 ebk39 sbk39 B41 u42 => ?_
 refine x_s fun w44 sw44 B46 u45 => ?_
 refine go ?_
 have B49 := ((B36.kx u42).keep u45 (by omega))
 refine x_c func39 rfl rfl (Arrive_c svR (some ⟨bk34, 0, none⟩) bk34 0 1 50 _ (Sl.ofBlk (enc := encRun) (xs := svR.runs) (fun _ => rfl) B49) (by decide)) ?_
 rintro _ w51 ⟨rfl, u52⟩ zu52
 iterate 2 refine st1 ?_
 refine t_same 26 (v := .agg #[.int .i64 30, .int .i64 70]) rfl (congrArg (fun x : Bnd => Value.agg #[.int .i64 x.lo, .int .i64 x.hi]) arr_r.1) ?_
 refine st1 ?_
 refine t_same 27 (v := .int .i64 0) rfl (congrArg (Value.int .i64) arr_r.2) ?_
 refine x_n fun bk55 w56 ebk55 sbk55 B57 u58 => ?_
 refine x_s fun w60 sw60 B62 u61 => ?_
 refine go ?_
 refine t_eqS (xs := [.int .i64 140, .int .i64 160]) (ys := [.int .i64 140, .int .i64 160]) (by kernel_rfl) (eqIn23 9998 140 160 140 160) rfl rfl rfl rfl (t_samehd (v := .bool true) rfl ?_)
 refine go ?_
 refine t_eqS (xs := [.int .i64 30, .int .i64 70]) (ys := [.int .i64 30, .int .i64 70]) (by kernel_rfl) (eqIn23 9998 30 70 30 70) rfl rfl rfl rfl (t_samehd (v := .bool true) rfl ?_)
 refine go ?_
 refine f_1 results19 ?_
 exact ⟨rfl, u_d⟩

theorem knownCrew_c  (w0 : World) :
    CallsV Tryz.prog 6 [] w0 (fun v w' => v = .bool true ∧ Ext w0 w') := by
 refine f_n func6 ?_
 refine go ?_
 refine x_c func21 rfl rfl (haulRest_c _) ?_
 rintro _ w5 ⟨rfl, u6⟩ zu6
 refine go ?_
 refine x_c func20 rfl rfl (kcrew1_c 0 300 _) ?_
 rintro _ w10 ⟨rfl, u11⟩ zu11
 refine go ?_
 refine x_c func20 rfl rfl (kcrew1_c 899 1200 _) ?_
 rintro _ w15 ⟨rfl, u16⟩ zu16
 refine x_l fun bk19 w20 ebk19 sbk19 B21 u22 => ?_
 refine x_c func4 rfl rfl (Rested_c knR knM (some ⟨bk19, 0, none⟩) bk19 0 2 _ (Sl.ofBlk (enc := encDty) (xs := knM) (fun _ => rfl) B21) (by decide) (by omega)) ?_
 rintro _ w25 ⟨⟨at9, ru9, po9, er9, rfl, hR9⟩, u26⟩ zu26
 obtain ⟨rfl, rfl, rfl, rfl⟩ := kn_rested hR9
 refine go ?_
 refine x_c func19 rfl rfl (knownRiver_c _) ?_
 rintro _ w31 ⟨rfl, u32⟩ zu32
 refine go ?_
 refine f_1 results6 ?_
 exact ⟨rfl, u_d⟩

end Go.Proofs.YtbcedieodibehaaGreat
namespace Go.Proofs.YtbcedieodibehaaGreat
open Go Go.RowKit Go.Proofs.Tryz
set_option maxRecDepth 10000

/-! The document's example -/
def lstK : List Lnk := [⟨0, 1, 1000000⟩, ⟨1, 0, 0⟩, ⟨0, 2, 1000000⟩, ⟨2, 0, 0⟩, ⟨1, 2, 30⟩, ⟨2, 1, -20⟩, ⟨1, 2, 12⟩, ⟨2, 1, -10⟩]
def gapK (lo hi : Int) : Opt := ⟨2, 1, 0, 0, lo, hi⟩
theorem webK : opnW 2 [] [gapK 20 30, gapK 10 12] = lstK := rfl
theorem rchK : rchW 3 lstK (-1) = ⟨[-28, -36, -24], [1, 5, 6], 2⟩ := by kernel_rfl
theorem lstK_ok : ∀ l ∈ lstK, okLnk 3 l := by
  intro l hl
  unfold lstK at hl
  simp only [List.mem_cons, List.not_mem_nil, or_false] at hl
  unfold okLnk
  rcases hl with rfl | rfl | rfl | rfl | rfl | rfl | rfl | rfl <;> dsimp only <;> omega
theorem okg {n m : Nat} {e a lo hi : Int} (h : (0 ≤ e ∧ e ≤ (n : Int) - 1) ∧ (lo ≤ hi ∧ -2000000 ≤ lo ∧ hi ≤ 2000000) ∧ (0 ≤ a ∧ a ≤ (n : Int) - 1) ∧ a ≠ e) : okOptP n m ⟨2, e, 0, a, lo, hi⟩ := by
  unfold okOptP; dsimp only; omega
theorem oks {n m : Nat} {e lo hi : Int} (h : (0 ≤ e ∧ e ≤ (n : Int) - 1) ∧ (lo ≤ hi ∧ -2000000 ≤ lo ∧ hi ≤ 2000000) ∧ 1 ≤ m) : okOptP n m ⟨1, e, 0, 0, lo, hi⟩ := by
  unfold okOptP; dsimp only; omega
theorem memS {α : Type} {P : α → Prop} {l : List α} {x : α} (h : ∀ y ∈ l, P y) (hx : P x) : ∀ y ∈ l ++ [x], P y := fun y hy => (List.mem_append.1 hy).elim (h y) fun q => by rw [List.mem_singleton.1 q]; exact hx
theorem memN {α : Type} {P : α → Prop} : ∀ y ∈ ([] : List α), P y := fun y hy => by cases hy
theorem reachK_c (pg : Nat) (ac : Option Addr) (cc : Nat) (ar : Option Addr) (q cr : Nat) (ao : Option Addr) (ga oa ca : Nat) (w0 : World) (hgb : Blk w0 pg 108 [.int .i64 2, .slice ac 0 cc, .slice ar q cr, .slice ao 8 ca]) (hxs : Sl encLnk 3 w0 ao ga oa lstK) : CallsV Tryz.prog 43 [.pointer (some ⟨pg, 0, none⟩), .int .i64 (-1)] w0 (fun v w' => (∃ al gl cl ab gb cb, v = .tuple #[.slice al 3 cl, .slice ab 3 cb, .int .i64 2] ∧ Acc encI 1 3 w0.heap.size w' al gl cl [-28, -36, -24] ∧ Acc encI 1 3 w0.heap.size w' ab gb cb [1, 5, 6]) ∧ Ext w0 w') :=
  (reach_c pg 2 ac 0 cc ar q cr ao ga oa ca lstK (-1) w0 hgb hxs lstK_ok (by decide) (by decide) (by decide)).mono fun v w' h => by
    have e : rchW (1 + 2 + 0) lstK (-1) = ⟨[-28, -36, -24], [1, 5, 6], 2⟩ := rchK
    rw [e] at h; exact h

set_option maxHeartbeats 4000000 in
theorem ringK_c (pg : Nat) (ac : Option Addr) (cc : Nat) (ar : Option Addr) (q cr : Nat) (ao : Option Addr) (ga oa ca : Nat) (w0 : World) (hgb : Blk w0 pg 108 [.int .i64 2, .slice ac 0 cc, .slice ar q cr, .slice ao 8 ca]) (hxs : Sl encLnk 3 w0 ao ga oa lstK) (hpos : 0 < w0.heap.size) :
    CallsV Tryz.prog 37 [.pointer (some ⟨pg, 0, none⟩)] w0 (fun v w' => (∃ al gl cl, v = .slice al 2 cl ∧ Acc encLnk 3 69 w0.heap.size w' al gl cl [⟨1, 2, 12⟩, ⟨2, 1, -20⟩]) ∧ Ext w0 w') := by
 have hpgl := hgb.lt
 refine f_n func37 ?_
 refine go ?_
 refine x_c func43 rfl rfl (reachK_c pg ac cc ar q cr ao ga oa ca _ hgb hxs) ?_
 rintro _ w4 ⟨⟨al, gl, cl, ab, gb, cb, rfl, hAl, hAb⟩, u5⟩ zu5
 have lt_gl := hAl.lt
 have lt_gb := hAb.lt
 refine go ?_
 have B12 := (hgb.kx u5)
 refine x_c func58 rfl rfl (many_c pg 2 ac 0 cc ar q cr ao 8 ca _ B12 (by decide)) ?_
 rintro _ w14 ⟨rfl, u15⟩ zu15
 refine go ?_
 refine c_rounds 4 (WR.weak [(0, .pointer (some ⟨pg, 0, none⟩)), (2, .slice none 0 0), (4, .slice ab 3 cb), (5, .int .i64 2), (17, .int .i64 3), (18, .int .i64 0)] ⟨rfl, rfl, rfl, rfl, rfl, rfl, trivial⟩ (r_round fun K18 hK18 => (q_of ?_)))
 refine go ?_
 refine c_drawnM follows (fun _ => False) (OTl [0, 2, 4, 6, 8, 10, 12, 14, 16, 18, 20, 22]) (by kernel_rfl) fun w22 u23 => ?_
 have zu23 := u23.size
 have E24 := Sc.mk ((((Upd.refl (fun _ => False) w0).nx u5).nx u15).nx u23)
 refine go ?_
 have D25 := ((hAb.keep u15 (fun _ h => h)).keep u23 (fun _ h => h))
 have i26 : 2 < ([1, 5, 6] : List Int).length := (by decide)
 refine y_i 2 (D25.sl (fun _ => rfl)) (fun _ => ?_)
 refine st1 ?_
 refine y_same 27 (v := .int .i64 6) rfl rfl ?_
 have i27 : 6 < lstK.length := (by decide)
 refine y_i 6 (hxs.keep E24.u (fun _ h => h)) (fun _ => ?_)
 iterate 2 refine st1 ?_
 refine y_same 30 (v := .int .i64 1) rfl rfl ?_
 refine go ?_
 refine hK18 _ _ (WR.weak [(0, .pointer (some ⟨pg, 0, none⟩)), (2, .slice none 0 0), (4, .slice ab 3 cb), (5, .int .i64 1), (17, .int .i64 3), (18, .int .i64 1)] ⟨rfl, rfl, rfl, rfl, rfl, rfl, trivial⟩ (r_round fun K28 hK28 => (q_of ?_)))
 refine go ?_
 refine c_drawnM follows (fun _ => False) (OTl [0, 2, 4, 6, 8, 10, 12, 14, 16, 18, 20, 22]) (by kernel_rfl) fun w32 u33 => ?_
 have zu33 := u33.size
 have E34 := Sc.mk (E24.u.nx u33)
 refine go ?_
 have D35 := (D25.keep u33 (fun _ h => h))
 have i36 : 1 < ([1, 5, 6] : List Int).length := (by decide)
 refine y_i 1 (D35.sl (fun _ => rfl)) (fun _ => ?_)
 refine st1 ?_
 refine y_same 27 (v := .int .i64 5) rfl rfl ?_
 have i37 : 5 < lstK.length := (by decide)
 refine y_i 5 (hxs.keep E34.u (fun _ h => h)) (fun _ => ?_)
 iterate 2 refine st1 ?_
 refine y_same 30 (v := .int .i64 2) rfl rfl ?_
 refine go ?_
 refine hK28 _ _ (WR.weak [(0, .pointer (some ⟨pg, 0, none⟩)), (2, .slice none 0 0), (4, .slice ab 3 cb), (5, .int .i64 2), (17, .int .i64 3), (18, .int .i64 2)] ⟨rfl, rfl, rfl, rfl, rfl, rfl, trivial⟩ (r_round fun K38 hK38 => (q_of ?_)))
 refine go ?_
 refine c_drawnM follows (fun _ => False) (OTl [0, 2, 4, 6, 8, 10, 12, 14, 16, 18, 20, 22]) (by kernel_rfl) fun w42 u43 => ?_
 have zu43 := u43.size
 have E44 := Sc.mk (E34.u.nx u43)
 refine go ?_
 have D45 := (D35.keep u43 (fun _ h => h))
 have i46 : 2 < ([1, 5, 6] : List Int).length := (by decide)
 refine y_i 2 (D45.sl (fun _ => rfl)) (fun _ => ?_)
 refine st1 ?_
 refine y_same 27 (v := .int .i64 6) rfl rfl ?_
 have i47 : 6 < lstK.length := (by decide)
 refine y_i 6 (hxs.keep E44.u (fun _ h => h)) (fun _ => ?_)
 iterate 2 refine st1 ?_
 refine y_same 30 (v := .int .i64 1) rfl rfl ?_
 refine go ?_
 refine hK38 _ _ (WR.weak [(0, .pointer (some ⟨pg, 0, none⟩)), (2, .slice none 0 0), (4, .slice ab 3 cb), (5, .int .i64 1), (17, .int .i64 3), (18, .int .i64 3)] ⟨rfl, rfl, rfl, rfl, rfl, rfl, trivial⟩ (r_round fun K48 hK48 => (q_of ?_)))
 refine go ?_
 refine c_rounds 3 (WR.weak [(0, .pointer (some ⟨pg, 0, none⟩)), (2, .slice none 0 0), (4, .slice ab 3 cb), (5, .int .i64 1), (6, .int .i64 1)] ⟨rfl, rfl, rfl, rfl, rfl, trivial⟩ (r_round fun K53 hK53 => (q_of ?_)))
 iterate 5 refine st1 ?_
 refine t_same 34 (v := .int .i64 0) rfl rfl ?_
 refine st1 ?_
 refine t_same 35 (v := .bool true) rfl rfl ?_
 refine go ?_
 refine c_drawnM follows (fun _ => False) (OTl [0, 2, 4, 6, 8, 10, 12, 14, 16, 18, 21, 23]) (by kernel_rfl) fun w57 u58 => ?_
 have zu58 := u58.size
 have E59 := Sc.mk (E44.u.nx u58)
 refine go ?_
 have D60 := (D45.keep u58 (fun _ h => h))
 have i61 : 1 < ([1, 5, 6] : List Int).length := (by decide)
 refine y_i 1 (D60.sl (fun _ => rfl)) (fun _ => ?_)
 refine st1 ?_
 refine y_same 48 (v := .int .i64 5) rfl rfl ?_
 have i62 : 5 < lstK.length := (by decide)
 refine y_i 5 (hxs.keep E59.u (fun _ h => h)) (fun _ => ?_)
 refine st1 ?_
 refine y_same 50 (v := .agg #[.int .i64 2, .int .i64 1, .int .i64 (-20)]) rfl rfl ?_
 refine go ?_
 refine x_n fun bk63 w64 ebk63 sbk63 B65 u66 => ?_
 refine go ?_
 refine x_s fun w68 sw68 B70 u69 => ?_
 refine go ?_
 refine c_drawnM follows (fun _ => False) (OTl [0, 4, 8, 10, 3, 7, 12, 14]) (by kernel_rfl) fun w72 u73 => ?_
 have zu73 := u73.size
 iterate 2 refine st1 ?_
 refine y_same 53 (v := .slice none 0 0) rfl rfl ?_
 refine go ?_
 refine x_l fun bk75 w76 ebk75 sbk75 B77 u78 => ?_
 refine go ?_
 refine t_appLit (enc := encLnk) (z := .agg #[.int .i64 0, .int .i64 0, .int .i64 0]) (bytes := 24) (k := 3) (xs := ([⟨2, 1, (-20)⟩] : List Lnk)) (ys := ([] : List Lnk)) underlying65 (by kernel_rfl) rfl (by decide) (fun _ => rfl) (by intro x; simp [encLnk, Value.oneCell']) rfl rfl rfl rfl B77 (Sl.nil _ _ _ _ 0 0) (by first | decide | simp) (by show _ ≤ 1000000; decide) (by decide) (fun ao80 gb81 cp82 w83 A84 u85 gegb81 => ?_)
 have zu85 := u85.size
 have lt_gb81 := A84.lt
 refine go ?_
 refine hK53 _ _ (WR.weak [(0, .pointer (some ⟨pg, 0, none⟩)), (2, .slice ao80 (((([⟨2, 1, (-20)⟩] : List Lnk) ++ ([] : List Lnk))).length) cp82), (4, .slice ab 3 cb), (5, .int .i64 1), (6, .int .i64 2)] ⟨rfl, rfl, rfl, rfl, rfl, trivial⟩ (r_round fun K87 hK87 => (q_of ?_)))
 iterate 5 refine st1 ?_
 refine t_same 34 (v := .int .i64 1) rfl rfl ?_
 refine st1 ?_
 refine t_same 35 (v := .bool false) rfl rfl ?_
 iterate 4 refine st1 ?_
 refine t_same 39 (v := .bool true) rfl rfl ?_
 refine go ?_
 refine c_drawnM follows (fun _ => False) (OTl [0, 2, 4, 6, 8, 10, 12, 14, 16, 18, 21, 23]) (by kernel_rfl) fun w91 u92 => ?_
 have zu92 := u92.size
 refine go ?_
 have D94 := ((((((D60.keep u66 (fun _ h => h)).keep u69 (fun hb => show ¬ (gb = bk63) by first | omega | assumption)).keep u73 (fun _ h => h)).keep u78 (fun _ h => h)).keep u85 (fun hb => show ¬ ((gb = bk75 ∧ bk75 ≤ gb)) by first | omega | assumption)).keep u92 (fun _ h => h))
 have i95 : 2 < ([1, 5, 6] : List Int).length := (by decide)
 refine y_i 2 (D94.sl (fun _ => rfl)) (fun _ => ?_)
 refine st1 ?_
 refine y_same 48 (v := .int .i64 6) rfl rfl ?_
 have i96 : 6 < lstK.length := (by decide)
 refine y_i 6 (hxs.keep ((((((E59.u.nx u66).next u69 (fun i hi h => by omega)).nx u73).nx u78).next u85 (fun i hi h => by omega)).nx u92) (fun _ h => h)) (fun _ => ?_)
 refine st1 ?_
 refine y_same 50 (v := .agg #[.int .i64 1, .int .i64 2, .int .i64 12]) rfl rfl ?_
 refine go ?_
 refine x_n fun bk97 w98 ebk97 sbk97 B99 u100 => ?_
 refine go ?_
 refine x_s fun w102 sw102 B104 u103 => ?_
 refine go ?_
 refine c_drawnM follows (fun _ => False) (OTl [0, 4, 8, 10, 3, 7, 12, 14]) (by kernel_rfl) fun w106 u107 => ?_
 have zu107 := u107.size
 iterate 2 refine st1 ?_
 refine y_same 53 (v := .slice ao80 (((([⟨2, 1, (-20)⟩] : List Lnk) ++ ([] : List Lnk))).length) cp82) rfl rfl ?_
 refine go ?_
 refine x_l fun bk109 w110 ebk109 sbk109 B111 u112 => ?_
 refine go ?_
 have D114 := (((((A84.keep u92 (fun _ h => h)).keep u100 (fun _ h => h)).keep u103 (fun hb => show ¬ (gb81 = bk97) by first | omega | assumption)).keep u107 (fun _ h => h)).keep u112 (fun _ h => h))
 refine t_appLit (enc := encLnk) (z := .agg #[.int .i64 0, .int .i64 0, .int .i64 0]) (bytes := 24) (k := 3) (xs := ([⟨1, 2, 12⟩] : List Lnk)) (ys := (([⟨2, 1, (-20)⟩] : List Lnk) ++ ([] : List Lnk))) underlying65 (by kernel_rfl) rfl (by decide) (fun _ => rfl) (by intro x; simp [encLnk, Value.oneCell']) rfl rfl rfl rfl B111 (D114.sl (fun _ => rfl)) (by first | decide | simp) (by show _ ≤ 1000000; decide) (by decide) (fun ao115 gb116 cp117 w118 A119 u120 gegb116 => ?_)
 have zu120 := u120.size
 have lt_gb116 := A119.lt
 refine go ?_
 refine hK87 _ _ (WR.weak [(0, .pointer (some ⟨pg, 0, none⟩)), (2, .slice ao115 (((([⟨1, 2, 12⟩] : List Lnk) ++ (([⟨2, 1, (-20)⟩] : List Lnk) ++ ([] : List Lnk)))).length) cp117), (4, .slice ab 3 cb), (5, .int .i64 1), (6, .int .i64 1)] ⟨rfl, rfl, rfl, rfl, rfl, trivial⟩ (r_round fun K122 hK122 => (q_of ?_)))
 iterate 5 refine st1 ?_
 refine t_same 34 (v := .int .i64 2) rfl rfl ?_
 refine st1 ?_
 refine t_same 35 (v := .bool false) rfl rfl ?_
 iterate 4 refine st1 ?_
 refine t_same 39 (v := .bool false) rfl rfl ?_
 refine go ?_
 refine f_1 results37 ?_
 obtain ⟨g9, ha9⟩ := Acc.lower (base' := w0.heap.size) A119 (by omega) hpos
 exact ⟨⟨ao115, g9, cp117, rfl, ha9⟩, u_d⟩

theorem ProofK_c (ac : Option Addr) (bc oc cc : Nat) (rows : List HC) (ar : Option Addr) (br or_ cr : Nat) (co : List Int) (aco : Option Addr) (bco oco cco : Nat) (w0 : World) (hc : CaM w0 2 [] ac bc oc rows ar br or_) (hco : Sl encI 1 w0 aco bco oco co) (hcz : ∀ x ∈ co, x = 0) (hck : co.length = rows.length) (hos : osR rows = [gapK 20 30, gapK 10 12]) (hpos : 0 < w0.heap.size) :
    CallsV Tryz.prog 18 [.agg #[.int .i64 2, .slice ac 0 cc, .slice ar rows.length cr], .slice aco co.length cco] w0 (fun v w' => (∃ al gl cl, v = .tuple #[.slice al 2 cl, .int .i64 0] ∧ Acc encLnk 3 69 w0.heap.size w' al gl cl [⟨1, 2, 12⟩, ⟨2, 1, -20⟩]) ∧ Ext w0 w') := by
 have hrl := hc.hr
 refine f_n func18 ?_
 refine go ?_
 refine x_b fun bk2 w3 ebk2 sbk2 B4 u5 => ?_
 have E6 := Sc.mk ((Upd.refl (fun _ => False) w0).nx u5)
 refine go ?_
 refine x_c func22 rfl rfl (wCourse_c 2 [] ac bc oc cc rows ar br or_ cr co aco bco oco cco _ (hc.ext E6.u) (hco.keep E6.u (fun _ h => h)) hcz hck) ?_
 rintro _ w10 ⟨rfl, u11⟩ zu11
 have E13 := Sc.mk (E6.u.nx u11)
 refine go ?_
 refine x_c func23 rfl rfl (wopen_c 2 [] ac bc oc cc rows ar br or_ cr co aco bco oco cco _ (hc.ext E13.u) (hco.keep E13.u (fun _ h => h)) hcz hck (by omega)) ?_
 rintro _ w18 ⟨⟨gbo16, aoo16, gao16, cao16, bso16, rfl, hio16, hjo16, hko16, hgo16, hao16⟩, u19⟩ zu19
 rw [hos, webK] at hgo16 hao16
 have lwo16 := hgo16.lt
 have lt_gao16 := hao16.lt
 refine x_c func37 rfl rfl (ringK_c gbo16 ac cc ar rows.length cr aoo16 gao16 0 cao16 _ hgo16 (hao16.sl (fun _ => rfl)) (by omega)) ?_
 rintro _ w23 ⟨⟨aR, gR, cR, rfl, hAR⟩, u24⟩ zu24
 have lt_gR := hAR.lt
 refine go ?_
 refine f_ret2 (v1 := .slice aR 2 cR) (v2 := .int .i64 0) results18 rfl rfl ?_
 obtain ⟨g9, ha9⟩ := Acc.lower (base' := w0.heap.size) hAR (by omega) hpos
 exact ⟨⟨aR, g9, cR, rfl, ha9⟩, u_d⟩

theorem knownSeen_c  (w0 : World) :
    CallsV Tryz.prog 5 [] w0 (fun v w' => v = .bool true ∧ Ext w0 w') := by
 refine f_n func5 ?_
 refine go ?_
 refine x_l fun bk3 w4 ebk3 sbk3 B5 u6 => ?_
 refine go ?_
 refine x_l fun bk8 w9 ebk8 sbk8 B10 u11 => ?_
 refine go ?_
 refine x_l fun bk13 w14 ebk13 sbk13 B15 u16 => ?_
 refine go ?_
 refine x_n fun bk18 w19 ebk18 sbk18 B20 u21 => ?_
 refine x_s fun w23 sw23 B25 u24 => ?_
 refine go ?_
 refine x_l fun bk28 w29 ebk28 sbk28 B30 u31 => ?_
 have B33 := (((((B5.kx u11).kx u16).kx u21).keep u24 (by omega)).kx u31)
 have B34 := ((((B10.kx u16).kx u21).keep u24 (by omega)).kx u31)
 have B35 := (((B15.kx u21).keep u24 (by omega)).kx u31)
 have hca : CaM w29 2 [] none 0 0 [(⟨[gapK 20 30], some ⟨bk3, 0, none⟩, bk3, 0, 1⟩ : HC), (⟨[gapK 10 12], some ⟨bk8, 0, none⟩, bk8, 0, 1⟩ : HC)] (some ⟨bk13, 0, none⟩) bk13 0 := ⟨Sl.nil _ _ _ _ _ _, Sl.ofBlk (enc := encHC) (xs := [(⟨[gapK 20 30], some ⟨bk3, 0, none⟩, bk3, 0, 1⟩ : HC), (⟨[gapK 10 12], some ⟨bk8, 0, none⟩, bk8, 0, 1⟩ : HC)]) (fun _ => rfl) B35, memS (l := [(⟨[gapK 20 30], some ⟨bk3, 0, none⟩, bk3, 0, 1⟩ : HC)]) (memS (l := []) memN ⟨Sl.ofBlk (enc := encOpt) (xs := [gapK 20 30]) (fun _ => rfl) B33, rfl⟩) ⟨Sl.ofBlk (enc := encOpt) (xs := [gapK 10 12]) (fun _ => rfl) B34, rfl⟩, ⟨by decide, by decide⟩, by decide, (by show 2 ≤ 20; decide), (fun b hb => by cases hb), memS (l := [(⟨[gapK 20 30], some ⟨bk3, 0, none⟩, bk3, 0, 1⟩ : HC)]) (memS (l := []) memN (okg (n := 2) (by omega))) (okg (n := 2) (by omega))⟩
 refine x_c func18 rfl rfl (ProofK_c none 0 0 0 [(⟨[gapK 20 30], some ⟨bk3, 0, none⟩, bk3, 0, 1⟩ : HC), (⟨[gapK 10 12], some ⟨bk8, 0, none⟩, bk8, 0, 1⟩ : HC)] (some ⟨bk13, 0, none⟩) bk13 0 2 [0, 0] (some ⟨bk28, 0, none⟩) bk28 0 2 _ hca (SlI.own (xs := [0, 0]) B30) (by simp) rfl rfl (by omega)) ?_
 rintro _ w37 ⟨⟨aR, gR, cR, rfl, hAR⟩, u38⟩ zu38
 have lt_gR := hAR.lt
 refine go ?_
 refine c_drawnM follows (fun _ => False) (OTl [0, 2, 4, 6, 8, 10, 12, 14, 16, 18, 20, 22, 24, 26, 28, 30, 32, 34, 36, 38, 41, 42, 44]) (by kernel_rfl) fun w42 u43 => ?_
 have zu43 := u43.size
 refine go ?_
 have D45 := (hAR.keep u43 (fun _ h => h))
 have i46 : 0 < ([⟨1, 2, 12⟩, ⟨2, 1, -20⟩] : List Lnk).length := (by decide)
 refine y_i 0 (D45.sl (fun _ => rfl)) (fun _ => ?_)
 iterate 2 refine st1 ?_
 refine y_same 31 (v := .int .i64 12) rfl rfl ?_
 refine go ?_
 have i47 : 1 < ([⟨1, 2, 12⟩, ⟨2, 1, -20⟩] : List Lnk).length := (by decide)
 refine y_i 1 (D45.sl (fun _ => rfl)) (fun _ => ?_)
 iterate 2 refine st1 ?_
 refine y_same 35 (v := .int .i64 (-20)) rfl rfl ?_
 iterate 2 refine st1 ?_
 refine y_same 37 (v := .bool true) rfl rfl ?_
 refine go ?_
 refine x_c func19 rfl rfl (knownRiver_c _) ?_
 rintro _ w49 ⟨rfl, u50⟩ zu50
 refine go ?_
 refine f_1 results5 ?_
 exact ⟨rfl, u_d⟩

end Go.Proofs.YtbcedieodibehaaGreat
