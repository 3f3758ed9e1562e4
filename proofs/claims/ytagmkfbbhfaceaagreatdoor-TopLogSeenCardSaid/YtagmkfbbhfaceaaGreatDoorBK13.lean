/-
  Part 13 of the proof: contracts and plain laws. Conditions: none.
-/
import Derived.Test.YtagmkfbbhfaceaaGreatDoorBK12
namespace Go.Proofs.YtagmkfbbhfaceaaGreatDoor
open Go Go.RowKit Go.Proofs.Tryz
set_option maxRecDepth 10000
section
variable {P : Program} {ops : Array Oper} {Q : Exit → Act → World → Prop} {N : Nat} {ds : List Deferred} {rest : List Oper} {L : Slots} {w : World} {rd : Option Nat} {d : Nat} {ty : TypeId} {pos : String} {aft : Array Edge} {gd : Option (Nat × Bool)}
/-- A remainder whose value is known. -/
theorem t_remV {xt yt : TypeId} {x y : Operand} {m n : Int} (q : Int) (hg : grd ops L gd = true) (hN : Nat.blt d N = true) (hx : ev L x = some (.int .i64 m)) (hy : ev L y = some (.int .i64 n)) (hn : n ≠ 0) (hq : m.tmod n = q) (hr : -9223372036854775808 ≤ q ∧ q ≤ 9223372036854775807)
    (h : WL rd P ops Q N ds rest ((d, .int .i64 q) :: L) w) : WL rd P ops Q N ds (⟨some d, .binOp .rem xt x y yt, ty, pos, aft, gd⟩ :: rest) L w :=
  WL.value hg rfl hN (fun a ha => by
    have e1 := ha.ev hx
    have e2 := ha.ev hy
    have e3 : IntKind.i64.wrap (m.tmod n) = q := by rw [hq]; exact IntWalk.i64_in _ hr
    simp [execOp, e1, e2, eqGuard, binOp, Op.intDiv, hn, hq]) h
end
theorem own134 : Own Tryz.prog 134 := ⟨Tryz.f134, func134, by kernel_rfl, by kernel_rfl⟩
theorem own176 : Own Tryz.prog 176 := ⟨Tryz.f176, func176, by kernel_rfl, by kernel_rfl⟩
theorem own178 : Own Tryz.prog 178 := ⟨Tryz.f178, func178, by kernel_rfl, by kernel_rfl⟩
theorem rwithin1_c (lo hi n : Int) (b c : Nat) (t1 t2 : TypeId) (w0 : World) (hb : Blk w0 b t1 [.int .i64 lo]) (hc : Blk w0 c t2 [.int .i64 hi]) :
    CallsV Tryz.prog 176 [.int .i64 n, .pointer (some ⟨b, 0, none⟩), .pointer (some ⟨c, 0, none⟩)] w0 (fun v w' => v = .bool (out1 lo hi n) ∧ Ext w0 w') := by
 refine f_n func176 ?_
 refine go ?_
 refine t_splitp 8 rfl (fun g8 => ?_) (fun g8 => ?_)
 ·
  refine go ?_
  refine f_1 results176 ?_
  exact ⟨by simp [out1, *], u_d⟩
 refine go ?_
 refine f_1 results176 ?_
 exact ⟨by simp [out1, *], u_d⟩
theorem rwithin_c (lo hi : Int) (xs : List Int) (ao : Option Addr) (b o cap : Nat) (w0 : World) (hs : Sl encI 1 w0 ao b o xs) (hl : xs.length ≤ 1000000) :
    CallsV Tryz.prog 133 [.int .i64 lo, .int .i64 hi, .slice ao xs.length cap] w0 (fun v w' => v = .bool (decide (∀ n ∈ xs, lo ≤ n ∧ n ≤ hi)) ∧ Ext w0 w') := by
 refine f_n func133 ?_
 refine go ?_
 refine x_b fun bk2 w3 ebk2 sbk2 B4 u5 => ?_
 refine x_b fun bk7 w8 ebk7 sbk7 B9 u10 => ?_
 refine go ?_
 refine t_mkfunc (vs := []) (us := [.pointer (some ⟨bk2, 0, none⟩), .pointer (some ⟨bk7, 0, none⟩)]) rfl rfl rfl rfl ?_
 have B13 := (B4.kx u10)
 refine x_c func82 rfl rfl (containsI_c (out1 lo hi) 176 [.pointer (some ⟨bk2, 0, none⟩), .pointer (some ⟨bk7, 0, none⟩)] xs ao b o cap _ own176 (fun x _ w u => rwithin1_c lo hi x bk2 bk7 _ _ w (B13.keep u (fun h => h)) (B9.keep u (fun h => h))) (hs.keep (((Upd.refl (fun _ => False) w0).nx u5).nx u10) (fun _ h => h)) hl) ?_
 rintro _ w15 ⟨rfl, u16⟩ zu16
 refine go ?_
 refine f_1 results133 ?_
 exact ⟨by rw [not_any_out], u_d⟩
theorem rw1_t (lo hi m : Int) (b : Nat) (t : TypeId) (w : World) (h : Blk w b t [.int .i64 m]) (hr : (lo ≤ m ∧ m ≤ hi)) : CallsV Tryz.prog 133 [.int .i64 lo, .int .i64 hi, .slice (some ⟨b, 0, none⟩) 1 1] w (fun v w' => v = .bool true ∧ Ext w w') :=
  (rwithin_c lo hi [m] _ b 0 1 w (SlI.own (xs := [m]) h) (by simp)).mono fun v w' ⟨e, u⟩ => ⟨by rw [e]; simp; omega, u⟩
theorem rw2_t (lo hi m n : Int) (b : Nat) (t : TypeId) (w : World) (h : Blk w b t [.int .i64 m, .int .i64 n]) (hr : (lo ≤ m ∧ m ≤ hi) ∧ (lo ≤ n ∧ n ≤ hi)) : CallsV Tryz.prog 133 [.int .i64 lo, .int .i64 hi, .slice (some ⟨b, 0, none⟩) 2 2] w (fun v w' => v = .bool true ∧ Ext w w') :=
  (rwithin_c lo hi [m, n] _ b 0 2 w (SlI.own (xs := [m, n]) h) (by simp)).mono fun v w' ⟨e, u⟩ => ⟨by rw [e]; simp; omega, u⟩
structure Bnd2 where
  lo : Int
  hi : Int
instance : Inhabited Bnd2 := ⟨⟨default, default⟩⟩
def encBd2 (x : Bnd2) : List Value := [.int .i64 x.lo, .int .i64 x.hi]
def encRt (x : Bnd2) : List Value := [.int .i64 x.lo, .int .i64 x.hi]
def cvR : List Bnd2 := [⟨0, 100⟩, ⟨10000, 300⟩]
theorem indexBd_c {α : Type} [Inhabited α] (enc : α → List Value) (hk : ∀ x, (enc x).length = 2) (p : α → Bool) (fv : FuncId) (caps : List Value) (xs : List α) (ao : Option Addr) (b o cap : Nat) (w0 : World) (ho : Own Tryz.prog fv) (hp : ∀ x ∈ xs, ∀ w, Ext w0 w → CallsV Tryz.prog fv ([.agg (enc x).toArray] ++ caps) w fun v w' => v = .bool (p x) ∧ Ext w w') (hs : Sl enc 2 w0 ao b o xs) (hl : xs.length ≤ 1000000) :
    CallsV Tryz.prog 174 [.slice ao xs.length cap, .func (.func fv) #[] (caps).toArray] w0 (fun v w' => (∃ n : Int, v = .int .i64 n ∧ decide (0 ≤ n) = xs.any p) ∧ Ext w0 w') := by
 refine f_n func174 ?_
 refine go ?_
 refine x_l1 (fun _ => False) [0, 1, 7] (fun (k : Nat) => [(8, .int .i64 (k : Int))]) (fun k w => (k ≤ xs.length) ∧ ((xs.take k).any p = false)) (fun k => xs.length - k) 0 ⟨Nat.zero_le _, (by simp)⟩ ?_
 rintro k w5 ⟨hle, hnot⟩ u6 zu6 K4 hK4
 have E7 := Sc.mk ((Upd.refl (fun _ => False) w0).nx u6)
 refine go ?_
 refine q_p (fun g9 => ?_) fun g9 => ?_
 ·
  refine go ?_
  refine g_i k (hs.keep E7.u (fun _ h => h)) (fun _ => ?_)
  refine t_loadN (vs := enc (nth xs k)) isAgg34 sizeOf34 rfl rfl rfl ((hs.keep E7.u (fun _ h => h)).at_ k (by omega)) (hk _) (t_call (fs := []) (cs := caps) ho rfl rfl rfl rfl (hp (nth xs k) (nth_mem (by omega)) _ E7.u) (fun v14 w15 r17 => ?_))
  obtain ⟨rfl, u16⟩ := r17
  have zu16 := u16.size
  refine go ?_
  refine q_b (fun g16 => ?_) fun g16 => ?_
  ·
   refine go ?_
   refine f_1 results174 ?_
   exact ⟨⟨_, rfl, any_hit (by omega) g16⟩, u_d⟩
  refine go ?_
  exact hK4 (k + 1) ⟨(by omega), (any_snoc (by omega) hnot g16)⟩
 refine go ?_
 refine f_1 results174 ?_
 exact ⟨⟨_, rfl, any_none (by omega) hnot⟩, u_d⟩
theorem containsBd_c {α : Type} [Inhabited α] (enc : α → List Value) (hk : ∀ x, (enc x).length = 2) (p : α → Bool) (fv : FuncId) (caps : List Value) (xs : List α) (ao : Option Addr) (b o cap : Nat) (w0 : World) (ho : Own Tryz.prog fv) (hp : ∀ x ∈ xs, ∀ w, Ext w0 w → CallsV Tryz.prog fv ([.agg (enc x).toArray] ++ caps) w fun v w' => v = .bool (p x) ∧ Ext w w') (hs : Sl enc 2 w0 ao b o xs) (hl : xs.length ≤ 1000000) :
    CallsV Tryz.prog 126 [.slice ao xs.length cap, .func (.func fv) #[] (caps).toArray] w0 (fun v w' => v = .bool (xs.any p) ∧ Ext w0 w') := by
 refine f_n func126 ?_
 refine go ?_
 refine x_c func174 rfl rfl (indexBd_c enc hk p fv caps xs ao b o cap _ ho hp hs hl) ?_
 rintro _ w4 ⟨⟨n, rfl, hn⟩, u5⟩ zu5
 refine go ?_
 refine f_1 results126 ?_
 exact ⟨by rw [hn], u_d⟩
theorem rvalid1_c (lo hi a b : Int) (p q : Nat) (t1 t2 : TypeId) (w0 : World) (hb : Blk w0 p t1 [.int .i64 lo]) (hc : Blk w0 q t2 [.int .i64 hi]) (hr : a ≤ b ∧ (lo ≤ a ∧ a ≤ hi) ∧ (lo ≤ b ∧ b ≤ hi)) :
    CallsV Tryz.prog 134 [.agg #[.int .i64 a, .int .i64 b], .pointer (some ⟨p, 0, none⟩), .pointer (some ⟨q, 0, none⟩)] w0 (fun v w' => v = .bool false ∧ Ext w0 w') := by
 refine f_n func134 ?_
 refine go ?_
 refine x_b fun bk2 w3 ebk2 sbk2 B4 u5 => ?_
 iterate 10 refine st1 ?_
 refine t_same 9 (v := .bool false) rfl (congrArg Value.bool (decide_eq_false (by omega))) ?_
 refine go ?_
 refine x_l fun bk8 w9 ebk8 sbk8 B10 u11 => ?_
 refine x_c func133 rfl rfl (rw2_t lo hi a b _ _ _ B10 (by omega)) ?_
 rintro _ w14 ⟨rfl, u15⟩ zu15
 refine go ?_
 refine f_1 results134 ?_
 exact ⟨rfl, u_d⟩
theorem rvalid_c (lo hi a b : Int) (g : Nat) (w0 : World) (hs : Blk w0 g 34 [.int .i64 a, .int .i64 b]) (hr : a ≤ b ∧ (lo ≤ a ∧ a ≤ hi) ∧ (lo ≤ b ∧ b ≤ hi)) :
    CallsV Tryz.prog 86 [.int .i64 lo, .int .i64 hi, .slice (some ⟨g, 0, none⟩) 1 1] w0 (fun v w' => v = .bool true ∧ Ext w0 w') := by
 have hx : Sl encBd2 2 w0 (some ⟨g, 0, none⟩) g 0 [⟨a, b⟩] := Sl.ofBlk (enc := encBd2) (xs := [⟨a, b⟩]) (fun _ => rfl) hs
 refine f_n func86 ?_
 refine go ?_
 refine x_b fun bk2 w3 ebk2 sbk2 B4 u5 => ?_
 refine x_b fun bk7 w8 ebk7 sbk7 B9 u10 => ?_
 refine go ?_
 refine t_mkfunc (vs := []) (us := [.pointer (some ⟨bk2, 0, none⟩), .pointer (some ⟨bk7, 0, none⟩)]) rfl rfl rfl rfl ?_
 have B13 := (B4.kx u10)
 have hc9 := containsBd_c encBd2 (fun _ => rfl) (fun _ => false) 134 [.pointer (some ⟨bk2, 0, none⟩), .pointer (some ⟨bk7, 0, none⟩)] [⟨a, b⟩] (some ⟨g, 0, none⟩) g 0 1 w8 own134 (fun x hx w u => by
   obtain rfl := List.mem_singleton.1 hx
   exact rvalid1_c lo hi a b bk2 bk7 _ _ w (B13.keep u (fun h => h)) (B9.keep u (fun h => h)) hr) (hx.keep (((Upd.refl (fun _ => False) w0).nx u5).nx u10) (fun _ h => h)) (by simp)
 refine x_c func126 rfl rfl hc9 ?_
 rintro _ w15 ⟨rfl, u16⟩ zu16
 refine go ?_
 refine f_1 results86 ?_
 exact ⟨rfl, u_d⟩
set_option maxHeartbeats 4000000 in
theorem rcheck_c (dl bl bh fl : Int) (g : Nat) (w0 : World) (hcv : Sl encRt 2 w0 (some ⟨g, 0, none⟩) g 0 cvR) (hd : 0 ≤ dl ∧ dl ≤ 200) (hb : bl ≤ bh ∧ (0 ≤ bl ∧ bl ≤ 10000000000) ∧ (0 ≤ bh ∧ bh ≤ 10000000000)) (hf : 0 ≤ fl ∧ fl ≤ 10000) :
    CallsV Tryz.prog 85 [.agg #[.int .i64 100, .int .i64 dl, .int .i64 bl, .int .i64 bh, .slice (some ⟨g, 0, none⟩) 2 2, .int .i64 0, .int .i64 50, .int .i64 60, .int .i64 fl]] w0 (fun v w' => v = .int .i64 0 ∧ Ext w0 w') := by
 refine f_n func85 ?_
 refine go ?_
 refine x_b fun bk2 w3 ebk2 sbk2 B4 u5 => ?_
 refine go ?_
 refine x_l fun bk10 w11 ebk10 sbk10 B12 u13 => ?_
 refine x_c func133 rfl rfl (rw1_t 1 5000 100 _ _ _ B12 (by omega)) ?_
 rintro _ w16 ⟨rfl, u17⟩ zu17
 refine go ?_
 refine x_l fun bk20 w21 ebk20 sbk20 B22 u23 => ?_
 refine x_c func133 rfl rfl (rw1_t 0 200 dl _ _ _ B22 (by omega)) ?_
 rintro _ w26 ⟨rfl, u27⟩ zu27
 refine go ?_
 refine x_l fun bk30 w31 ebk30 sbk30 B32 u33 => ?_
 refine x_c func86 rfl rfl (rvalid_c 0 10000000000 bl bh bk30 _ B32 (by omega)) ?_
 rintro _ w36 ⟨rfl, u37⟩ zu37
 refine go ?_
 refine x_l fun bk40 w41 ebk40 sbk40 B42 u43 => ?_
 refine x_c func133 rfl rfl (rw1_t 2 30 2 _ _ _ B42 (by omega)) ?_
 rintro _ w46 ⟨rfl, u47⟩ zu47
 refine go ?_
 refine x_l fun bk50 w51 ebk50 sbk50 B52 u53 => ?_
 refine x_c func133 rfl rfl (rw2_t 0 10000 0 fl _ _ _ B52 (by omega)) ?_
 rintro _ w56 ⟨rfl, u57⟩ zu57
 refine go ?_
 refine x_l fun bk60 w61 ebk60 sbk60 B62 u63 => ?_
 refine x_c func86 rfl rfl (rvalid_c 0 10000 50 60 bk60 _ B62 (by omega)) ?_
 rintro _ w66 ⟨rfl, u67⟩ zu67
 refine go ?_
 refine x_n fun bk71 w72 ebk71 sbk71 B73 u74 => ?_
 refine x_s fun w76 sw76 B78 u77 => ?_
 have E79 := Sc.mk ((((((((((((((((Upd.refl (fun _ => False) w0).nx u5).nx u13).nx u17).nx u23).nx u27).nx u33).nx u37).nx u43).nx u47).nx u53).nx u57).nx u63).nx u67).nx u74).next u77 (fun i hi h => by omega))
 refine go ?_
 refine c_rounds 3 (WR.weak [(4, .pointer (some ⟨bk71, 0, none⟩)), (53, .slice (some ⟨g, 0, none⟩) 2 2), (54, .int .i64 2), (55, .int .i64 0)] ⟨rfl, rfl, rfl, rfl, trivial⟩ (r_round fun K82 hK82 => (q_of ?_)))
 refine go ?_
 have i87 : 0 < cvR.length := (by decide)
 refine g_i 0 (hcv.keep E79.u (fun _ h => h)) (fun _ => ?_)
 refine st1 ?_
 refine t_same 58 (v := .agg #[.int .i64 0, .int .i64 100]) rfl rfl ?_
 refine x_n fun bk88 w89 ebk88 sbk88 B90 u91 => ?_
 refine x_s fun w93 sw93 B95 u94 => ?_
 refine go ?_
 refine x_l fun bk99 w100 ebk99 sbk99 B101 u102 => ?_
 refine x_c func133 rfl rfl (rw1_t (-1 + 1) 10000000000 0 _ _ _ B101 (by omega)) ?_
 rintro _ w105 ⟨rfl, u106⟩ zu106
 refine go ?_
 refine x_l fun bk109 w110 ebk109 sbk109 B111 u112 => ?_
 refine x_c func133 rfl rfl (rw1_t 0 10000 100 _ _ _ B111 (by omega)) ?_
 rintro _ w115 ⟨rfl, u116⟩ zu116
 refine go ?_
 refine x_s fun w119 sw119 B121 u120 => ?_
 refine go ?_
 refine hK82 _ _ (WR.weak [(4, .pointer (some ⟨bk71, 0, none⟩)), (53, .slice (some ⟨g, 0, none⟩) 2 2), (54, .int .i64 2), (55, .int .i64 1)] ⟨rfl, rfl, rfl, rfl, trivial⟩ (r_round fun K123 hK123 => (q_of ?_)))
 refine go ?_
 have i128 : 1 < cvR.length := (by decide)
 refine g_i 1 (hcv.keep (((((((E79.u.nx u91).next u94 (fun i hi h => by omega)).nx u102).nx u106).nx u112).nx u116).next u120 (fun i hi h => by omega)) (fun _ h => h)) (fun _ => ?_)
 refine st1 ?_
 refine t_same 58 (v := .agg #[.int .i64 10000, .int .i64 300]) rfl rfl ?_
 refine x_n fun bk129 w130 ebk129 sbk129 B131 u132 => ?_
 refine x_s fun w134 sw134 B136 u135 => ?_
 refine go ?_
 refine x_l fun bk140 w141 ebk140 sbk140 B142 u143 => ?_
 refine x_c func133 rfl rfl (rw1_t 1 10000000000 10000 _ _ _ B142 (by omega)) ?_
 rintro _ w146 ⟨rfl, u147⟩ zu147
 refine go ?_
 refine x_l fun bk150 w151 ebk150 sbk150 B152 u153 => ?_
 refine x_c func133 rfl rfl (rw1_t 100 10000 300 _ _ _ B152 (by omega)) ?_
 rintro _ w156 ⟨rfl, u157⟩ zu157
 refine go ?_
 refine x_s fun w160 sw160 B162 u161 => ?_
 refine go ?_
 refine hK123 _ _ (WR.weak [(4, .pointer (some ⟨bk71, 0, none⟩)), (53, .slice (some ⟨g, 0, none⟩) 2 2), (54, .int .i64 2), (55, .int .i64 2)] ⟨rfl, rfl, rfl, rfl, trivial⟩ (r_round fun K164 hK164 => (q_of ?_)))
 refine go ?_
 refine f_1 results85 ?_
 exact ⟨rfl, u_d⟩
theorem down1_c  (w0 : World) :
    CallsV Tryz.prog 136 [.int .i64 400000, .int .i64 10000] w0 (fun v w' => v = .int .i64 40 ∧ Ext w0 w') := by
 refine f_n func136 ?_
 refine go ?_
 refine c_drawnM follows (fun _ => False) (OTl [0, 2, 4, 6, 8, 10, 12, 14]) (by kernel_rfl) fun w3 u4 => ?_
 have zu4 := u4.size
 refine go ?_
 refine y_quo rfl rfl rfl rfl (by omega) (by omega) (y_same 9 (v := .int .i64 40) rfl rfl ?_)
 refine go ?_
 refine y_rem rfl rfl rfl rfl (by omega) (by omega) (y_same 12 (v := .int .i64 0) rfl rfl ?_)
 refine go ?_
 refine f_1 results136 ?_
 exact ⟨rfl, u_d⟩
theorem down2_c  (w0 : World) :
    CallsV Tryz.prog 136 [.int .i64 (-600000), .int .i64 10000] w0 (fun v w' => v = .int .i64 (-60) ∧ Ext w0 w') := by
 refine f_n func136 ?_
 refine go ?_
 refine c_drawnM follows (fun _ => False) (.look 0 (.look 1 (.look 3 (.look 4 (.act 2 (.look 6 (.act 5 (.look 7 .done) .stop)) (.act 5 (.act 2 (.look 6 (.look 7 .done)) .stop) .stop)))))) (by kernel_rfl) fun w3 u4 => ?_
 have zu4 := u4.size
 refine go ?_
 refine s_or ?_ ?_
 ·
  refine go ?_
  refine t_quoV (-60) rfl rfl rfl rfl (by decide) (by decide) (by decide) ?_
  refine go ?_
  refine t_remV 0 rfl rfl rfl rfl (by decide) (by decide) (by decide) ?_
  refine go ?_
  refine f_1 results136 ?_
  exact ⟨rfl, u_d⟩
 refine go ?_
 refine t_remV 0 rfl rfl rfl rfl (by decide) (by decide) (by decide) ?_
 refine go ?_
 refine t_quoV (-60) rfl rfl rfl rfl (by decide) (by decide) (by decide) ?_
 refine go ?_
 refine f_1 results136 ?_
 exact ⟨rfl, u_d⟩
theorem up_c  (w0 : World) :
    CallsV Tryz.prog 137 [.int .i64 600000, .int .i64 10000] w0 (fun v w' => v = .int .i64 60 ∧ Ext w0 w') := by
 refine f_n func137 ?_
 refine go ?_
 refine t_neg rfl rfl rfl (by omega) (t_same 6 (v := .int .i64 (-600000)) rfl rfl ?_)
 refine go ?_
 refine x_c func136 rfl rfl (down2_c _) ?_
 rintro _ w4 ⟨rfl, u5⟩ zu5
 refine t_neg rfl rfl rfl (by omega) (t_same 9 (v := .int .i64 60) rfl rfl ?_)
 refine go ?_
 refine f_1 results137 ?_
 exact ⟨rfl, u_d⟩
theorem at1_c (i : Nat) (fl : Int) (g p q : Nat) (w0 : World) (hi : i < 2) (hcv : Sl encRt 2 w0 (some ⟨g, 0, none⟩) g 0 cvR) (hp : Blk w0 p 136 [.slice (some ⟨g, 0, none⟩) 2 2]) (hq : Blk w0 q 3 [.int .i64 fl]) :
    CallsV Tryz.prog 178 [.int .i64 (i : Int), .pointer (some ⟨p, 0, none⟩), .pointer (some ⟨q, 0, none⟩)] w0 (fun v w' => v = .bool (decide (fl < (nth cvR i).lo)) ∧ Ext w0 w') := by
 refine f_n func178 ?_
 refine go ?_
 refine c_drawnM follows (fun _ => False) (OTl [0, 2, 4, 6, 8, 10, 12, 14]) (by kernel_rfl) fun w3 u4 => ?_
 have zu4 := u4.size
 refine go ?_
 have i6 : i < cvR.length := hi
 refine y_i i (hcv.keep ((Upd.refl (fun _ => False) w0).nx u4) (fun _ h => h)) (fun _ => ?_)
 refine go ?_
 refine f_1 results178 ?_
 exact ⟨rfl, u_d⟩
theorem at_r {fl r : Int} (hf : 0 ≤ fl ∧ fl < 10000) (h0 : 0 ≤ r) (h1 : r ≤ 2) (h2 : 0 < r → decide (fl < (nth cvR (r - 1).toNat).lo) = false) (h3 : r < 2 → decide (fl < (nth cvR r.toNat).lo) = true) : r = 1 := by
  have e : r = 0 ∨ r = 1 ∨ r = 2 := by omega
  rcases e with rfl | rfl | rfl
  · have := of_decide_eq_true (h3 (by decide))
    have e9 : (nth cvR (0 : Int).toNat).lo = 0 := rfl
    omega
  · rfl
  · have := of_decide_eq_false (h2 (by decide))
    have e9 : (nth cvR ((2 : Int) - 1).toNat).lo = 10000 := rfl
    omega
theorem atS_c (fl : Int) (g p q : Nat) (w : World) (hf : 0 ≤ fl ∧ fl < 10000) (hcv : Sl encRt 2 w (some ⟨g, 0, none⟩) g 0 cvR) (hp : Blk w p 136 [.slice (some ⟨g, 0, none⟩) 2 2]) (hq : Blk w q 3 [.int .i64 fl]) :
    CallsV Tryz.prog 177 [.int .i64 2, .func (.func 178) #[] #[.pointer (some ⟨p, 0, none⟩), .pointer (some ⟨q, 0, none⟩)]] w (fun v w' => v = .int .i64 1 ∧ Ext w w') :=
  (search_c 2 (fun x => decide (fl < (nth cvR x.toNat).lo)) 178 [.pointer (some ⟨p, 0, none⟩), .pointer (some ⟨q, 0, none⟩)] w (by decide) own178 (fun x hx W u => by
    obtain ⟨i, rfl⟩ : ∃ i : Nat, x = (i : Int) := ⟨x.toNat, by omega⟩
    exact at1_c i fl g p q W (by omega) (hcv.keep u (fun _ h => h)) (hp.keep u (fun h => h)) (hq.keep u (fun h => h)))).mono fun v w' ⟨⟨r, e, h0, h1, h2, h3⟩, u⟩ => ⟨by rw [e, at_r hf h0 h1 h2 h3], u⟩
theorem at_c1 (g : Nat) (w0 : World) (hcv : Sl encRt 2 w0 (some ⟨g, 0, none⟩) g 0 cvR) :
    CallsV Tryz.prog 135 [.slice (some ⟨g, 0, none⟩) 2 2, .int .i64 2000, .func (.func 136) #[] #[]] w0 (fun v w' => v = .int .i64 140 ∧ Ext w0 w') := by
 refine f_n func135 ?_
 refine go ?_
 refine x_b fun bk2 w3 ebk2 sbk2 B4 u5 => ?_
 refine x_b fun bk7 w8 ebk7 sbk7 B9 u10 => ?_
 have E11 := Sc.mk (((Upd.refl (fun _ => False) w0).nx u5).nx u10)
 refine go ?_
 refine t_mkfunc (vs := []) (us := [.pointer (some ⟨bk2, 0, none⟩), .pointer (some ⟨bk7, 0, none⟩)]) rfl rfl rfl rfl ?_
 have B13 := (B4.kx u10)
 refine x_c func177 rfl rfl (atS_c 2000 g bk2 bk7 _ (by omega) (hcv.keep E11.u (fun _ h => h)) B13 B9) ?_
 rintro _ w15 ⟨rfl, u16⟩ zu16
 refine go ?_
 refine c_drawnM follows (fun _ => False) (.look 0 (.look 1 (.look 2 (.look 3 (.look 4 (.look 5 (.look 6 (.look 7 (.look 8 (.act 9 (.act 10 (.act 11 (.act 12 .done .stop) .stop) .stop) (.act 10 (.act 9 (.act 11 (.act 12 .done .stop) .stop) .stop) .stop))))))))))) (by kernel_rfl) fun w24 u25 => ?_
 have zu25 := u25.size
 have E26 := Sc.mk ((E11.u.nx u16).nx u25)
 refine go ?_
 have i27 : 0 < cvR.length := (by decide)
 refine y_i 0 (hcv.keep E26.u (fun _ h => h)) (fun _ => ?_)
 refine st1 ?_
 refine y_same 35 (v := .agg #[.int .i64 0, .int .i64 100]) rfl rfl ?_
 refine go ?_
 have i28 : 1 < cvR.length := (by decide)
 refine y_i 1 (hcv.keep E26.u (fun _ h => h)) (fun _ => ?_)
 refine st1 ?_
 refine y_same 39 (v := .agg #[.int .i64 10000, .int .i64 300]) rfl rfl (s_or ?_ ?_)
 ·
  refine go ?_
  refine x_n fun bk29 w30 ebk29 sbk29 B31 u32 => ?_
  refine go ?_
  refine x_n fun bk34 w35 ebk34 sbk34 B36 u37 => ?_
  refine go ?_
  refine x_s fun w39 sw39 B41 u40 => ?_
  refine go ?_
  refine x_s fun w43 sw43 B45 u44 => ?_
  refine go ?_
  refine c_drawnM follows (fun _ => False) (OTl [0, 2, 4, 6, 8, 10, 12, 14, 16, 18, 20, 22, 24, 26, 28, 30, 32, 34, 37, 38, 40]) (by kernel_rfl) fun w48 u49 => ?_
  have zu49 := u49.size
  refine go ?_
  refine x_c func136 rfl rfl (down1_c _) ?_
  rintro _ w52 ⟨rfl, u53⟩ zu53
  refine go ?_
  refine f_1 results135 ?_
  exact ⟨rfl, u_d⟩
 refine go ?_
 refine x_n fun bk56 w57 ebk56 sbk56 B58 u59 => ?_
 refine go ?_
 refine x_n fun bk61 w62 ebk61 sbk61 B63 u64 => ?_
 refine go ?_
 refine x_s fun w66 sw66 B68 u67 => ?_
 refine go ?_
 refine x_s fun w70 sw70 B72 u71 => ?_
 refine go ?_
 refine c_drawnM follows (fun _ => False) (OTl [0, 2, 4, 6, 8, 10, 12, 14, 16, 18, 20, 22, 24, 26, 28, 30, 32, 34, 37, 38, 40]) (by kernel_rfl) fun w75 u76 => ?_
 have zu76 := u76.size
 refine go ?_
 refine x_c func136 rfl rfl (down1_c _) ?_
 rintro _ w79 ⟨rfl, u80⟩ zu80
 refine go ?_
 refine f_1 results135 ?_
 exact ⟨rfl, u_d⟩
theorem at_c2 (g : Nat) (w0 : World) (hcv : Sl encRt 2 w0 (some ⟨g, 0, none⟩) g 0 cvR) :
    CallsV Tryz.prog 135 [.slice (some ⟨g, 0, none⟩) 2 2, .int .i64 3000, .func (.func 137) #[] #[]] w0 (fun v w' => v = .int .i64 160 ∧ Ext w0 w') := by
 refine f_n func135 ?_
 refine go ?_
 refine x_b fun bk2 w3 ebk2 sbk2 B4 u5 => ?_
 refine x_b fun bk7 w8 ebk7 sbk7 B9 u10 => ?_
 have E11 := Sc.mk (((Upd.refl (fun _ => False) w0).nx u5).nx u10)
 refine go ?_
 refine t_mkfunc (vs := []) (us := [.pointer (some ⟨bk2, 0, none⟩), .pointer (some ⟨bk7, 0, none⟩)]) rfl rfl rfl rfl ?_
 have B13 := (B4.kx u10)
 refine x_c func177 rfl rfl (atS_c 3000 g bk2 bk7 _ (by omega) (hcv.keep E11.u (fun _ h => h)) B13 B9) ?_
 rintro _ w15 ⟨rfl, u16⟩ zu16
 refine go ?_
 refine c_drawnM follows (fun _ => False) (.look 0 (.look 1 (.look 2 (.look 3 (.look 4 (.look 5 (.look 6 (.look 7 (.look 8 (.act 9 (.act 10 (.act 11 (.act 12 .done .stop) .stop) .stop) (.act 10 (.act 9 (.act 11 (.act 12 .done .stop) .stop) .stop) .stop))))))))))) (by kernel_rfl) fun w24 u25 => ?_
 have zu25 := u25.size
 have E26 := Sc.mk ((E11.u.nx u16).nx u25)
 refine go ?_
 have i27 : 0 < cvR.length := (by decide)
 refine y_i 0 (hcv.keep E26.u (fun _ h => h)) (fun _ => ?_)
 refine st1 ?_
 refine y_same 35 (v := .agg #[.int .i64 0, .int .i64 100]) rfl rfl ?_
 refine go ?_
 have i28 : 1 < cvR.length := (by decide)
 refine y_i 1 (hcv.keep E26.u (fun _ h => h)) (fun _ => ?_)
 refine st1 ?_
 refine y_same 39 (v := .agg #[.int .i64 10000, .int .i64 300]) rfl rfl (s_or ?_ ?_)
 ·
  refine go ?_
  refine x_n fun bk29 w30 ebk29 sbk29 B31 u32 => ?_
  refine go ?_
  refine x_n fun bk34 w35 ebk34 sbk34 B36 u37 => ?_
  refine go ?_
  refine x_s fun w39 sw39 B41 u40 => ?_
  refine go ?_
  refine x_s fun w43 sw43 B45 u44 => ?_
  refine go ?_
  refine c_drawnM follows (fun _ => False) (OTl [0, 2, 4, 6, 8, 10, 12, 14, 16, 18, 20, 22, 24, 26, 28, 30, 32, 34, 37, 38, 40]) (by kernel_rfl) fun w48 u49 => ?_
  have zu49 := u49.size
  refine go ?_
  refine x_c func137 rfl rfl (up_c _) ?_
  rintro _ w52 ⟨rfl, u53⟩ zu53
  refine go ?_
  refine f_1 results135 ?_
  exact ⟨rfl, u_d⟩
 refine go ?_
 refine x_n fun bk56 w57 ebk56 sbk56 B58 u59 => ?_
 refine go ?_
 refine x_n fun bk61 w62 ebk61 sbk61 B63 u64 => ?_
 refine go ?_
 refine x_s fun w66 sw66 B68 u67 => ?_
 refine go ?_
 refine x_s fun w70 sw70 B72 u71 => ?_
 refine go ?_
 refine c_drawnM follows (fun _ => False) (OTl [0, 2, 4, 6, 8, 10, 12, 14, 16, 18, 20, 22, 24, 26, 28, 30, 32, 34, 37, 38, 40]) (by kernel_rfl) fun w75 u76 => ?_
 have zu76 := u76.size
 refine go ?_
 refine x_c func137 rfl rfl (up_c _) ?_
 rintro _ w79 ⟨rfl, u80⟩ zu80
 refine go ?_
 refine f_1 results135 ?_
 exact ⟨rfl, u_d⟩
theorem rlevel_c (dl bl bh fl : Int) (g : Nat) (w0 : World) (hcv : Sl encRt 2 w0 (some ⟨g, 0, none⟩) g 0 cvR) :
    CallsV Tryz.prog 87 [.agg #[.int .i64 100, .int .i64 dl, .int .i64 bl, .int .i64 bh, .slice (some ⟨g, 0, none⟩) 2 2, .int .i64 0, .int .i64 50, .int .i64 60, .int .i64 fl], .agg #[.int .i64 2000, .int .i64 3000]] w0 (fun v w' => v = .agg #[.int .i64 140, .int .i64 160] ∧ Ext w0 w') := by
 refine f_n func87 ?_
 refine go ?_
 refine x_b fun bk2 w3 ebk2 sbk2 B4 u5 => ?_
 refine x_b fun bk7 w8 ebk7 sbk7 B9 u10 => ?_
 refine x_n fun bk12 w13 ebk12 sbk12 B14 u15 => ?_
 refine go ?_
 refine c_drawnM follows (fun i => i = bk12) (OTl [0, 2, 4, 6, 8, 10, 16, 18, 20, 22, 24, 26, 13, 14, 29, 30, 32, 35]) (by kernel_rfl) fun w18 u19 => ?_
 have zu19 := u19.size
 have E20 := Sc.mk (((((Upd.refl (fun _ => False) w0).nx u5).nx u10).nx u15).nx u19)
 refine go ?_
 refine x_c func135 rfl rfl (at_c1 g _ (hcv.keep E20.u (fun _ h => h))) ?_
 rintro _ w22 ⟨rfl, u23⟩ zu23
 refine go ?_
 refine y_max rfl rfl rfl rfl (y_same 12 (v := .int .i64 140) rfl rfl ?_)
 refine go ?_
 refine x_c func135 rfl rfl (at_c2 g _ (hcv.keep (E20.u.nx u23) (fun _ h => h))) ?_
 rintro _ w27 ⟨rfl, u28⟩ zu28
 refine go ?_
 refine y_max rfl rfl rfl rfl (y_same 20 (v := .int .i64 160) rfl rfl ?_)
 refine go ?_
 refine x_s fun w31 sw31 B33 u32 => ?_
 refine go ?_
 refine f_ret1 (v := .agg #[.int .i64 140, .int .i64 160]) results87 ⟨_, _, rfl, run_loadVarN (vs := [.int .i64 140, .int .i64 160]) isAgg34 sizeOf34 rfl (B33.at.sub 0 2)⟩ ?_
 exact ⟨rfl, u_d⟩
theorem Level_c (dl bl bh fl : Int) (g : Nat) (w0 : World) (hcv : Sl encRt 2 w0 (some ⟨g, 0, none⟩) g 0 cvR) (hd : 0 ≤ dl ∧ dl ≤ 200) (hb : bl ≤ bh ∧ (0 ≤ bl ∧ bl ≤ 10000000000) ∧ (0 ≤ bh ∧ bh ≤ 10000000000)) (hf : 0 ≤ fl ∧ fl ≤ 10000) :
    CallsV Tryz.prog 51 [.agg #[.int .i64 100, .int .i64 dl, .int .i64 bl, .int .i64 bh, .slice (some ⟨g, 0, none⟩) 2 2, .int .i64 0, .int .i64 50, .int .i64 60, .int .i64 fl], .agg #[.int .i64 2000, .int .i64 3000]] w0 (fun v w' => v = .tuple #[.agg #[.int .i64 140, .int .i64 160], .int .i64 0] ∧ Ext w0 w') := by
 refine f_n func51 ?_
 refine go ?_
 refine x_b fun bk2 w3 ebk2 sbk2 B4 u5 => ?_
 refine x_b fun bk7 w8 ebk7 sbk7 B9 u10 => ?_
 refine x_n fun bk12 w13 ebk12 sbk12 B14 u15 => ?_
 have E16 := Sc.mk ((((Upd.refl (fun _ => False) w0).nx u5).nx u10).nx u15)
 refine go ?_
 refine x_c func85 rfl rfl (rcheck_c dl bl bh fl g _ (hcv.keep E16.u (fun _ h => h)) hd hb hf) ?_
 rintro _ w20 ⟨rfl, u21⟩ zu21
 refine go ?_
 refine x_l fun bk25 w26 ebk25 sbk25 B27 u28 => ?_
 refine x_c func86 rfl rfl (rvalid_c 0 210000000000 2000 3000 bk25 _ B27 (by omega)) ?_
 rintro _ w31 ⟨rfl, u32⟩ zu32
 refine go ?_
 refine x_c func87 rfl rfl (rlevel_c dl bl bh fl g _ (hcv.keep (((E16.u.nx u21).nx u28).nx u32) (fun _ h => h))) ?_
 rintro _ w37 ⟨rfl, u38⟩ zu38
 refine x_s fun w41 sw41 B43 u42 => ?_
 refine go ?_
 refine f_ret2 (v1 := .agg #[.int .i64 140, .int .i64 160]) (v2 := .int .i64 0) results51 ⟨_, _, rfl, run_loadVarN (vs := [.int .i64 140, .int .i64 160]) isAgg34 sizeOf34 rfl (B43.at.sub 0 2)⟩ rfl ?_
 exact ⟨rfl, u_d⟩

end Go.Proofs.YtagmkfbbhfaceaaGreatDoor
namespace Go.Proofs.YtagmkfbbhfaceaaGreatDoor
open Go Go.RowKit Go.Proofs.Tryz
set_option maxRecDepth 10000
theorem eqIn34 (n : Nat) (a0 : Int) (a1 : Int) (b0 : Int) (b1 : Int) (w : World) : (Op.equalIn (n + 2) 34 (.agg #[.int .i64 a0, .int .i64 a1]) (.agg #[.int .i64 b0, .int .i64 b1])).run Tryz.prog w = .ok (decide (a0 = b0) && decide (a1 = b1)) w := by
  have hS : Tryz.prog.underlying 34 = some (.struct (Tryz.prog.fieldsOf 34)) := by kernel_rfl
  have hp : Tryz.prog.stoodInHeld 34 = false := by kernel_rfl
  have p0 : ∀ (a0 : Int) (a1 : Int), (part 3 #[.int .i64 a0, .int .i64 a1] 0).run Tryz.prog w = .ok (.int .i64 a0) w := fun _ _ => by simp [part, isAgg3]
  have p1 : ∀ (a0 : Int) (a1 : Int), (part 3 #[.int .i64 a0, .int .i64 a1] 1).run Tryz.prog w = .ok (.int .i64 a1) w := fun _ _ => by simp [part, isAgg3]
  have e3 := fun a b w => equal_i64 underlying3 (n + 0) a b w
  rw [run_equalIn_struct w (n + 1) 34 _ _ hS hp]
  simp only [Program.fieldsOf, underlying34]
  simp only [Op.eqFields, Sem.run_bind, Sem.run_ite, p0, p1, e3, Result.andThen_ok]
  by_cases h0 : a0 = b0 <;> by_cases h1 : a1 = b1 <;> simp [h0, h1]


def svR : Voy := ⟨⟨0, 10⟩, [⟨0, 100, ⟨50, 100⟩, ⟨0, 0⟩⟩], 200, 22⟩
theorem arr_r : ArrB svR 50 = ⟨30, 70⟩ ∧ ArrE svR 50 = 0 := ⟨by kernel_rfl, by kernel_rfl⟩
theorem knownRiver_c  (w0 : World) :
    CallsV Tryz.prog 17 [] w0 (fun v w' => v = .bool true ∧ Ext w0 w') := by
 refine f_n func17 ?_
 refine go ?_
 refine x_l fun bk3 w4 ebk3 sbk3 B5 u6 => ?_
 refine go ?_
 refine x_n fun bk8 w9 ebk8 sbk8 B10 u11 => ?_
 refine x_s fun w13 sw13 B15 u14 => ?_
 refine go ?_
 have B18 := ((B5.kx u11).keep u14 (by omega))
 refine x_c func51 rfl rfl (Level_c 0 0 0 0 bk3 _ (Sl.ofBlk (enc := encRt) (xs := cvR) (fun _ => rfl) B18) (by decide) (by decide) (by decide)) ?_
 rintro _ w20 ⟨rfl, u21⟩ zu21
 refine go ?_
 refine x_n fun bk24 w25 ebk24 sbk24 B26 u27 => ?_
 refine x_s fun w29 sw29 B31 u30 => ?_
 refine go ?_
 refine x_l fun bk34 w35 ebk34 sbk34 B36 u37 => ?_
 refine go ?_
 refine x_n fun bk39 w40 ebk39 sbk39 B41 u42 => ?_
 refine x_s fun w44 sw44 B46 u45 => ?_
 refine go ?_
 have B49 := ((B36.kx u42).keep u45 (by omega))
 refine x_c func18 rfl rfl (Arrive_c svR (some ⟨bk34, 0, none⟩) bk34 0 1 50 _ (Sl.ofBlk (enc := encRun) (xs := svR.runs) (fun _ => rfl) B49) (by decide)) ?_
 rintro _ w51 ⟨rfl, u52⟩ zu52
 iterate 2 refine st1 ?_
 refine t_same 26 (v := .agg #[.int .i64 30, .int .i64 70]) rfl (congrArg (fun x : Bnd => Value.agg #[.int .i64 x.lo, .int .i64 x.hi]) arr_r.1) ?_
 refine st1 ?_
 refine t_same 27 (v := .int .i64 0) rfl (congrArg (Value.int .i64) arr_r.2) ?_
 refine x_n fun bk55 w56 ebk55 sbk55 B57 u58 => ?_
 refine x_s fun w60 sw60 B62 u61 => ?_
 refine go ?_
 refine t_eqS (xs := [.int .i64 140, .int .i64 160]) (ys := [.int .i64 140, .int .i64 160]) (by kernel_rfl) (eqIn34 9998 140 160 140 160) rfl rfl rfl rfl (t_samehd (v := .bool true) rfl ?_)
 refine go ?_
 refine t_eqS (xs := [.int .i64 30, .int .i64 70]) (ys := [.int .i64 30, .int .i64 70]) (by kernel_rfl) (eqIn34 9998 30 70 30 70) rfl rfl rfl rfl (t_samehd (v := .bool true) rfl ?_)
 refine go ?_
 refine f_1 results17 ?_
 exact ⟨rfl, u_d⟩


end Go.Proofs.YtagmkfbbhfaceaaGreatDoor
namespace Go.Proofs.YtagmkfbbhfaceaaGreatDoor
open Go Go.RowKit Go.Proofs.Tryz
set_option maxRecDepth 10000
theorem kn_i0 : Lib.itoa 0 = [48] := by simp [Lib.itoa, Lib.decDigits]
def knG (b : Nat) : Gau := ⟨0, 0, [0], some ⟨b, 0, none⟩, b, 0, 1⟩
theorem kn_wrd (b : Nat) : wrdG (knG b) = [[48], [48], [48]] := by
  show [Lib.itoa 0, Lib.itoa 0, Lib.itoa 0] = _
  rw [kn_i0]
theorem kn_gau (b : Nat) : ∃ t : List UInt8, textG [knG b] = (t, 0) ∧ t.length = 9 ∧ t.take 6 = [48, 32, 48, 32, 48, 32] := by
  refine ⟨sealedP [[48], [48], [48]], ?_, by kernel_rfl, by kernel_rfl⟩
  have hc : chkGa none [knG b] = 0 := by kernel_rfl
  have e : [knG b].flatMap gauP = gauP (knG b) := by simp
  unfold textG
  rw [if_neg (by simp), if_pos hc, e]
  unfold gauP
  rw [kn_wrd]
theorem knGau_c (b b2 : Nat) (w0 : World) (hT : Tab10 w0) (hB2 : Blk w0 b2 3 [.int .i64 0]) (hB : Blk w0 b 87 [.int .i64 0, .int .i64 0, .slice (some ⟨b2, 0, none⟩) 1 1]) : CallsV Tryz.prog 24 [.slice (some ⟨b, 0, none⟩) 1 1] w0 fun v w' => (∃ t : List UInt8, v = .tuple #[.string (strB t), .int .i64 0] ∧ t.length = 9 ∧ t.take 6 = [48, 32, 48, 32, 48, 32]) ∧ Ext w0 w' := by
  obtain ⟨t, h1, h2, h3⟩ := kn_gau b2
  have h := WriteGauge_c [knG b2] (some ⟨b, 0, none⟩) b 0 1 w0 (Sl.ofBlk (enc := encGau) (k := 3) (xs := [knG b2]) (fun _ => rfl) hB) (fun x hx => by rw [List.mem_singleton.1 hx]; exact ⟨SlI.own (xs := [0]) hB2, by show 1 ≤ 1; decide, by show 1 ≤ 17592186044416; decide⟩) (by simp) hT (by have := hB.lt; omega)
  rw [h1] at h
  exact CallsV.mono h (fun v w' ⟨e, u⟩ => ⟨⟨t, e, h2, h3⟩, u⟩)

theorem knownLogs_c  (w0 : World) (hT : Tab10 w0) (_hpos : 0 < w0.heap.size) :
    CallsV Tryz.prog 8 [] w0 (fun v w' => v = .bool true ∧ Ext w0 w') := by
 have hl64 : (logP knE1).length = 64 := kn_log2.1
 refine f_n func8 ?_
 refine go ?_
 refine x_l fun bk3 w4 ebk3 sbk3 B5 u6 => ?_
 refine x_c func9 rfl rfl (knLog_c bk3 _ B5) ?_
 rintro _ w9 ⟨⟨a9, g9, c9, rfl, hF9⟩, u10⟩ zu10
 have lt_g9 := hF9.lt
 refine go ?_
 refine x_l fun bk14 w15 ebk14 sbk14 B16 u17 => ?_
 refine go ?_
 refine x_l fun bk19 w20 ebk19 sbk19 B21 u22 => ?_
 have B24 := (B16.kx u22)
 refine x_c func24 rfl rfl (knGau_c bk19 bk14 _ (hT.ext (((((Upd.refl (fun _ => False) w0).nx u6).nx u10).nx u17).nx u22)) B24 B21) ?_
 rintro _ w26 ⟨⟨t9, rfl, ht9, ht6⟩, u27⟩ zu27
 refine go ?_
 have D31 := (((hF9.keep u17 (fun _ h => h)).keep u22 (fun _ h => h)).keep u27 (fun _ h => h))
 refine g_i 0 (D31.sl (fun _ => rfl)) (fun _ => ?_)
 refine st1 ?_
 refine t_same 32 (v := .int .u8 142) rfl (by rw [kn_log2.2.1]; rfl) ?_
 refine go ?_
 refine g_i 31 (D31.sl (fun _ => rfl)) (fun _ => ?_)
 refine st1 ?_
 refine t_same 38 (v := .int .u8 14) rfl (by rw [kn_log2.2.2.2.2.1]; rfl) ?_
 refine go ?_
 refine t_lenS underlying9 rfl rfl rfl rfl (t_same 43 (v := .int .i64 9) rfl (congrArg (fun n : Nat => Value.int .i64 (n : Int)) ht9) ?_)
 refine go ?_
 refine t_subS 0 6 underlying9 rfl rfl rfl (.inr ⟨rfl, rfl⟩) (k := .i64) (m := 0) (x1 := .tmp 0) (.inl ⟨rfl, rfl, by first | rfl | omega⟩) (by omega) (by omega) (t_bo (Bo.eqS (((t9).drop 0).take (6 - 0)) ([48, 32, 48, 32, 48, 32])) rfl rfl rfl rfl (t_same 49 (v := .bool true) rfl (congrArg Value.bool (decide_eq_true (by exact ht6))) ?_))
 refine go ?_
 refine f_1 results8 ?_
 exact ⟨rfl, u_d⟩

end Go.Proofs.YtagmkfbbhfaceaaGreatDoor
