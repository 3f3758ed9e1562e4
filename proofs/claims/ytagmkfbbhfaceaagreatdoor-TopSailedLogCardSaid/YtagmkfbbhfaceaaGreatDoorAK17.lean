/-
  Part 17 of the proof: contracts and plain laws. Conditions: none.
-/
import Derived.Test.YtagmkfbbhfaceaaGreatDoorAK16
namespace Go.Proofs.YtagmkfbbhfaceaaGreatDoor
open Go Go.RowKit Go.Proofs.Tryz
set_option maxRecDepth 10000
section
variable {P : Program} {ops : Array Oper} {Q : Exit → Act → World → Prop} {N : Nat} {ds : List Deferred} {rest : List Oper} {L : Slots} {w : World} {rd : Option Nat} {d : Nat} {ty : TypeId} {pos : String} {aft : Array Edge} {gd : Option (Nat × Bool)}
/-- A remainder whose value is known. -/
theorem t_remV {xt yt : TypeId} {x y : Operand} {m n : Int} (q : Int) (hg : grd ops L gd = true) (hN : Nat.blt d N = true) (hx : ev L x = some (.int .i64 m)) (hy : ev L y = some (.int .i64 n)) (hn : n ≠ 0) (hq : m.tmod n = q) (hr : -9223372036854775808 ≤ q ∧ q ≤ 9223372036854775807)
    (h : WL rd P ops Q N ds rest ((d, .int .i64 q) :: L) w) : WL rd P ops Q N ds (⟨some d, .binOp .rem xt x y yt, ty, pos, aft, gd⟩ :: rest) L w :=
  WL.value hg rfl hN (fun a ha => by
    have e1 := ha.ev hx
    have e2 := ha.ev hy
    have e3 : IntKind.i64.wrap (m.tmod n) = q := by rw [hq]; exact IntWalk.i64_in _ hr
    simp [execOp, e1, e2, eqGuard, binOp, Op.intDiv, hn, hq]) h
end
theorem own134 : Own Tryz.prog 134 := ⟨Tryz.f134, func134, by kernel_rfl, by kernel_rfl⟩
theorem own176 : Own Tryz.prog 176 := ⟨Tryz.f176, func176, by kernel_rfl, by kernel_rfl⟩
theorem own178 : Own Tryz.prog 178 := ⟨Tryz.f178, func178, by kernel_rfl, by kernel_rfl⟩
theorem rwithin1_c (lo hi n : Int) (b c : Nat) (t1 t2 : TypeId) (w0 : World) (hb : Blk w0 b t1 [.int .i64 lo]) (hc : Blk w0 c t2 [.int .i64 hi]) :
    CallsV Tryz.prog 176 [.int .i64 n, .pointer (some ⟨b, 0, none⟩), .pointer (some ⟨c, 0, none⟩)] w0 (fun v w' => v = .bool (out1 lo hi n) ∧ Ext w0 w') := by
 refine f_n func176 ?_
 refine go ?_
 refine t_splitp 8 rfl (fun g8 => ?_) (fun g8 => ?_)
 ·
  refine go ?_
  refine f_1 results176 ?_
  exact ⟨by simp [out1, *], u_d⟩
 refine go ?_
 refine f_1 results176 ?_
 exact ⟨by simp [out1, *], u_d⟩
theorem rwithin_c (lo hi : Int) (xs : List Int) (ao : Option Addr) (b o cap : Nat) (w0 : World) (hs : Sl encI 1 w0 ao b o xs) (hl : xs.length ≤ 1000000) :
    CallsV Tryz.prog 133 [.int .i64 lo, .int .i64 hi, .slice ao xs.length cap] w0 (fun v w' => v = .bool (decide (∀ n ∈ xs, lo ≤ n ∧ n ≤ hi)) ∧ Ext w0 w') := by
 refine f_n func133 ?_
 refine go ?_
 refine x_b fun bk2 w3 ebk2 sbk2 B4 u5 => ?_
 refine x_b fun bk7 w8 ebk7 sbk7 B9 u10 => ?_
 refine go ?_
 refine t_mkfunc (vs := []) (us := [.pointer (some ⟨bk2, 0, none⟩), .pointer (some ⟨bk7, 0, none⟩)]) rfl rfl rfl rfl ?_
 have B13 := (B4.kx u10)
 refine x_c func82 rfl rfl (containsI_c (out1 lo hi) 176 [.pointer (some ⟨bk2, 0, none⟩), .pointer (some ⟨bk7, 0, none⟩)] xs ao b o cap _ own176 (fun x _ w u => rwithin1_c lo hi x bk2 bk7 _ _ w (B13.keep u (fun h => h)) (B9.keep u (fun h => h))) (hs.keep (((Upd.refl (fun _ => False) w0).nx u5).nx u10) (fun _ h => h)) hl) ?_
 rintro _ w15 ⟨rfl, u16⟩ zu16
 refine go ?_
 refine f_1 results133 ?_
 exact ⟨by rw [not_any_out], u_d⟩
theorem rw1_t (lo hi m : Int) (b : Nat) (t : TypeId) (w : World) (h : Blk w b t [.int .i64 m]) (hr : (lo ≤ m ∧ m ≤ hi)) : CallsV Tryz.prog 133 [.int .i64 lo, .int .i64 hi, .slice (some ⟨b, 0, none⟩) 1 1] w (fun v w' => v = .bool true ∧ Ext w w') :=
  (rwithin_c lo hi [m] _ b 0 1 w (SlI.own (xs := [m]) h) (by simp)).mono fun v w' ⟨e, u⟩ => ⟨by rw [e]; simp; omega, u⟩
theorem rw2_t (lo hi m n : Int) (b : Nat) (t : TypeId) (w : World) (h : Blk w b t [.int .i64 m, .int .i64 n]) (hr : (lo ≤ m ∧ m ≤ hi) ∧ (lo ≤ n ∧ n ≤ hi)) : CallsV Tryz.prog 133 [.int .i64 lo, .int .i64 hi, .slice (some ⟨b, 0, none⟩) 2 2] w (fun v w' => v = .bool true ∧ Ext w w') :=
  (rwithin_c lo hi [m, n] _ b 0 2 w (SlI.own (xs := [m, n]) h) (by simp)).mono fun v w' ⟨e, u⟩ => ⟨by rw [e]; simp; omega, u⟩
structure Bnd2 where
  lo : Int
  hi : Int
instance : Inhabited Bnd2 := ⟨⟨default, default⟩⟩
def encBd2 (x : Bnd2) : List Value := [.int .i64 x.lo, .int .i64 x.hi]
def encRt (x : Bnd2) : List Value := [.int .i64 x.lo, .int .i64 x.hi]
def cvR : List Bnd2 := [⟨0, 100⟩, ⟨10000, 300⟩]
theorem indexBd_c {α : Type} [Inhabited α] (enc : α → List Value) (hk : ∀ x, (enc x).length = 2) (p : α → Bool) (fv : FuncId) (caps : List Value) (xs : List α) (ao : Option Addr) (b o cap : Nat) (w0 : World) (ho : Own Tryz.prog fv) (hp : ∀ x ∈ xs, ∀ w, Ext w0 w → CallsV Tryz.prog fv ([.agg (enc x).toArray] ++ caps) w fun v w' => v = .bool (p x) ∧ Ext w w') (hs : Sl enc 2 w0 ao b o xs) (hl : xs.length ≤ 1000000) :
    CallsV Tryz.prog 174 [.slice ao xs.length cap, .func (.func fv) #[] (caps).toArray] w0 (fun v w' => (∃ n : Int, v = .int .i64 n ∧ decide (0 ≤ n) = xs.any p) ∧ Ext w0 w') := by
 refine f_n func174 ?_
 refine go ?_
 refine x_l1 (fun _ => False) [0, 1, 7] (fun (k : Nat) => [(8, .int .i64 (k : Int))]) (fun k w => (k ≤ xs.length) ∧ ((xs.take k).any p = false)) (fun k => xs.length - k) 0 ⟨Nat.zero_le _, (by simp)⟩ ?_
 rintro k w5 ⟨hle, hnot⟩ u6 zu6 K4 hK4
 have E7 := Sc.mk ((Upd.refl (fun _ => False) w0).nx u6)
 refine go ?_
 refine q_p (fun g9 => ?_) fun g9 => ?_
 ·
  refine go ?_
  refine g_i k (hs.keep E7.u (fun _ h => h)) (fun _ => ?_)
  refine t_loadN (vs := enc (nth xs k)) isAgg34 sizeOf34 rfl rfl rfl ((hs.keep E7.u (fun _ h => h)).at_ k (by omega)) (hk _) (t_call (fs := []) (cs := caps) ho rfl rfl rfl rfl (hp (nth xs k) (nth_mem (by omega)) _ E7.u) (fun v14 w15 r17 => ?_))
  obtain ⟨rfl, u16⟩ := r17
  have zu16 := u16.size
  refine go ?_
  refine q_b (fun g16 => ?_) fun g16 => ?_
  ·
   refine go ?_
   refine f_1 results174 ?_
   exact ⟨⟨_, rfl, any_hit (by omega) g16⟩, u_d⟩
  refine go ?_
  exact hK4 (k + 1) ⟨(by omega), (any_snoc (by omega) hnot g16)⟩
 refine go ?_
 refine f_1 results174 ?_
 exact ⟨⟨_, rfl, any_none (by omega) hnot⟩, u_d⟩
theorem containsBd_c {α : Type} [Inhabited α] (enc : α → List Value) (hk : ∀ x, (enc x).length = 2) (p : α → Bool) (fv : FuncId) (caps : List Value) (xs : List α) (ao : Option Addr) (b o cap : Nat) (w0 : World) (ho : Own Tryz.prog fv) (hp : ∀ x ∈ xs, ∀ w, Ext w0 w → CallsV Tryz.prog fv ([.agg (enc x).toArray] ++ caps) w fun v w' => v = .bool (p x) ∧ Ext w w') (hs : Sl enc 2 w0 ao b o xs) (hl : xs.length ≤ 1000000) :
    CallsV Tryz.prog 126 [.slice ao xs.length cap, .func (.func fv) #[] (caps).toArray] w0 (fun v w' => v = .bool (xs.any p) ∧ Ext w0 w') := by
 refine f_n func126 ?_
 refine go ?_
 refine x_c func174 rfl rfl (indexBd_c enc hk p fv caps xs ao b o cap _ ho hp hs hl) ?_
 rintro _ w4 ⟨⟨n, rfl, hn⟩, u5⟩ zu5
 refine go ?_
 refine f_1 results126 ?_
 exact ⟨by rw [hn], u_d⟩
theorem rvalid1_c (lo hi a b : Int) (p q : Nat) (t1 t2 : TypeId) (w0 : World) (hb : Blk w0 p t1 [.int .i64 lo]) (hc : Blk w0 q t2 [.int .i64 hi]) (hr : a ≤ b ∧ (lo ≤ a ∧ a ≤ hi) ∧ (lo ≤ b ∧ b ≤ hi)) :
    CallsV Tryz.prog 134 [.agg #[.int .i64 a, .int .i64 b], .pointer (some ⟨p, 0, none⟩), .pointer (some ⟨q, 0, none⟩)] w0 (fun v w' => v = .bool false ∧ Ext w0 w') := by
 refine f_n func134 ?_
 refine go ?_
 refine x_b fun bk2 w3 ebk2 sbk2 B4 u5 => ?_
 iterate 10 refine st1 ?_
 refine t_same 9 (v := .bool false) rfl (congrArg Value.bool (decide_eq_false (by omega))) ?_
 refine go ?_
 refine x_l fun bk8 w9 ebk8 sbk8 B10 u11 => ?_
 refine x_c func133 rfl rfl (rw2_t lo hi a b _ _ _ B10 (by omega)) ?_
 rintro _ w14 ⟨rfl, u15⟩ zu15
 refine go ?_
 refine f_1 results134 ?_
 exact ⟨rfl, u_d⟩
theorem rvalid_c (lo hi a b : Int) (g : Nat) (w0 : World) (hs : Blk w0 g 34 [.int .i64 a, .int .i64 b]) (hr : a ≤ b ∧ (lo ≤ a ∧ a ≤ hi) ∧ (lo ≤ b ∧ b ≤ hi)) :
    CallsV Tryz.prog 86 [.int .i64 lo, .int .i64 hi, .slice (some ⟨g, 0, none⟩) 1 1] w0 (fun v w' => v = .bool true ∧ Ext w0 w') := by
 have hx : Sl encBd2 2 w0 (some ⟨g, 0, none⟩) g 0 [⟨a, b⟩] := Sl.ofBlk (enc := encBd2) (xs := [⟨a, b⟩]) (fun _ => rfl) hs
 refine f_n func86 ?_
 refine go ?_
 refine x_b fun bk2 w3 ebk2 sbk2 B4 u5 => ?_
 refine x_b fun bk7 w8 ebk7 sbk7 B9 u10 => ?_
 refine go ?_
 refine t_mkfunc (vs := []) (us := [.pointer (some ⟨bk2, 0, none⟩), .pointer (some ⟨bk7, 0, none⟩)]) rfl rfl rfl rfl ?_
 have B13 := (B4.kx u10)
 have hc9 := containsBd_c encBd2 (fun _ => rfl) (fun _ => false) 134 [.pointer (some ⟨bk2, 0, none⟩), .pointer (some ⟨bk7, 0, none⟩)] [⟨a, b⟩] (some ⟨g, 0, none⟩) g 0 1 w8 own134 (fun x hx w u => by
   obtain rfl := List.mem_singleton.1 hx
   exact rvalid1_c lo hi a b bk2 bk7 _ _ w (B13.keep u (fun h => h)) (B9.keep u (fun h => h)) hr) (hx.keep (((Upd.refl (fun _ => False) w0).nx u5).nx u10) (fun _ h => h)) (by simp)
 refine x_c func126 rfl rfl hc9 ?_
 rintro _ w15 ⟨rfl, u16⟩ zu16
 refine go ?_
 refine f_1 results86 ?_
 exact ⟨rfl, u_d⟩
set_option maxHeartbeats 4000000 in
theorem rcheck_c (dl bl bh fl : Int) (g : Nat) (w0 : World) (hcv : Sl encRt 2 w0 (some ⟨g, 0, none⟩) g 0 cvR) (hd : 0 ≤ dl ∧ dl ≤ 200) (hb : bl ≤ bh ∧ (0 ≤ bl ∧ bl ≤ 10000000000) ∧ (0 ≤ bh ∧ bh ≤ 10000000000)) (hf : 0 ≤ fl ∧ fl ≤ 10000) :
    CallsV Tryz.prog 85 [.agg #[.int .i64 100, .int .i64 dl, .int .i64 bl, .int .i64 bh, .slice (some ⟨g, 0, none⟩) 2 2, .int .i64 0, .int .i64 50, .int .i64 60, .int .i64 fl]] w0 (fun v w' => v = .int .i64 0 ∧ Ext w0 w') := by
 refine f_n func85 ?_
 refine go ?_
 refine x_b fun bk2 w3 ebk2 sbk2 B4 u5 => ?_
 refine go ?_
 refine x_l fun bk10 w11 ebk10 sbk10 B12 u13 => ?_
 refine x_c func133 rfl rfl (rw1_t 1 5000 100 _ _ _ B12 (by omega)) ?_
 rintro _ w16 ⟨rfl, u17⟩ zu17
 refine go ?_
 refine x_l fun bk20 w21 ebk20 sbk20 B22 u23 => ?_
 refine x_c func133 rfl rfl (rw1_t 0 200 dl _ _ _ B22 (by omega)) ?_
 rintro _ w26 ⟨rfl, u27⟩ zu27
 refine go ?_
 refine x_l fun bk30 w31 ebk30 sbk30 B32 u33 => ?_
 refine x_c func86 rfl rfl (rvalid_c 0 10000000000 bl bh bk30 _ B32 (by omega)) ?_
 rintro _ w36 ⟨rfl, u37⟩ zu37
 refine go ?_
 refine x_l fun bk40 w41 ebk40 sbk40 B42 u43 => ?_
 refine x_c func133 rfl rfl (rw1_t 2 30 2 _ _ _ B42 (by omega)) ?_
 rintro _ w46 ⟨rfl, u47⟩ zu47
 refine go ?_
 refine x_l fun bk50 w51 ebk50 sbk50 B52 u53 => ?_
 refine x_c func133 rfl rfl (rw2_t 0 10000 0 fl _ _ _ B52 (by omega)) ?_
 rintro _ w56 ⟨rfl, u57⟩ zu57
 refine go ?_
 refine x_l fun bk60 w61 ebk60 sbk60 B62 u63 => ?_
 refine x_c func86 rfl rfl (rvalid_c 0 10000 50 60 bk60 _ B62 (by omega)) ?_
 rintro _ w66 ⟨rfl, u67⟩ zu67
 refine go ?_
 refine x_n fun bk71 w72 ebk71 sbk71 B73 u74 => ?_
 refine x_s fun w76 sw76 B78 u77 => ?_
 have E79 := Sc.mk ((((((((((((((((Upd.refl (fun _ => False) w0).nx u5).nx u13).nx u17).nx u23).nx u27).nx u33).nx u37).nx u43).nx u47).nx u53).nx u57).nx u63).nx u67).nx u74).next u77 (fun i hi h => by omega))
 refine go ?_
 refine c_rounds 3 (WR.weak [(4, .pointer (some ⟨bk71, 0, none⟩)), (53, .slice (some ⟨g, 0, none⟩) 2 2), (54, .int .i64 2), (55, .int .i64 0)] ⟨rfl, rfl, rfl, rfl, trivial⟩ (r_round fun K82 hK82 => (q_of ?_)))
 refine go ?_
 have i87 : 0 < cvR.length := (by decide)
 refine g_i 0 (hcv.keep E79.u (fun _ h => h)) (fun _ => ?_)
 refine st1 ?_
 refine t_same 58 (v := .agg #[.int .i64 0, .int .i64 100]) rfl rfl ?_
 refine x_n fun bk88 w89 ebk88 sbk88 B90 u91 => ?_
 refine x_s fun w93 sw93 B95 u94 => ?_
 refine go ?_
 refine x_l fun bk99 w100 ebk99 sbk99 B101 u102 => ?_
 refine x_c func133 rfl rfl (rw1_t (-1 + 1) 10000000000 0 _ _ _ B101 (by omega)) ?_
 rintro _ w105 ⟨rfl, u106⟩ zu106
 refine go ?_
 refine x_l fun bk109 w110 ebk109 sbk109 B111 u112 => ?_
 refine x_c func133 rfl rfl (rw1_t 0 10000 100 _ _ _ B111 (by omega)) ?_
 rintro _ w115 ⟨rfl, u116⟩ zu116
 refine go ?_
 refine x_s fun w119 sw119 B121 u120 => ?_
 refine go ?_
 refine hK82 _ _ (WR.weak [(4, .pointer (some ⟨bk71, 0, none⟩)), (53, .slice (some ⟨g, 0, none⟩) 2 2), (54, .int .i64 2), (55, .int .i64 1)] ⟨rfl, rfl, rfl, rfl, trivial⟩ (r_round fun K123 hK123 => (q_of ?_)))
 refine go ?_
 have i128 : 1 < cvR.length := (by decide)
 refine g_i 1 (hcv.keep (((((((E79.u.nx u91).next u94 (fun i hi h => by omega)).nx u102).nx u106).nx u112).nx u116).next u120 (fun i hi h => by omega)) (fun _ h => h)) (fun _ => ?_)
 refine st1 ?_
 refine t_same 58 (v := .agg #[.int .i64 10000, .int .i64 300]) rfl rfl ?_
 refine x_n fun bk129 w130 ebk129 sbk129 B131 u132 => ?_
 refine x_s fun w134 sw134 B136 u135 => ?_
 refine go ?_
 refine x_l fun bk140 w141 ebk140 sbk140 B142 u143 => ?_
 refine x_c func133 rfl rfl (rw1_t 1 10000000000 10000 _ _ _ B142 (by omega)) ?_
 rintro _ w146 ⟨rfl, u147⟩ zu147
 refine go ?_
 refine x_l fun bk150 w151 ebk150 sbk150 B152 u153 => ?_
 refine x_c func133 rfl rfl (rw1_t 100 10000 300 _ _ _ B152 (by omega)) ?_
 rintro _ w156 ⟨rfl, u157⟩ zu157
 refine go ?_
 refine x_s fun w160 sw160 B162 u161 => ?_
 refine go ?_
 refine hK123 _ _ (WR.weak [(4, .pointer (some ⟨bk71, 0, none⟩)), (53, .slice (some ⟨g, 0, none⟩) 2 2), (54, .int .i64 2), (55, .int .i64 2)] ⟨rfl, rfl, rfl, rfl, trivial⟩ (r_round fun K164 hK164 => (q_of ?_)))
 refine go ?_
 refine f_1 results85 ?_
 exact ⟨rfl, u_d⟩
theorem down1_c  (w0 : World) :
    CallsV Tryz.prog 136 [.int .i64 400000, .int .i64 10000] w0 (fun v w' => v = .int .i64 40 ∧ Ext w0 w') := by
 refine f_n func136 ?_
 refine go ?_
 refine c_drawnM follows (fun _ => False) (OTl [0, 2, 4, 6, 8, 10, 12, 14]) (by kernel_rfl) fun w3 u4 => ?_
 have zu4 := u4.size
 refine go ?_
 refine y_quo rfl rfl rfl rfl (by omega) (by omega) (y_same 9 (v := .int .i64 40) rfl rfl ?_)
 refine go ?_
 refine y_rem rfl rfl rfl rfl (by omega) (by omega) (y_same 12 (v := .int .i64 0) rfl rfl ?_)
 refine go ?_
 refine f_1 results136 ?_
 exact ⟨rfl, u_d⟩
theorem down2_c  (w0 : World) :
    CallsV Tryz.prog 136 [.int .i64 (-600000), .int .i64 10000] w0 (fun v w' => v = .int .i64 (-60) ∧ Ext w0 w') := by
 refine f_n func136 ?_
 refine go ?_
 refine c_drawnM follows (fun _ => False) (.look 0 (.look 1 (.look 3 (.look 4 (.act 2 (.look 6 (.act 5 (.look 7 .done) .stop)) (.act 5 (.act 2 (.look 6 (.look 7 .done)) .stop) .stop)))))) (by kernel_rfl) fun w3 u4 => ?_
 have zu4 := u4.size
 refine go ?_
 refine s_or ?_ ?_
 ·
  refine go ?_
  refine t_quoV (-60) rfl rfl rfl rfl (by decide) (by decide) (by decide) ?_
  refine go ?_
  refine t_remV 0 rfl rfl rfl rfl (by decide) (by decide) (by decide) ?_
  refine go ?_
  refine f_1 results136 ?_
  exact ⟨rfl, u_d⟩
 refine go ?_
 refine t_remV 0 rfl rfl rfl rfl (by decide) (by decide) (by decide) ?_
 refine go ?_
 refine t_quoV (-60) rfl rfl rfl rfl (by decide) (by decide) (by decide) ?_
 refine go ?_
 refine f_1 results136 ?_
 exact ⟨rfl, u_d⟩
theorem up_c  (w0 : World) :
    CallsV Tryz.prog 137 [.int .i64 600000, .int .i64 10000] w0 (fun v w' => v = .int .i64 60 ∧ Ext w0 w') := by
 refine f_n func137 ?_
 refine go ?_
 refine t_neg rfl rfl rfl (by omega) (t_same 6 (v := .int .i64 (-600000)) rfl rfl ?_)
 refine go ?_
 refine x_c func136 rfl rfl (down2_c _) ?_
 rintro _ w4 ⟨rfl, u5⟩ zu5
 refine t_neg rfl rfl rfl (by omega) (t_same 9 (v := .int .i64 60) rfl rfl ?_)
 refine go ?_
 refine f_1 results137 ?_
 exact ⟨rfl, u_d⟩
theorem at1_c (i : Nat) (fl : Int) (g p q : Nat) (w0 : World) (hi : i < 2) (hcv : Sl encRt 2 w0 (some ⟨g, 0, none⟩) g 0 cvR) (hp : Blk w0 p 136 [.slice (some ⟨g, 0, none⟩) 2 2]) (hq : Blk w0 q 3 [.int .i64 fl]) :
    CallsV Tryz.prog 178 [.int .i64 (i : Int), .pointer (some ⟨p, 0, none⟩), .pointer (some ⟨q, 0, none⟩)] w0 (fun v w' => v = .bool (decide (fl < (nth cvR i).lo)) ∧ Ext w0 w') := by
 refine f_n func178 ?_
 refine go ?_
 refine c_drawnM follows (fun _ => False) (OTl [0, 2, 4, 6, 8, 10, 12, 14]) (by kernel_rfl) fun w3 u4 => ?_
 have zu4 := u4.size
 refine go ?_
 have i6 : i < cvR.length := hi
 refine y_i i (hcv.keep ((Upd.refl (fun _ => False) w0).nx u4) (fun _ h => h)) (fun _ => ?_)
 refine go ?_
 refine f_1 results178 ?_
 exact ⟨rfl, u_d⟩
theorem at_r {fl r : Int} (hf : 0 ≤ fl ∧ fl < 10000) (h0 : 0 ≤ r) (h1 : r ≤ 2) (h2 : 0 < r → decide (fl < (nth cvR (r - 1).toNat).lo) = false) (h3 : r < 2 → decide (fl < (nth cvR r.toNat).lo) = true) : r = 1 := by
  have e : r = 0 ∨ r = 1 ∨ r = 2 := by omega
  rcases e with rfl | rfl | rfl
  · have := of_decide_eq_true (h3 (by decide))
    have e9 : (nth cvR (0 : Int).toNat).lo = 0 := rfl
    omega
  · rfl
  · have := of_decide_eq_false (h2 (by decide))
    have e9 : (nth cvR ((2 : Int) - 1).toNat).lo = 10000 := rfl
    omega
theorem atS_c (fl : Int) (g p q : Nat) (w : World) (hf : 0 ≤ fl ∧ fl < 10000) (hcv : Sl encRt 2 w (some ⟨g, 0, none⟩) g 0 cvR) (hp : Blk w p 136 [.slice (some ⟨g, 0, none⟩) 2 2]) (hq : Blk w q 3 [.int .i64 fl]) :
    CallsV Tryz.prog 177 [.int .i64 2, .func (.func 178) #[] #[.pointer (some ⟨p, 0, none⟩), .pointer (some ⟨q, 0, none⟩)]] w (fun v w' => v = .int .i64 1 ∧ Ext w w') :=
  (search_c 2 (fun x => decide (fl < (nth cvR x.toNat).lo)) 178 [.pointer (some ⟨p, 0, none⟩), .pointer (some ⟨q, 0, none⟩)] w (by decide) own178 (fun x hx W u => by
    obtain ⟨i, rfl⟩ : ∃ i : Nat, x = (i : Int) := ⟨x.toNat, by omega⟩
    exact at1_c i fl g p q W (by omega) (hcv.keep u (fun _ h => h)) (hp.keep u (fun h => h)) (hq.keep u (fun h => h)))).mono fun v w' ⟨⟨r, e, h0, h1, h2, h3⟩, u⟩ => ⟨by rw [e, at_r hf h0 h1 h2 h3], u⟩
theorem at_c1 (g : Nat) (w0 : World) (hcv : Sl encRt 2 w0 (some ⟨g, 0, none⟩) g 0 cvR) :
    CallsV Tryz.prog 135 [.slice (some ⟨g, 0, none⟩) 2 2, .int .i64 2000, .func (.func 136) #[] #[]] w0 (fun v w' => v = .int .i64 140 ∧ Ext w0 w') := by
 refine f_n func135 ?_
 refine go ?_
 refine x_b fun bk2 w3 ebk2 sbk2 B4 u5 => ?_
 refine x_b fun bk7 w8 ebk7 sbk7 B9 u10 => ?_
 have E11 := Sc.mk (((Upd.refl (fun _ => False) w0).nx u5).nx u10)
 refine go ?_
 refine t_mkfunc (vs := []) (us := [.pointer (some ⟨bk2, 0, none⟩), .pointer (some ⟨bk7, 0, none⟩)]) rfl rfl rfl rfl ?_
 have B13 := (B4.kx u10)
 refine x_c func177 rfl rfl (atS_c 2000 g bk2 bk7 _ (by omega) (hcv.keep E11.u (fun _ h => h)) B13 B9) ?_
 rintro _ w15 ⟨rfl, u16⟩ zu16
 refine go ?_
 refine c_drawnM follows (fun _ => False) (.look 0 (.look 1 (.look 2 (.look 3 (.look 4 (.look 5 (.look 6 (.look 7 (.look 8 (.act 9 (.act 10 (.act 11 (.act 12 .done .stop) .stop) .stop) (.act 10 (.act 9 (.act 11 (.act 12 .done .stop) .stop) .stop) .stop))))))))))) (by kernel_rfl) fun w24 u25 => ?_
 have zu25 := u25.size
 have E26 := Sc.mk ((E11.u.nx u16).nx u25)
 refine go ?_
 have i27 : 0 < cvR.length := (by decide)
 refine y_i 0 (hcv.keep E26.u (fun _ h => h)) (fun _ => ?_)
 refine st1 ?_
 refine y_same 35 (v := .agg #[.int .i64 0, .int .i64 100]) rfl rfl ?_
 refine go ?_
 have i28 : 1 < cvR.length := (by decide)
 refine y_i 1 (hcv.keep E26.u (fun _ h => h)) (fun _ => ?_)
 refine st1 ?_
 refine y_same 39 (v := .agg #[.int .i64 10000, .int .i64 300]) rfl rfl (s_or ?_ ?_)
 ·
  refine go ?_
  refine x_n fun bk29 w30 ebk29 sbk29 B31 u32 => ?_
  refine go ?_
  refine x_n fun bk34 w35 ebk34 sbk34 B36 u37 => ?_
  refine go ?_
  refine x_s fun w39 sw39 B41 u40 => ?_
  refine go ?_
  refine x_s fun w43 sw43 B45 u44 => ?_
  refine go ?_
  refine c_drawnM follows (fun _ => False) (OTl [0, 2, 4, 6, 8, 10, 12, 14, 16, 18, 20, 22, 24, 26, 28, 30, 32, 34, 37, 38, 40]) (by kernel_rfl) fun w48 u49 => ?_
  have zu49 := u49.size
  refine go ?_
  refine x_c func136 rfl rfl (down1_c _) ?_
  rintro _ w52 ⟨rfl, u53⟩ zu53
  refine go ?_
  refine f_1 results135 ?_
  exact ⟨rfl, u_d⟩
 refine go ?_
 refine x_n fun bk56 w57 ebk56 sbk56 B58 u59 => ?_
 refine go ?_
 refine x_n fun bk61 w62 ebk61 sbk61 B63 u64 => ?_
 refine go ?_
 refine x_s fun w66 sw66 B68 u67 => ?_
 refine go ?_
 refine x_s fun w70 sw70 B72 u71 => ?_
 refine go ?_
 refine c_drawnM follows (fun _ => False) (OTl [0, 2, 4, 6, 8, 10, 12, 14, 16, 18, 20, 22, 24, 26, 28, 30, 32, 34, 37, 38, 40]) (by kernel_rfl) fun w75 u76 => ?_
 have zu76 := u76.size
 refine go ?_
 refine x_c func136 rfl rfl (down1_c _) ?_
 rintro _ w79 ⟨rfl, u80⟩ zu80
 refine go ?_
 refine f_1 results135 ?_
 exact ⟨rfl, u_d⟩
theorem at_c2 (g : Nat) (w0 : World) (hcv : Sl encRt 2 w0 (some ⟨g, 0, none⟩) g 0 cvR) :
    CallsV Tryz.prog 135 [.slice (some ⟨g, 0, none⟩) 2 2, .int .i64 3000, .func (.func 137) #[] #[]] w0 (fun v w' => v = .int .i64 160 ∧ Ext w0 w') := by
 refine f_n func135 ?_
 refine go ?_
 refine x_b fun bk2 w3 ebk2 sbk2 B4 u5 => ?_
 refine x_b fun bk7 w8 ebk7 sbk7 B9 u10 => ?_
 have E11 := Sc.mk (((Upd.refl (fun _ => False) w0).nx u5).nx u10)
 refine go ?_
 refine t_mkfunc (vs := []) (us := [.pointer (some ⟨bk2, 0, none⟩), .pointer (some ⟨bk7, 0, none⟩)]) rfl rfl rfl rfl ?_
 have B13 := (B4.kx u10)
 refine x_c func177 rfl rfl (atS_c 3000 g bk2 bk7 _ (by omega) (hcv.keep E11.u (fun _ h => h)) B13 B9) ?_
 rintro _ w15 ⟨rfl, u16⟩ zu16
 refine go ?_
 refine c_drawnM follows (fun _ => False) (.look 0 (.look 1 (.look 2 (.look 3 (.look 4 (.look 5 (.look 6 (.look 7 (.look 8 (.act 9 (.act 10 (.act 11 (.act 12 .done .stop) .stop) .stop) (.act 10 (.act 9 (.act 11 (.act 12 .done .stop) .stop) .stop) .stop))))))))))) (by kernel_rfl) fun w24 u25 => ?_
 have zu25 := u25.size
 have E26 := Sc.mk ((E11.u.nx u16).nx u25)
 refine go ?_
 have i27 : 0 < cvR.length := (by decide)
 refine y_i 0 (hcv.keep E26.u (fun _ h => h)) (fun _ => ?_)
 refine st1 ?_
 refine y_same 35 (v := .agg #[.int .i64 0, .int .i64 100]) rfl rfl ?_
 refine go ?_
 have i28 : 1 < cvR.length := (by decide)
 refine y_i 1 (hcv.keep E26.u (fun _ h => h)) (fun _ => ?_)
 refine st1 ?_
 refine y_same 39 (v := .agg #[.int .i64 10000, .int .i64 300]) rfl rfl (s_or ?_ ?_)
 ·
  refine go ?_
  refine x_n fun bk29 w30 ebk29 sbk29 B31 u32 => ?_
  refine go ?_
  refine x_n fun bk34 w35 ebk34 sbk34 B36 u37 => ?_
  refine go ?_
  refine x_s fun w39 sw39 B41 u40 => ?_
  refine go ?_
  refine x_s fun w43 sw43 B45 u44 => ?_
  refine go ?_
  refine c_drawnM follows (fun _ => False) (OTl [0, 2, 4, 6, 8, 10, 12, 14, 16, 18, 20, 22, 24, 26, 28, 30, 32, 34, 37, 38, 40]) (by kernel_rfl) fun w48 u49 => ?_
  have zu49 := u49.size
  refine go ?_
  refine x_c func137 rfl rfl (up_c _) ?_
  rintro _ w52 ⟨rfl, u53⟩ zu53
  refine go ?_
  refine f_1 results135 ?_
  exact ⟨rfl, u_d⟩
 refine go ?_
 refine x_n fun bk56 w57 ebk56 sbk56 B58 u59 => ?_
 refine go ?_
 refine x_n fun bk61 w62 ebk61 sbk61 B63 u64 => ?_
 refine go ?_
 refine x_s fun w66 sw66 B68 u67 => ?_
 refine go ?_
 refine x_s fun w70 sw70 B72 u71 => ?_
 refine go ?_
 refine c_drawnM follows (fun _ => False) (OTl [0, 2, 4, 6, 8, 10, 12, 14, 16, 18, 20, 22, 24, 26, 28, 30, 32, 34, 37, 38, 40]) (by kernel_rfl) fun w75 u76 => ?_
 have zu76 := u76.size
 refine go ?_
 refine x_c func137 rfl rfl (up_c _) ?_
 rintro _ w79 ⟨rfl, u80⟩ zu80
 refine go ?_
 refine f_1 results135 ?_
 exact ⟨rfl, u_d⟩
theorem rlevel_c (dl bl bh fl : Int) (g : Nat) (w0 : World) (hcv : Sl encRt 2 w0 (some ⟨g, 0, none⟩) g 0 cvR) :
    CallsV Tryz.prog 87 [.agg #[.int .i64 100, .int .i64 dl, .int .i64 bl, .int .i64 bh, .slice (some ⟨g, 0, none⟩) 2 2, .int .i64 0, .int .i64 50, .int .i64 60, .int .i64 fl], .agg #[.int .i64 2000, .int .i64 3000]] w0 (fun v w' => v = .agg #[.int .i64 140, .int .i64 160] ∧ Ext w0 w') := by
 refine f_n func87 ?_
 refine go ?_
 refine x_b fun bk2 w3 ebk2 sbk2 B4 u5 => ?_
 refine x_b fun bk7 w8 ebk7 sbk7 B9 u10 => ?_
 refine x_n fun bk12 w13 ebk12 sbk12 B14 u15 => ?_
 refine go ?_
 refine c_drawnM follows (fun i => i = bk12) (OTl [0, 2, 4, 6, 8, 10, 16, 18, 20, 22, 24, 26, 13, 14, 29, 30, 32, 35]) (by kernel_rfl) fun w18 u19 => ?_
 have zu19 := u19.size
 have E20 := Sc.mk (((((Upd.refl (fun _ => False) w0).nx u5).nx u10).nx u15).nx u19)
 refine go ?_
 refine x_c func135 rfl rfl (at_c1 g _ (hcv.keep E20.u (fun _ h => h))) ?_
 rintro _ w22 ⟨rfl, u23⟩ zu23
 refine go ?_
 refine y_max rfl rfl rfl rfl (y_same 12 (v := .int .i64 140) rfl rfl ?_)
 refine go ?_
 refine x_c func135 rfl rfl (at_c2 g _ (hcv.keep (E20.u.nx u23) (fun _ h => h))) ?_
 rintro _ w27 ⟨rfl, u28⟩ zu28
 refine go ?_
 refine y_max rfl rfl rfl rfl (y_same 20 (v := .int .i64 160) rfl rfl ?_)
 refine go ?_
 refine x_s fun w31 sw31 B33 u32 => ?_
 refine go ?_
 refine f_ret1 (v := .agg #[.int .i64 140, .int .i64 160]) results87 ⟨_, _, rfl, run_loadVarN (vs := [.int .i64 140, .int .i64 160]) isAgg34 sizeOf34 rfl (B33.at.sub 0 2)⟩ ?_
 exact ⟨rfl, u_d⟩
theorem Level_c (dl bl bh fl : Int) (g : Nat) (w0 : World) (hcv : Sl encRt 2 w0 (some ⟨g, 0, none⟩) g 0 cvR) (hd : 0 ≤ dl ∧ dl ≤ 200) (hb : bl ≤ bh ∧ (0 ≤ bl ∧ bl ≤ 10000000000) ∧ (0 ≤ bh ∧ bh ≤ 10000000000)) (hf : 0 ≤ fl ∧ fl ≤ 10000) :
    CallsV Tryz.prog 51 [.agg #[.int .i64 100, .int .i64 dl, .int .i64 bl, .int .i64 bh, .slice (some ⟨g, 0, none⟩) 2 2, .int .i64 0, .int .i64 50, .int .i64 60, .int .i64 fl], .agg #[.int .i64 2000, .int .i64 3000]] w0 (fun v w' => v = .tuple #[.agg #[.int .i64 140, .int .i64 160], .int .i64 0] ∧ Ext w0 w') := by
 refine f_n func51 ?_
 refine go ?_
 refine x_b fun bk2 w3 ebk2 sbk2 B4 u5 => ?_
 refine x_b fun bk7 w8 ebk7 sbk7 B9 u10 => ?_
 refine x_n fun bk12 w13 ebk12 sbk12 B14 u15 => ?_
 have E16 := Sc.mk ((((Upd.refl (fun _ => False) w0).nx u5).nx u10).nx u15)
 refine go ?_
 refine x_c func85 rfl rfl (rcheck_c dl bl bh fl g _ (hcv.keep E16.u (fun _ h => h)) hd hb hf) ?_
 rintro _ w20 ⟨rfl, u21⟩ zu21
 refine go ?_
 refine x_l fun bk25 w26 ebk25 sbk25 B27 u28 => ?_
 refine x_c func86 rfl rfl (rvalid_c 0 210000000000 2000 3000 bk25 _ B27 (by omega)) ?_
 rintro _ w31 ⟨rfl, u32⟩ zu32
 refine go ?_
 refine x_c func87 rfl rfl (rlevel_c dl bl bh fl g _ (hcv.keep (((E16.u.nx u21).nx u28).nx u32) (fun _ h => h))) ?_
 rintro _ w37 ⟨rfl, u38⟩ zu38
 refine x_s fun w41 sw41 B43 u42 => ?_
 refine go ?_
 refine f_ret2 (v1 := .agg #[.int .i64 140, .int .i64 160]) (v2 := .int .i64 0) results51 ⟨_, _, rfl, run_loadVarN (vs := [.int .i64 140, .int .i64 160]) isAgg34 sizeOf34 rfl (B43.at.sub 0 2)⟩ rfl ?_
 exact ⟨rfl, u_d⟩

end Go.Proofs.YtagmkfbbhfaceaaGreatDoor
namespace Go.Proofs.YtagmkfbbhfaceaaGreatDoor
open Go Go.RowKit Go.Proofs.Tryz
set_option maxRecDepth 10000
theorem eqIn34 (n : Nat) (a0 : Int) (a1 : Int) (b0 : Int) (b1 : Int) (w : World) : (Op.equalIn (n + 2) 34 (.agg #[.int .i64 a0, .int .i64 a1]) (.agg #[.int .i64 b0, .int .i64 b1])).run Tryz.prog w = .ok (decide (a0 = b0) && decide (a1 = b1)) w := by
  have hS : Tryz.prog.underlying 34 = some (.struct (Tryz.prog.fieldsOf 34)) := by kernel_rfl
  have hp : Tryz.prog.stoodInHeld 34 = false := by kernel_rfl
  have p0 : ∀ (a0 : Int) (a1 : Int), (part 3 #[.int .i64 a0, .int .i64 a1] 0).run Tryz.prog w = .ok (.int .i64 a0) w := fun _ _ => by simp [part, isAgg3]
  have p1 : ∀ (a0 : Int) (a1 : Int), (part 3 #[.int .i64 a0, .int .i64 a1] 1).run Tryz.prog w = .ok (.int .i64 a1) w := fun _ _ => by simp [part, isAgg3]
  have e3 := fun a b w => equal_i64 underlying3 (n + 0) a b w
  rw [run_equalIn_struct w (n + 1) 34 _ _ hS hp]
  simp only [Program.fieldsOf, underlying34]
  simp only [Op.eqFields, Sem.run_bind, Sem.run_ite, p0, p1, e3, Result.andThen_ok]
  by_cases h0 : a0 = b0 <;> by_cases h1 : a1 = b1 <;> simp [h0, h1]


def svR : Voy := ⟨⟨0, 10⟩, [⟨0, 100, ⟨50, 100⟩, ⟨0, 0⟩⟩], 200, 22⟩
theorem arr_r : ArrB svR 50 = ⟨30, 70⟩ ∧ ArrE svR 50 = 0 := ⟨by kernel_rfl, by kernel_rfl⟩
theorem knownRiver_c  (w0 : World) :
    CallsV Tryz.prog 17 [] w0 (fun v w' => v = .bool true ∧ Ext w0 w') := by
 refine f_n func17 ?_
 refine go ?_
 refine x_l fun bk3 w4 ebk3 sbk3 B5 u6 => ?_
 refine go ?_
 refine x_n fun bk8 w9 ebk8 sbk8 B10 u11 => ?_
 refine x_s fun w13 sw13 B15 u14 => ?_
 refine go ?_
 have B18 := ((B5.kx u11).keep u14 (by omega))
 refine x_c func51 rfl rfl (Level_c 0 0 0 0 bk3 _ (Sl.ofBlk (enc := encRt) (xs := cvR) (fun _ => rfl) B18) (by decide) (by decide) (by decide)) ?_
 rintro _ w20 ⟨rfl, u21⟩ zu21
 refine go ?_
 refine x_n fun bk24 w25 ebk24 sbk24 B26 u27 => ?_
 refine x_s fun w29 sw29 B31 u30 => ?_
 refine go ?_
 refine x_l fun bk34 w35 ebk34 sbk34 B36 u37 => ?_
 refine go ?_
 refine x_n fun bk39 w40 ebk39 sbk39 B41 u42 => ?_
 refine x_s fun w44 sw44 B46 u45 => ?_
 refine go ?_
 have B49 := ((B36.kx u42).keep u45 (by omega))
 refine x_c func18 rfl rfl (Arrive_c svR (some ⟨bk34, 0, none⟩) bk34 0 1 50 _ (Sl.ofBlk (enc := encRun) (xs := svR.runs) (fun _ => rfl) B49) (by decide)) ?_
 rintro _ w51 ⟨rfl, u52⟩ zu52
 iterate 2 refine st1 ?_
 refine t_same 26 (v := .agg #[.int .i64 30, .int .i64 70]) rfl (congrArg (fun x : Bnd => Value.agg #[.int .i64 x.lo, .int .i64 x.hi]) arr_r.1) ?_
 refine st1 ?_
 refine t_same 27 (v := .int .i64 0) rfl (congrArg (Value.int .i64) arr_r.2) ?_
 refine x_n fun bk55 w56 ebk55 sbk55 B57 u58 => ?_
 refine x_s fun w60 sw60 B62 u61 => ?_
 refine go ?_
 refine t_eqS (xs := [.int .i64 140, .int .i64 160]) (ys := [.int .i64 140, .int .i64 160]) (by kernel_rfl) (eqIn34 9998 140 160 140 160) rfl rfl rfl rfl (t_samehd (v := .bool true) rfl ?_)
 refine go ?_
 refine t_eqS (xs := [.int .i64 30, .int .i64 70]) (ys := [.int .i64 30, .int .i64 70]) (by kernel_rfl) (eqIn34 9998 30 70 30 70) rfl rfl rfl rfl (t_samehd (v := .bool true) rfl ?_)
 refine go ?_
 refine f_1 results17 ?_
 exact ⟨rfl, u_d⟩


end Go.Proofs.YtagmkfbbhfaceaaGreatDoor
namespace Go.Proofs.YtagmkfbbhfaceaaGreatDoor
open Go Go.RowKit Go.Proofs.Tryz
set_option maxRecDepth 10000
theorem haulVoyage_c (v : Voy) (ao : Option Addr) (b o cap : Nat) (w0 : World) (hs : Sl encRun 6 w0 ao b o v.runs) (hl : v.runs.length ≤ 1000000) (hpos : 0 < w0.heap.size) :
    CallsV Tryz.prog 16 [.agg #[.int .i64 v.st.lo, .int .i64 v.st.hi, .slice ao ((v.runs).length) cap, .int .i64 v.len, .int .i64 v.wid]] w0 (fun x w' => (∃ a9 g9 c9, x = .agg #[.int .i64 v.st.lo, .int .i64 v.st.hi, .slice a9 v.runs.length c9, .int .i64 v.len, .int .i64 v.wid] ∧ Acc encRun 6 61 w0.heap.size w' a9 g9 c9 v.runs) ∧ Ext w0 w') := by
 refine f_n func16 ?_
 refine go ?_
 refine x_b fun bk2 w3 ebk2 sbk2 B4 u5 => ?_
 refine x_n fun bk7 w8 ebk7 sbk7 B9 u10 => ?_
 refine go ?_
 refine x_l fun bk13 w14 ebk13 sbk13 B15 u16 => ?_
 refine go ?_
 refine t_copy (enc := encRun) (z := .agg #[.int .i64 0, .int .i64 0, .int .i64 0, .int .i64 0, .int .i64 0, .int .i64 0]) (bytes := 48) (k := 6) (ys := v.runs) underlying54 (by kernel_rfl) rfl (by decide) (fun _ => rfl) (by intro x; simp [encRun, Value.oneCell']) rfl rfl rfl rfl B15 (hs.keep ((((Upd.refl (fun _ => False) w0).nx u5).nx u10).nx u16) (fun _ h => h)) (by omega) (by decide) (fun ao18 gb19 cp20 w21 A22 u23 gegb19 => ?_)
 have zu23 := u23.size
 have lt_gb19 := A22.lt
 refine go ?_
 refine x_s fun w25 sw25 B27 u26 => ?_
 refine go ?_
 refine x_s fun w30 sw30 B32 u31 => ?_
 refine go ?_
 refine f_ret1 (v := .agg #[.int .i64 v.st.lo, .int .i64 v.st.hi, .slice ao18 v.runs.length cp20, .int .i64 v.len, .int .i64 v.wid]) results16 ⟨_, _, rfl, run_loadVarN (vs := [.int .i64 v.st.lo, .int .i64 v.st.hi, .slice ao18 v.runs.length cp20, .int .i64 v.len, .int .i64 v.wid]) isAgg56 sizeOf56 rfl (B32.at.sub 0 5)⟩ ?_
 have D34 := ((A22.keep u26 (fun hb => show ¬ (gb19 = bk2) by first | omega | assumption)).keep u31 (fun hb => show ¬ (gb19 = bk7) by first | omega | assumption))
 obtain ⟨gz, hz⟩ := Acc.lower (base' := w0.heap.size) D34 (by omega) hpos
 exact ⟨⟨_, gz, _, rfl, hz⟩, u_d⟩


theorem kn_i0 : Lib.itoa 0 = [48] := by simp [Lib.itoa, Lib.decDigits]
def knG (b : Nat) : Gau := ⟨0, 0, [0], some ⟨b, 0, none⟩, b, 0, 1⟩
theorem kn_wrd (b : Nat) : wrdG (knG b) = [[48], [48], [48]] := by
  show [Lib.itoa 0, Lib.itoa 0, Lib.itoa 0] = _
  rw [kn_i0]
theorem kn_gau (b : Nat) : ∃ t : List UInt8, textG [knG b] = (t, 0) ∧ t.length = 9 ∧ t.take 6 = [48, 32, 48, 32, 48, 32] := by
  refine ⟨sealedP [[48], [48], [48]], ?_, by kernel_rfl, by kernel_rfl⟩
  have hc : chkGa none [knG b] = 0 := by kernel_rfl
  have e : [knG b].flatMap gauP = gauP (knG b) := by simp
  unfold textG
  rw [if_neg (by simp), if_pos hc, e]
  unfold gauP
  rw [kn_wrd]
theorem knGau_c (b b2 : Nat) (w0 : World) (hT : Tab10 w0) (hB2 : Blk w0 b2 3 [.int .i64 0]) (hB : Blk w0 b 87 [.int .i64 0, .int .i64 0, .slice (some ⟨b2, 0, none⟩) 1 1]) : CallsV Tryz.prog 24 [.slice (some ⟨b, 0, none⟩) 1 1] w0 fun v w' => (∃ t : List UInt8, v = .tuple #[.string (strB t), .int .i64 0] ∧ t.length = 9 ∧ t.take 6 = [48, 32, 48, 32, 48, 32]) ∧ Ext w0 w' := by
  obtain ⟨t, h1, h2, h3⟩ := kn_gau b2
  have h := WriteGauge_c [knG b2] (some ⟨b, 0, none⟩) b 0 1 w0 (Sl.ofBlk (enc := encGau) (k := 3) (xs := [knG b2]) (fun _ => rfl) hB) (fun x hx => by rw [List.mem_singleton.1 hx]; exact ⟨SlI.own (xs := [0]) hB2, by show 1 ≤ 1; decide, by show 1 ≤ 17592186044416; decide⟩) (by simp) hT (by have := hB.lt; omega)
  rw [h1] at h
  exact CallsV.mono h (fun v w' ⟨e, u⟩ => ⟨⟨t, e, h2, h3⟩, u⟩)

theorem knownLogs_c  (w0 : World) (hT : Tab10 w0) (_hpos : 0 < w0.heap.size) :
    CallsV Tryz.prog 8 [] w0 (fun v w' => v = .bool true ∧ Ext w0 w') := by
 have hl64 : (logP knE1).length = 64 := kn_log2.1
 refine f_n func8 ?_
 refine go ?_
 refine x_l fun bk3 w4 ebk3 sbk3 B5 u6 => ?_
 refine x_c func9 rfl rfl (knLog_c bk3 _ B5) ?_
 rintro _ w9 ⟨⟨a9, g9, c9, rfl, hF9⟩, u10⟩ zu10
 have lt_g9 := hF9.lt
 refine go ?_
 refine x_l fun bk14 w15 ebk14 sbk14 B16 u17 => ?_
 refine go ?_
 refine x_l fun bk19 w20 ebk19 sbk19 B21 u22 => ?_
 have B24 := (B16.kx u22)
 refine x_c func24 rfl rfl (knGau_c bk19 bk14 _ (hT.ext (((((Upd.refl (fun _ => False) w0).nx u6).nx u10).nx u17).nx u22)) B24 B21) ?_
 rintro _ w26 ⟨⟨t9, rfl, ht9, ht6⟩, u27⟩ zu27
 refine go ?_
 have D31 := (((hF9.keep u17 (fun _ h => h)).keep u22 (fun _ h => h)).keep u27 (fun _ h => h))
 refine g_i 0 (D31.sl (fun _ => rfl)) (fun _ => ?_)
 refine st1 ?_
 refine t_same 32 (v := .int .u8 142) rfl (by rw [kn_log2.2.1]; rfl) ?_
 refine go ?_
 refine g_i 31 (D31.sl (fun _ => rfl)) (fun _ => ?_)
 refine st1 ?_
 refine t_same 38 (v := .int .u8 14) rfl (by rw [kn_log2.2.2.2.2.1]; rfl) ?_
 refine go ?_
 refine t_lenS underlying9 rfl rfl rfl rfl (t_same 43 (v := .int .i64 9) rfl (congrArg (fun n : Nat => Value.int .i64 (n : Int)) ht9) ?_)
 refine go ?_
 refine t_subS 0 6 underlying9 rfl rfl rfl (.inr ⟨rfl, rfl⟩) (k := .i64) (m := 0) (x1 := .tmp 0) (.inl ⟨rfl, rfl, by first | rfl | omega⟩) (by omega) (by omega) (t_bo (Bo.eqS (((t9).drop 0).take (6 - 0)) ([48, 32, 48, 32, 48, 32])) rfl rfl rfl rfl (t_same 49 (v := .bool true) rfl (congrArg Value.bool (decide_eq_true (by exact ht6))) ?_))
 refine go ?_
 refine f_1 results8 ?_
 exact ⟨rfl, u_d⟩

end Go.Proofs.YtagmkfbbhfaceaaGreatDoor
namespace Go.Proofs.YtagmkfbbhfaceaaGreatDoor
open Go Go.RowKit Go.Proofs.Tryz
set_option maxRecDepth 10000
/-! ### a hull that sails as a voyage arrives -/
def hullE (s : Int) : Ent := ⟨0, 1, 9, s, 0, 0⟩
def loadE (T : Int) : Ent := ⟨0, 2, 9, 0, 5, T⟩
def sailE (m p : Int) : Ent := ⟨m, 3, 9, p, 0, 0⟩
def atS (m p wk T : Int) : Sea := ⟨m, wk, [⟨9, p, [⟨5, T⟩]⟩], [⟨5, T⟩], []⟩
theorem ok_hull {s : Int} (h : 0 ≤ s ∧ s ≤ 100000) : okEnt (hullE s) = true := by
  unfold okEnt hullE
  exact decide_eq_true ⟨by simp only []; omega, by simp only []; omega, by simp only []; omega, .inl ⟨.inl rfl, h, rfl, rfl⟩⟩
theorem ok_load {T : Int} (h : 1 ≤ T ∧ T ≤ 100000) : okEnt (loadE T) = true := by
  unfold okEnt loadE
  exact decide_eq_true ⟨by simp only []; omega, by simp only []; omega, by simp only []; omega, .inr ⟨by simp only []; omega, rfl, by simp only []; omega, h⟩⟩
theorem ok_sail {m p : Int} (hm : 0 ≤ m ∧ m ≤ 1000000) (hp : 0 ≤ p ∧ p ≤ 100000) : okEnt (sailE m p) = true := by
  unfold okEnt sailE
  exact decide_eq_true ⟨hm, by simp only []; omega, by simp only []; omega, .inl ⟨.inr rfl, hp, rfl, rfl⟩⟩
theorem step_hull {s : Int} (h : 0 ≤ s ∧ s ≤ 100000) : stepP zSea (hullE s) = (0, ⟨0, 0, [⟨9, s, []⟩], [], []⟩) := by
  unfold stepP
  rw [ok_hull h]
  rfl
theorem step_load {s T : Int} (h : 1 ≤ T ∧ T ≤ 100000) : stepP ⟨0, 0, [⟨9, s, []⟩], [], []⟩ (loadE T) = (0, atS 0 s 0 T) := by
  unfold stepP
  rw [ok_load h]
  have e : loadP ⟨0, 0, [⟨9, s, []⟩], [], []⟩ 0 (loadE T) = (0, atS 0 s 0 T) := by
    unfold loadP
    have hc : ¬ (100000 : Int) < tonP 0 (nth (⟨0, 0, [⟨9, s, []⟩], [], []⟩ : Sea).hs 0).c + (loadE T).t := by show ¬ (100000 : Int) < 0 + T; omega
    rw [if_neg hc]
    have hb : bookP 5 T [] = [⟨5, T⟩] := by show (if T = 0 then _ else _) = _; rw [if_neg (by omega)]
    show (0, (⟨0, 0, [⟨9, s, bookP 5 T []⟩], bookP 5 T [], []⟩ : Sea)) = _
    rw [hb]; rfl
  exact e
theorem step_sail {m p wk T m' q : Int} (hm : 0 ≤ m' ∧ m' ≤ 1000000) (hq : 0 ≤ q ∧ q ≤ 100000) (hmm : m ≤ m') (hpq : q ≠ p) : stepP (atS m p wk T) (sailE m' q) = (0, { atS m q (wk + T * max (q - p) (-(q - p))) T with m := m }) := by
  unfold stepP
  rw [ok_sail hm hq, if_neg (by decide), if_neg (show ¬ (sailE m' q).m < (atS m p wk T).m by show ¬ m' < m; omega)]
  have e : sailP (atS m p wk T) 0 (sailE m' q) = (0, { atS m q (wk + T * max (q - p) (-(q - p))) T with m := m }) := by
    unfold sailP
    rw [if_neg (show ¬ (sailE m' q).p - (nth (atS m p wk T).hs 0).p = 0 by show ¬ q - p = 0; omega)]
    have ht : tonP 0 [(⟨5, T⟩ : Crg)] = T := by show (if (0 : Int) = 0 ∨ _ then T else 0) + 0 = T; rw [if_pos (.inl rfl), Int.add_zero]
    show (0, (⟨m, wk + tonP 0 [(⟨5, T⟩ : Crg)] * max (q - p) (-(q - p)), [⟨9, q, [⟨5, T⟩]⟩], [⟨5, T⟩], []⟩ : Sea)) = _
    rw [ht]; rfl
  exact e
/-- entries of sails, one way (σ is 1 or -1), from a minute and a place on -/
def mS (σ : Int) : Int → Int → List Ent → Prop
  | _, _, [] => True
  | m, p, x :: r => (m ≤ x.m ∧ x.m ≤ 1000000) ∧ (0 ≤ x.p ∧ x.p ≤ 100000) ∧ 0 < σ * (x.p - p) ∧ x = sailE x.m x.p ∧ mS σ x.m x.p r
def lastP : Int → List Ent → Int
  | p, [] => p
  | _, x :: r => lastP x.p r
theorem sgn_dist {σ d : Int} (hs : σ = 1 ∨ σ = -1) (h : 0 < σ * d) : max d (-d) = σ * d ∧ d ≠ 0 := by
  rcases hs with rfl | rfl <;> omega
theorem run_sails {σ T : Int} (hs : σ = 1 ∨ σ = -1) : ∀ (l : List Ent) (m p wk : Int) (i : Nat), 0 ≤ m → mS σ m p l → runP (atS m p wk T) i l = (0, 0, atS (lastM m l) (lastP p l) (wk + T * (σ * (lastP p l - p))) T)
  | [], m, p, wk, i, _, _ => by
    show ((0 : Int), (0 : Nat), atS m p wk T) = (0, 0, atS m p (wk + T * (σ * (p - p))) T)
    rw [Int.sub_self, Int.mul_zero, Int.mul_zero, Int.add_zero]
  | x :: r, m, p, wk, i, h0, h => by
    obtain ⟨h1, h2, h3, h4, h5⟩ := h
    obtain ⟨d1, d2⟩ := sgn_dist hs h3
    have hst : stepP (atS m p wk T) x = (0, { atS m x.p (wk + T * max (x.p - p) (-(x.p - p))) T with m := m }) := by
      rw [h4]; exact step_sail (by omega) h2 h1.1 (by omega)
    rw [runP_ok (by rw [hst]), hst]
    have e : ({ ({ atS m x.p (wk + T * max (x.p - p) (-(x.p - p))) T with m := m } : Sea) with m := x.m } : Sea) = atS x.m x.p (wk + T * (σ * (x.p - p))) T := by rw [d1]; rfl
    have ih := run_sails (T := T) hs r x.m x.p (wk + T * (σ * (x.p - p))) (i + 1) (by omega) h5
    refine (congrArg (fun S => runP S (i + 1) r) e).trans (ih.trans ?_)
    show (0, 0, atS (lastM x.m r) (lastP x.p r) (wk + T * (σ * (x.p - p)) + T * (σ * (lastP x.p r - x.p))) T) = (0, 0, atS (lastM x.m r) (lastP x.p r) (wk + T * (σ * (lastP x.p r - p))) T)
    have e2 : wk + T * (σ * (x.p - p)) + T * (σ * (lastP x.p r - x.p)) = wk + T * (σ * (lastP x.p r - p)) := by
      rw [Int.add_assoc, ← Int.mul_add, ← Int.mul_add]
      congr 3; omega
    rw [e2]
theorem runP_voy {σ s T : Int} (hσ : σ = 1 ∨ σ = -1) {l : List Ent} (hs : 0 ≤ s ∧ s ≤ 100000) (hT : 1 ≤ T ∧ T ≤ 100000) (h : mS σ 0 s l) : runP zSea 0 (hullE s :: loadE T :: l) = (0, 0, atS (lastM 0 l) (lastP s l) (T * (σ * (lastP s l - s))) T) := by
  rw [runP_ok (by rw [step_hull hs]), step_hull hs]
  have e : ({ (⟨0, 0, [⟨9, s, []⟩], [], []⟩ : Sea) with m := (hullE s).m } : Sea) = ⟨0, 0, [⟨9, s, []⟩], [], []⟩ := rfl
  refine (congrArg (fun S => runP S 1 (loadE T :: l)) e).trans ?_
  rw [runP_ok (by rw [step_load hT]), step_load hT]
  have e2 : ({ atS 0 s 0 T with m := (loadE T).m } : Sea) = atS 0 s 0 T := rfl
  refine (congrArg (fun S => runP S 2 l) e2).trans ?_
  rw [run_sails hσ l 0 s 0 2 (Int.le_refl _) h, Int.zero_add]
theorem mS_drop {σ : Int} (hσ : σ = 1 ∨ σ = -1) : ∀ (a : List Ent) (x : Ent) (b : List Ent) (m p : Int), mS σ m p (a ++ x :: b) → mS σ m p (a ++ b)
  | [], x, [], m, p, _ => trivial
  | [], x, y :: b, m, p, h => by
    obtain ⟨h1, h2, h3, _, g1, g2, g3, g4, g5⟩ := h
    refine ⟨by omega, g2, ?_, g4, g5⟩
    rcases hσ with rfl | rfl <;> omega
  | z :: a, x, b, m, p, h => by
    obtain ⟨h1, h2, h3, h4, h5⟩ := h
    exact ⟨h1, h2, h3, h4, mS_drop hσ a x b _ _ h5⟩
theorem last_drop : ∀ (a : List Ent) (x : Ent) (b : List Ent) (m p : Int), b ≠ [] → lastM m (a ++ b) = lastM m (a ++ x :: b) ∧ lastP p (a ++ b) = lastP p (a ++ x :: b)
  | [], _, [], _, _, h => absurd rfl h
  | [], _, _ :: _, _, _, _ => ⟨rfl, rfl⟩
  | z :: a, x, b, _, _, h => last_drop a x b z.m z.p h
theorem mS_chk {σ : Int} : ∀ (l : List Ent) (m p : Int), 0 ≤ m → mS σ m p l → chkG m l = 0
  | [], _, _, _, _ => rfl
  | x :: r, m, p, h0, h => by
    obtain ⟨h1, h2, _, h4, h5⟩ := h
    have ho : okEnt x = true := by rw [h4]; exact ok_sail (by omega) h2
    have ih := mS_chk r x.m x.p (by omega) h5
    unfold chkG
    rw [if_pos ho, if_neg (by omega), ih]
theorem chkE_voy {σ s T : Int} {l : List Ent} (hs : 0 ≤ s ∧ s ≤ 100000) (hT : 1 ≤ T ∧ T ≤ 100000) (h : mS σ 0 s l) (hl : l.length ≤ 20) : chkE (hullE s :: loadE T :: l) = 0 := by
  have h1 : chkG 0 (hullE s :: loadE T :: l) = 0 := by
    unfold chkG
    rw [if_pos (ok_hull hs), if_neg (show ¬ (hullE s).m < 0 by show ¬ (0 : Int) < 0; omega)]
    unfold chkG
    rw [if_pos (ok_load hT), if_neg (show ¬ (loadE T).m < (hullE s).m by show ¬ (0 : Int) < 0; omega)]
    exact mS_chk l 0 s (Int.le_refl _) h
  unfold chkE
  rw [if_neg (by simp), if_neg (by simp only [List.length_cons]; omega), h1]
/-! ### when a voyage is at the ends of its runs -/
def stepT (r : Run) (t : Bnd) : Bnd := ⟨t.lo + (r.wt.lo + tak (r.to - r.frm) r.sp.hi), t.hi + (r.wt.hi + tak (r.to - r.frm) r.sp.lo)⟩
def tmR : Nat → List Run → Bnd → Bnd
  | 0, _, t => t
  | _ + 1, [], t => t
  | k + 1, r :: rs, t => tmR k rs (stepT r t)
def pk (late : Bool) (t : Bnd) : Int := if late then t.hi else t.lo
def sailsR (late : Bool) : Bnd → List Run → List Ent
  | _, [] => []
  | t, r :: rs => sailE (pk late (stepT r t)) r.to :: sailsR late (stepT r t) rs
theorem sailsR_len (late : Bool) : ∀ (rs : List Run) (t : Bnd), (sailsR late t rs).length = rs.length
  | [], _ => rfl
  | r :: rs, t => congrArg (· + 1) (sailsR_len late rs (stepT r t))
theorem sailsR_nth (late : Bool) : ∀ (rs : List Run) (t : Bnd) (i : Nat), i < rs.length → nth (sailsR late t rs) i = sailE (pk late (tmR (i + 1) rs t)) (nth rs i).to
  | [], _, _, h => absurd h (Nat.not_lt_zero _)
  | r :: rs, t, 0, _ => rfl
  | r :: rs, t, i + 1, h => sailsR_nth late rs (stepT r t) i (by simpa using h)
theorem sgn_pm (a b : Int) : sgn a b = 1 ∨ sgn a b = -1 := by unfold sgn; split <;> simp
theorem okRun_dir {a way : Int} {r : Run} (h : okRun a way r = true) : r.frm = a ∧ (way = 1 ∨ way = -1) ∧ 0 < way * (r.to - a) ∧ rngRun r := by
  unfold okRun at h
  rw [decide_eq_true_eq] at h
  obtain ⟨⟨h1, h2⟩, h3, h4, h5, ⟨_, h6, h7⟩, ⟨_, h8, h9⟩⟩ := h
  refine ⟨h3, h5 ▸ sgn_pm _ _, ?_, h1, h2, h6, h7, h8, h9⟩
  rw [← h5]
  unfold sgn
  split <;> omega
theorem okRuns_cons {way a : Int} {r : Run} {rs : List Run} (h : okRuns way a (r :: rs) = true) : okRun a way r = true ∧ okRuns way r.to rs = true := by
  unfold okRuns at h
  rwa [Bool.and_eq_true] at h
theorem okRuns_far {way : Int} : ∀ {rs : List Run} {a : Int} {i : Nat}, okRuns way a rs = true → i < rs.length → 0 < way * ((nth rs i).to - a)
  | [], _, _, _, h => absurd h (Nat.not_lt_zero _)
  | r :: rs, a, 0, h, _ => (okRun_dir (okRuns_cons h).1).2.2.1
  | r :: rs, a, i + 1, h, hi => by
    obtain ⟨h1, h2⟩ := okRuns_cons h
    obtain ⟨_, hw, h3, _⟩ := okRun_dir h1
    have h4 := okRuns_far (i := i) h2 (by simpa using hi)
    show 0 < way * ((nth rs i).to - a)
    rcases hw with rfl | rfl <;> omega
theorem arrGo_to {way : Int} : ∀ {rs : List Run} {a : Int} {i : Nat} {t : Bnd}, okRuns way a rs = true → i < rs.length → arrGo (nth rs i).to rs t = tmR (i + 1) rs t
  | [], _, _, _, _, h => absurd h (Nat.not_lt_zero _)
  | r :: rs, a, 0, t, h, _ => by
    obtain ⟨h1, h2⟩ := okRuns_cons h
    obtain ⟨hf, hw, h3, _⟩ := okRun_dir h1
    have hn : ¬ r.frm = r.to := by rcases hw with rfl | rfl <;> omega
    have hwt : wayTo r r.to = r.to - r.frm := by unfold wayTo; rw [if_neg (by omega)]
    show arrGo r.to (r :: rs) t = stepT r t
    unfold arrGo
    rw [if_neg hn, hwt, if_pos (by omega)]; rfl
  | r :: rs, a, i + 1, t, h, hi => by
    obtain ⟨h1, h2⟩ := okRuns_cons h
    obtain ⟨hf, hw, h3, _⟩ := okRun_dir h1
    have hi' : i < rs.length := by simpa using hi
    have h4 := okRuns_far (i := i) h2 hi'
    show arrGo (nth rs i).to (r :: rs) t = tmR (i + 1) rs (stepT r t)
    generalize hp : (nth rs i).to = p at h4
    have hn : ¬ r.frm = p := by rcases hw with rfl | rfl <;> omega
    have hwt : wayTo r p = r.to - r.frm := by unfold wayTo; rw [if_neg (by rcases hw with rfl | rfl <;> omega)]
    unfold arrGo
    rw [if_neg hn, hwt, if_neg (by rcases hw with rfl | rfl <;> omega), ← hp]
    exact arrGo_to (t := stepT r t) h2 hi'
theorem stepT_up {r : Run} (h : rngRun r) (t : Bnd) (late : Bool) : pk late t ≤ pk late (stepT r t) := by
  obtain ⟨h1, h2, h3, h4, h5, h6⟩ := h
  have q1 := tak_rng (a := r.to - r.frm) (s := r.sp.hi) (by omega) h4.1 h4.2
  have q2 := tak_rng (a := r.to - r.frm) (s := r.sp.lo) (by omega) h3.1 h3.2
  unfold pk stepT
  cases late
  · show t.lo ≤ t.lo + _; omega
  · show t.hi ≤ t.hi + _; omega
theorem sailsR_mS {way : Int} {late : Bool} : ∀ {rs : List Run} {a m : Int} {t : Bnd}, okRuns way a rs = true → (∀ x ∈ sailsR late t rs, x.m ≤ 1000000) → m ≤ pk late t → mS way m a (sailsR late t rs)
  | [], _, _, _, _, _, _ => trivial
  | r :: rs, a, m, t, h, hx, hm => by
    obtain ⟨h1, h2⟩ := okRuns_cons h
    obtain ⟨hf, hw, h3, h4⟩ := okRun_dir h1
    have hu := stepT_up h4 t late
    have h0 : pk late (stepT r t) ≤ 1000000 := hx (sailE (pk late (stepT r t)) r.to) (List.mem_cons_self ..)
    exact ⟨⟨Int.le_trans hm hu, h0⟩, h4.2.1, h3, rfl, sailsR_mS h2 (fun x hq => hx x (List.mem_cons_of_mem _ hq)) (Int.le_refl _)⟩
theorem sails_last {late : Bool} : ∀ {rs : List Run} {a m : Int} {t : Bnd}, 0 < rs.length → lastP a (sailsR late t rs) = (nth rs (rs.length - 1)).to ∧ lastM m (sailsR late t rs) = pk late (tmR rs.length rs t)
  | [], _, _, _, h => absurd h (Nat.lt_irrefl _)
  | [r], _, _, _, _ => ⟨rfl, rfl⟩
  | r :: r2 :: rs, a, m, t, _ => sails_last (rs := r2 :: rs) (a := r.to) (m := pk late (stepT r t)) (t := stepT r t) (by simp)
/-- the k-th entry is left out -/
theorem sails_less {σ : Int} (hσ : σ = 1 ∨ σ = -1) {l : List Ent} {k : Nat} {m p : Int} (h : mS σ m p l) (hk : k + 1 < l.length) : mS σ m p (l.take k ++ l.drop (k + 1)) ∧ lastM m (l.take k ++ l.drop (k + 1)) = lastM m l ∧ lastP p (l.take k ++ l.drop (k + 1)) = lastP p l := by
  have e : l = l.take k ++ nth l k :: l.drop (k + 1) := by rw [← drop_nth (by omega), List.take_append_drop]
  have hne : l.drop (k + 1) ≠ [] := fun h9 => by
    have := congrArg List.length h9
    rw [List.length_drop, List.length_nil] at this; omega
  refine ⟨mS_drop hσ _ (nth l k) _ _ _ (by rw [← e]; exact h), ?_, ?_⟩
  · rw [(last_drop _ (nth l k) _ m p hne).1, ← e]
  · rw [(last_drop _ (nth l k) _ m p hne).2, ← e]
/-! ### a voyage's log -/
theorem okRuns_lst {way : Int} : ∀ {rs : List Run} {a : Int} {i : Nat}, okRuns way a rs = true → i < rs.length → 0 ≤ way * ((nth rs (rs.length - 1)).to - (nth rs i).to)
  | [], _, _, _, h => absurd h (Nat.not_lt_zero _)
  | [r], _, 0, _, _ => by show 0 ≤ way * (r.to - r.to); rw [Int.sub_self, Int.mul_zero]; exact Int.le_refl _
  | r :: r2 :: rs, a, 0, h, _ => Int.le_of_lt (okRuns_far (rs := r2 :: rs) (i := rs.length) (okRuns_cons h).2 (by simp))
  | r :: r2 :: rs, a, i + 1, h, hi => okRuns_lst (rs := r2 :: rs) (i := i) (okRuns_cons h).2 (by simpa using hi)
theorem voy_parts {v : Voy} (h : okVoy v = true) : okRuns (way0 v) (frst v) v.runs = true ∧ (way0 v = 1 ∨ way0 v = -1) ∧ 0 ≤ v.st.lo ∧ v.st.lo ≤ v.st.hi := by
  unfold okVoy at h
  rw [Bool.and_eq_true] at h
  have h0 := h.1
  unfold okVoy0 at h0
  rw [decide_eq_true_eq] at h0
  exact ⟨h.2, sgn_pm _ _, by omega, by omega⟩
theorem voy_on {v : Voy} (h : okVoy v = true) {i : Nat} (hi : i < v.runs.length) : onWay v [(nth v.runs i).to] = true := by
  obtain ⟨h1, hw, _⟩ := voy_parts h
  have h2 := okRuns_far h1 hi
  have h3 := okRuns_lst h1 hi
  rw [← lst_eq (v := v) (by omega)] at h3
  unfold onWay
  rw [decide_eq_true_eq]
  intro n hn
  rw [List.mem_singleton.1 hn]
  rcases hw with e | e <;> rw [e] at h2 h3 <;> omega
theorem voy_arr {v : Voy} (h : okVoy v = true) {i : Nat} (hi : i < v.runs.length) : ArrB v (nth v.runs i).to = tmR (i + 1) v.runs v.st ∧ ArrE v (nth v.runs i).to = 0 := by
  unfold ArrB ArrE
  rw [if_pos h, if_pos (voy_on h hi), if_pos h, if_pos (voy_on h hi)]
  exact ⟨arrGo_to (voy_parts h).1 hi, rfl⟩
/-- the entries of a voyage -/
def vlog (late : Bool) (v : Voy) (T : Int) (i : Nat) : List Ent := hullE (frst v) :: loadE T :: (sailsR late v.st v.runs).take i
theorem vlog_len {late : Bool} {v : Voy} {T : Int} {i : Nat} (hi : i ≤ v.runs.length) : (vlog late v T i).length = i + 2 := by
  unfold vlog
  rw [List.length_cons, List.length_cons, List.length_take, sailsR_len]; omega
theorem vlog_next {late : Bool} {v : Voy} {T : Int} {i : Nat} (hi : i < v.runs.length) : vlog late v T (i + 1) = vlog late v T i ++ [sailE (pk late (tmR (i + 1) v.runs v.st)) (nth v.runs i).to] := by
  unfold vlog
  rw [take_nth (by rw [sailsR_len]; exact hi), sailsR_nth late _ _ _ hi]; rfl
theorem vlog_last {late : Bool} {v : Voy} {T : Int} {i : Nat} (hi : i < v.runs.length) : nth (vlog late v T (i + 1)) (i + 2) = sailE (pk late (tmR (i + 1) v.runs v.st)) (nth v.runs i).to := by
  rw [vlog_next hi, ← vlog_len (late := late) (T := T) (Nat.le_of_lt hi)]
  unfold nth
  rw [List.getD_eq_getElem?_getD, List.getElem?_append_right (Nat.le_refl _), Nat.sub_self]; rfl
/-- what a voyage's entries come to -/
def vend (late : Bool) (v : Voy) (T : Int) : Sea := atS (pk late (tmR v.runs.length v.runs v.st)) (lst v) (T * max (lst v - frst v) (frst v - lst v)) T
theorem rep_of {l : List Ent} {S : Sea} (hl : l.length ≤ 2000) (h : runP zSea 0 l = (0, 0, S)) : repP zSea l = (0, 0, S) := by
  unfold repP
  rw [if_neg (by omega), h, if_pos rfl]
theorem voy_log0 {late : Bool} {v : Voy} {T : Int} (h : okVoy v = true) (hn : 1 ≤ v.runs.length ∧ v.runs.length ≤ 20) (hT : 1 ≤ T ∧ T ≤ 65536) (hm : ∀ x ∈ sailsR late v.st v.runs, x.m ≤ 1000000) :
    chkE (vlog late v T v.runs.length) = 0 ∧ repP zSea (vlog late v T v.runs.length) = (0, 0, vend late v T) ∧
    ∀ k, k + 1 < v.runs.length → repP zSea ((vlog late v T v.runs.length).take (k + 2) ++ (vlog late v T v.runs.length).drop (k + 3)) = (0, 0, vend late v T) := by
  obtain ⟨h1, hw, hs1, hs2⟩ := voy_parts h
  have hf := frst_rng h
  have hms : mS (way0 v) 0 (frst v) (sailsR late v.st v.runs) := sailsR_mS h1 hm (by unfold pk; cases late <;> simp <;> omega)
  have hl := sailsR_len late v.runs v.st
  have e : vlog late v T v.runs.length = hullE (frst v) :: loadE T :: sailsR late v.st v.runs := by
    unfold vlog; rw [List.take_of_length_le (by rw [hl]; exact Nat.le_refl _)]
  obtain ⟨e1, e2⟩ := sails_last (late := late) (rs := v.runs) (a := frst v) (m := 0) (t := v.st) (by omega)
  rw [← lst_eq (v := v) (by omega)] at e1
  have h3 := okRuns_far h1 (i := v.runs.length - 1) (by omega)
  rw [← lst_eq (v := v) (by omega)] at h3
  have hd : way0 v * (lst v - frst v) = max (lst v - frst v) (frst v - lst v) := by
    rcases hw with e | e <;> rw [e] at h3 ⊢ <;> omega
  rw [e]
  refine ⟨chkE_voy hf (by omega) hms (by omega), rep_of (by simp only [List.length_cons]; omega) ?_, fun k hk => ?_⟩
  · rw [runP_voy hw hf (by omega) hms, e1, e2, hd]; rfl
  · obtain ⟨m1, m2, m3⟩ := sails_less hw hms (k := k) (by omega)
    have e9 : (hullE (frst v) :: loadE T :: sailsR late v.st v.runs).take (k + 2) ++ (hullE (frst v) :: loadE T :: sailsR late v.st v.runs).drop (k + 3) = hullE (frst v) :: loadE T :: ((sailsR late v.st v.runs).take k ++ (sailsR late v.st v.runs).drop (k + 1)) := rfl
    rw [e9]
    refine rep_of (by simp only [List.length_cons, List.length_append, List.length_take, List.length_drop]; omega) ?_
    rw [runP_voy hw hf (by omega) m1, m2, m3, e1, e2, hd]; rfl
theorem voy_log {late : Bool} {v : Voy} {T : Int} {i : Nat} (hi : i = v.runs.length) (h : okVoy v = true) (hn : 1 ≤ v.runs.length ∧ v.runs.length ≤ 20) (hT : 1 ≤ T ∧ T ≤ 65536) (hm : ∀ x ∈ (sailsR late v.st v.runs).take i, x.m ≤ 1000000) :
    chkE (vlog late v T i) = 0 ∧ repP zSea (vlog late v T i) = (0, 0, vend late v T) ∧ (nth (vlog late v T i) (i + 1)).m = pk late (tmR v.runs.length v.runs v.st) ∧
    ∀ k, k + 1 < i → repP zSea ((vlog late v T i).take (k + 2) ++ (vlog late v T i).drop (k + 3)) = (0, 0, vend late v T) := by
  subst hi
  rw [List.take_of_length_le (by rw [sailsR_len]; exact Nat.le_refl _)] at hm
  obtain ⟨h1, h2, h3⟩ := voy_log0 h hn hT hm
  refine ⟨h1, h2, ?_, h3⟩
  obtain ⟨j, hj⟩ : ∃ j, v.runs.length = j + 1 := ⟨v.runs.length - 1, by omega⟩
  have h4 := vlog_last (late := late) (T := T) (v := v) (i := j) (by omega)
  rw [hj, h4]; rfl
theorem SG_one {V : SG} {m p wk T : Int} (h : V.st = atS m p wk T) : V.rs.length = 1 ∧ (nth V.rs 0).p = p ∧ (nth V.rs 0).c = [⟨5, T⟩] ∧ V.wk = wk ∧ V.m = m := by
  have h1 : V.rs.map HR.hul = [⟨9, p, [⟨5, T⟩]⟩] := congrArg Sea.hs h
  have h2 : V.rs.length = 1 := by have := congrArg List.length h1; rwa [List.length_map] at this
  have h3 : HR.hul (nth V.rs 0) = ⟨9, p, [⟨5, T⟩]⟩ := by
    have := congrArg (fun l => nth l 0) h1
    rw [nth_mapG (by omega)] at this; exact this
  exact ⟨h2, congrArg Hul.p h3, congrArg Hul.c h3, congrArg Sea.wk h, congrArg Sea.m h⟩
theorem mx_next {late : Bool} {v : Voy} {i : Nat} (hi : i < v.runs.length) (h : ∀ x ∈ (sailsR late v.st v.runs).take i, x.m ≤ 1000000) (hm : pk late (tmR (i + 1) v.runs v.st) ≤ 1000000) : ∀ x ∈ (sailsR late v.st v.runs).take (i + 1), x.m ≤ 1000000 := fun x hx => by
  rw [take_nth (by rw [sailsR_len]; exact hi), sailsR_nth late _ _ _ hi] at hx
  rcases List.mem_append.1 hx with q | q
  · exact h x q
  · rw [List.mem_singleton.1 q]; exact hm
theorem ReadLogE_c (xs : List UInt8) (ab : Option Addr) (bb ob cb : Nat) (w0 : World) (hs : Sl encY 1 w0 ab bb ob xs) (hcb : xs.length ≤ cb) (hxl : xs.length ≤ 1000000) (hpos : 0 < w0.heap.size) (r1 : List Ent) (r2 r3 : Int) (hr : readR xs = (r1, r2, r3)) :
    CallsV Tryz.prog 11 [.slice ab xs.length cb] w0 fun v w' => (∃ a9 g9 c9, v = .tuple #[.slice a9 (List.length r1) c9, .int .i64 r2, .int .i64 r3] ∧ Acc encEnt 6 41 w0.heap.size w' a9 g9 c9 r1) ∧ Ext w0 w' := by
  have h := ReadLog_c xs ab bb ob cb w0 hs hcb hxl hpos
  rw [hr] at h; exact h

end Go.Proofs.YtagmkfbbhfaceaaGreatDoor
