/-
  Contracts of the reference's functions on narrows. Conditions: none.
-/
import Derived.Test.YtmicjleiheoieaaOA19
import Derived.Test.YtmicjleiheoieaaOA4
namespace Go.Proofs.Ytmicjleiheoieaa
open Go Go.RowKit
theorem onWay_two {v : Voy} {p q : Int} : onWay v [p, q] = (onWay v [p] && onWay v [q]) := by simp [onWay]

theorem own42 : Own Try.prog 42 := ⟨Try.f42, Try.func42, by kernel_rfl, by kernel_rfl⟩
theorem own43 : Own Try.prog 43 := ⟨Try.f43, Try.func43, by kernel_rfl, by kernel_rfl⟩
theorem own44 : Own Try.prog 44 := ⟨Try.f44, Try.func44, by kernel_rfl, by kernel_rfl⟩

theorem rNarrow_c (n : Nar) (w0 : World) :
    CallsV Try.prog 42 [.agg #[.int .i64 n.frm, .int .i64 n.to, .int .i64 n.wid, .bool n.single]] w0 (fun v w' => v = .bool (okNar n) ∧ Ext w0 w') := by
 have E0 := Upd.refl (fun _ => False) w0
 refine f_enter (N := 19) Try.func42 rfl rfl rfl ?_
 change WC _ _ _ _ _ _ [(0, .agg #[.int .i64 n.frm, .int .i64 n.to, .int .i64 n.wid, .bool n.single])] _
 refine c_seq fun K1 hK1 => (c_region (t_box (cs := [.int .i64 n.frm, .int .i64 n.to, .int .i64 n.wid, .bool n.single]) rfl rfl rfl rfl (fun bk2 w3 ebk2 sbk2 B4 u5 => ?_)))
 have zu5 := u5.size
 have E6 := E0.next u5 (fun _ _ h => h.elim)
 refine t_assign rfl rfl rfl (t_nil' (hK1 _ _ (c_seq fun K7 hK7 => (c_region (t_field Try.underlying72 rfl Try.sizeOf3 (0) rfl rfl rfl rfl (t_load Try.isAgg3 rfl rfl rfl (B4.get rfl) (t_call (vs := [.int .i64 n.frm, .int .i64 0, .int .i64 100000]) own60 rfl rfl rfl rfl (rIn_c n.frm 0 100000 _) (fun v8 w9 r11 => ?_))))))))
 obtain ⟨rfl, u10⟩ := r11
 have zu10 := u10.size
 have E12 := E6.next u10 (fun _ _ h => h.elim)
 refine t_move rfl rfl rfl (t_splitp 6 rfl (fun g6 => ?_) (fun g6 => ?_))
 ·
  refine t_field Try.underlying72 rfl Try.sizeOf3 (1) rfl rfl rfl rfl ?_
  have B13 := (B4.keep u10 (fun h => h))
  refine t_load Try.isAgg3 rfl rfl rfl (B13.get rfl) (t_field Try.underlying72 rfl Try.sizeOf3 (0) rfl rfl rfl rfl (t_load Try.isAgg3 rfl rfl rfl (B13.get rfl) (t_ari rfl rfl rfl rfl rfl (by omega) (t_call (vs := [.int .i64 n.to, .int .i64 (n.frm + 1), .int .i64 100000]) own60 rfl rfl rfl rfl (rIn_c n.to (n.frm + 1) 100000 _) (fun v14 w15 r17 => ?_)))))
  obtain ⟨rfl, u16⟩ := r17
  have zu16 := u16.size
  have E18 := E12.next u16 (fun _ _ h => h.elim)
  refine t_pick_t rfl rfl rfl rfl (t_move rfl rfl rfl (t_splitp 14 rfl (fun g14 => ?_) (fun g14 => ?_)))
  ·
   refine t_field Try.underlying72 rfl Try.sizeOf3 (2) rfl rfl rfl rfl ?_
   have B19 := (B13.keep u16 (fun h => h))
   refine t_load Try.isAgg3 rfl rfl rfl (B19.get rfl) (t_call (vs := [.int .i64 n.wid, .int .i64 1, .int .i64 200]) own60 rfl rfl rfl rfl (rIn_c n.wid 1 200 _) (fun v20 w21 r23 => ?_))
   obtain ⟨rfl, u22⟩ := r23
   have zu22 := u22.size
   have E24 := E18.next u22 (fun _ _ h => h.elim)
   refine t_pick_t rfl rfl rfl rfl (t_assign rfl rfl rfl (t_nil' (hK7 _ _ (c_ret (f_ret1 (v := .bool (decide (1 ≤ n.wid ∧ n.wid ≤ 200))) Try.results42 rfl ?_)))))
   exact ⟨congrArg Value.bool (Bool.eq_iff_iff.2 (by simp only [okNar, decide_eq_true_eq, Bool.false_eq_true, false_iff]; omega)), E24⟩
  ·
   refine t_skip rfl rfl rfl (t_skip rfl rfl rfl (t_skip rfl rfl rfl (t_pick_f rfl rfl rfl rfl (t_assign rfl rfl rfl (t_nil' (hK7 _ _ (c_ret (f_ret1 (v := .bool false) Try.results42 rfl ?_))))))))
   exact ⟨congrArg Value.bool (Bool.eq_iff_iff.2 (by simp only [okNar, decide_eq_true_eq, Bool.false_eq_true, false_iff]; omega)), E18⟩
 ·
  refine t_skip rfl rfl rfl (t_skip rfl rfl rfl (t_skip rfl rfl rfl (t_skip rfl rfl rfl (t_skip rfl rfl rfl (t_skip rfl rfl rfl (t_pick_f rfl rfl rfl rfl (t_move rfl rfl rfl (t_skip rfl rfl rfl (t_skip rfl rfl rfl (t_skip rfl rfl rfl (t_pick_f rfl rfl rfl rfl (t_assign rfl rfl rfl (t_nil' (hK7 _ _ (c_ret (f_ret1 (v := .bool false) Try.results42 rfl ?_))))))))))))))))
  exact ⟨congrArg Value.bool (Bool.eq_iff_iff.2 (by simp only [okNar, decide_eq_true_eq, Bool.false_eq_true, false_iff]; omega)), E12⟩

theorem rThrough_c (v : Voy) (ao : Option Addr) (b o cap : Nat) (n : Nar) (w0 : World) (hs : Sl encRun 6 w0 ao b o v.runs) (hk : okVoy v = true) (hm : okNar n = true) :
    CallsV Try.prog 43 [.agg #[.int .i64 v.st.lo, .int .i64 v.st.hi, .slice ao ((v.runs).length) cap, .int .i64 v.len, .int .i64 v.wid], .agg #[.int .i64 n.frm, .int .i64 n.to, .int .i64 n.wid, .bool n.single]] w0 (fun x w' => x = .tuple #[.agg #[.int .i64 (thrS v n).inn.lo, .int .i64 (thrS v n).inn.hi], .agg #[.int .i64 (thrS v n).out.lo, .int .i64 (thrS v n).out.hi], .bool (thrS v n).there, .int .i64 (thrE v n)] ∧ Ext w0 w') := by
 have hv := okVoy_rng hk
 have hn := okNar_rng hm
 have hn1 := hn.frm
 have hn2 := hn.to
 have hv1 := hv.len
 have htl : (v.len + 99) / 100 = tail v := by unfold tail; rw [show v.len + 100 - 1 = v.len + 99 by omega]
 have htr : 0 ≤ tail v ∧ tail v ≤ 1001 := by unfold tail; omega
 have hf1 := frst_rng hk
 have hf2 := lst_rng hk
 have E0 := Upd.refl (fun _ => False) w0
 refine f_enter (N := 84) Try.func43 rfl rfl rfl ?_
 change WC _ _ _ _ _ _ [(0, .agg #[.int .i64 v.st.lo, .int .i64 v.st.hi, .slice ao ((v.runs).length) cap, .int .i64 v.len, .int .i64 v.wid]), (1, .agg #[.int .i64 n.frm, .int .i64 n.to, .int .i64 n.wid, .bool n.single])] _
 refine c_seq fun K1 hK1 => (c_region (t_box (cs := [.int .i64 v.st.lo, .int .i64 v.st.hi, .slice ao ((v.runs).length) cap, .int .i64 v.len, .int .i64 v.wid]) rfl rfl rfl rfl (fun bk2 w3 ebk2 sbk2 B4 u5 => ?_)))
 have zu5 := u5.size
 have E6 := E0.next u5 (fun _ _ h => h.elim)
 refine t_box (cs := [.int .i64 n.frm, .int .i64 n.to, .int .i64 n.wid, .bool n.single]) rfl rfl rfl rfl (fun bk7 w8 ebk7 sbk7 B9 u10 => ?_)
 have zu10 := u10.size
 have E11 := E6.next u10 (fun _ _ h => h.elim)
 refine t_alloc (cs := [.int .i64 0, .int .i64 0]) Try.zeroValue45 rfl rfl rfl (fun bk12 w13 ebk12 sbk12 B14 u15 => ?_)
 have zu15 := u15.size
 have E16 := E11.next u15 (fun _ _ h => h.elim)
 refine t_alloc (cs := [.int .i64 0, .int .i64 0]) Try.zeroValue45 rfl rfl rfl (fun bk17 w18 ebk17 sbk17 B19 u20 => ?_)
 have zu20 := u20.size
 have E21 := E16.next u20 (fun _ _ h => h.elim)
 refine t_assign rfl rfl rfl (t_assign rfl rfl rfl (t_nil' (hK1 _ _ (c_seq fun K22 hK22 => (c_region ?_)))))
 have B23 := (((B4.keep u10 (fun h => h)).keep u15 (fun h => h)).keep u20 (fun h => h))
 refine t_loadN (vs := [.int .i64 v.st.lo, .int .i64 v.st.hi, .slice ao ((v.runs).length) cap, .int .i64 v.len, .int .i64 v.wid]) Try.isAgg48 Try.sizeOf48 rfl rfl rfl (B23.at.sub 0 5) rfl (t_call (vs := [.agg #[.int .i64 v.st.lo, .int .i64 v.st.hi, .slice ao ((v.runs).length) cap, .int .i64 v.len, .int .i64 v.wid]]) own72 rfl rfl rfl rfl (Ends_c v ao b o cap _ (hs.keep E21 (fun _ h => h)) (okVoy_rng hk).pos (by have := (okVoy_rng hk).few; omega)) (fun v24 w25 r27 => ?_))
 obtain ⟨rfl, u26⟩ := r27
 have zu26 := u26.size
 have E28 := E21.next u26 (fun _ _ h => h.elim)
 refine t_move rfl rfl rfl (t_extract (vs := [.int .i64 (frst v), .int .i64 (lst v)]) rfl rfl rfl rfl (t_extract (vs := [.int .i64 (frst v), .int .i64 (lst v)]) rfl rfl rfl rfl (t_assign rfl rfl rfl (t_assign rfl rfl rfl (t_nil' (hK22 _ _ (c_seq fun K29 hK29 => (c_region (t_field Try.underlying48 rfl Try.sizeOf3 (3) rfl rfl rfl rfl ?_)))))))))
 have B30 := (B23.keep u26 (fun h => h))
 refine t_load Try.isAgg3 rfl rfl rfl (B30.get rfl) (t_ari rfl rfl rfl rfl rfl (by omega) (t_quo rfl rfl rfl rfl (by omega) (by omega) (t_same 22 (v := .int .i64 (tail v)) rfl (congrArg (Value.int .i64) htl) (t_assign rfl rfl rfl (t_nil' (hK29 _ _ (c_cut (γ := Unit) (fun _x => [(2, .pointer (some ⟨bk2, 0, none⟩)), (3, .pointer (some ⟨bk7, 0, none⟩)), (4, .pointer (some ⟨bk12, 0, none⟩)), (5, .pointer (some ⟨bk17, 0, none⟩)), (8, .int .i64 (frst v)), (9, .int .i64 (lst v)), (10, .int .i64 (tail v)), (11, .int .i64 n.frm), (12, .int .i64 (n.to + (tail v))), (13, .bool (nearD v n))]) (fun _x w => Upd (fun _ => False) w25 w) (fun K32 hK32 => ?_) ?_)))))))
 ·
  have B35 := (((B9.keep u15 (fun h => h)).keep u20 (fun h => h)).keep u26 (fun h => h))
  by_cases g35 : (frst v) < (n.to + (tail v))
  ·
   refine WC.weak [(2, .pointer (some ⟨bk2, 0, none⟩)), (3, .pointer (some ⟨bk7, 0, none⟩)), (4, .pointer (some ⟨bk12, 0, none⟩)), (5, .pointer (some ⟨bk17, 0, none⟩)), (8, .int .i64 (frst v)), (9, .int .i64 (lst v)), (10, .int .i64 (tail v))] ⟨rfl, rfl, rfl, rfl, rfl, rfl, rfl, trivial⟩ (c_drawn follows 21 [some (23, some (.pointer (some ⟨bk7, 0, none⟩))), some (24, some (.int .i64 n.frm)), some (25, some (.pointer (some ⟨bk7, 1, none⟩))), some (26, some (.int .i64 n.to)), some (27, some (.int .i64 (tail v))), some (28, some (.int .i64 (n.to + (tail v)))), some (29, some (.int .i64 (frst v))), some (30, some (.pointer (some ⟨bk7, 1, none⟩))), some (31, some (.int .i64 n.to)), some (32, some (.int .i64 (tail v))), some (33, some (.int .i64 (n.to + (tail v)))), some (34, some (.bool (decide ((frst v) < (n.to + (tail v)))))), some (35, some (.bool true)), some (36, some (.int .i64 (lst v))), some (37, some (.pointer (some ⟨bk7, 0, none⟩))), some (38, some (.int .i64 n.frm)), some (39, some (.bool (decide (n.frm < (lst v))))), some (40, some (.bool (decide (n.frm < (lst v))))), some (11, some (.int .i64 n.frm)), some (12, some (.int .i64 (n.to + (tail v)))), some (13, some (.bool (decide (n.frm < (lst v)))))] [[],[0],[],[2],[],[3,4],[],[],[7],[],[8,9],[6,10],[11],[12],[12],[14,12],[13,15,12],[12,16],[1,12,0,1],[5,18,0,1,2,3,4,5,18],[17,19,0,1,2,3,4,5,6,7,8,9,10,11,12,13,14,15,16,17,18,19]] (fun _ _ w => Upd (fun _ => False) w25 w) rfl rfl rfl (by kernel_rfl) (by kernel_rfl) (Upd.drew _).to ⟨?_, ?_, ?_, ?_, ?_, ?_, ?_, ?_, ?_, ?_, ?_, ?_, ?_, ?_, ?_, ?_, ?_, ?_, ?_, ?_, ?_, trivial⟩ ?_)
   · exact pzf Try.underlying72 rfl Try.sizeOf3 (0) rfl rfl rfl rfl rfl fun _ _ _ h => h
   ·
    intro D ρ w36 hcD hnD hdD hW
    have zhW := hW.size
    refine ⟨_, kf_fr [23], fun Lr => ?_⟩
    have B39 := (B35.keep hW (fun h => h))
    refine t_load Try.isAgg3 rfl rfl rfl (B39.get rfl) ?_
    exact dz rfl hW
   · exact pzf Try.underlying72 rfl Try.sizeOf3 (1) rfl rfl rfl rfl rfl fun _ _ _ h => h
   ·
    intro D ρ w40 hcD hnD hdD hW
    have zhW := hW.size
    refine ⟨_, kf_fr [25], fun Lr => ?_⟩
    have B43 := (B35.keep hW (fun h => h))
    refine t_load Try.isAgg3 rfl rfl rfl (B43.get rfl) ?_
    exact dz rfl hW
   · exact pz rfl rfl rfl rfl fun _ _ _ h => h
   ·
    intro D ρ w44 hcD hnD hdD hW
    have zhW := hW.size
    refine ⟨_, kf_fr [26, 27], fun Lr => ?_⟩
    refine t_ari rfl rfl rfl rfl rfl (by omega) ?_
    exact dz rfl hW
   · exact pz rfl rfl rfl rfl fun _ _ _ h => h
   · exact pzf Try.underlying72 rfl Try.sizeOf3 (1) rfl rfl rfl rfl rfl fun _ _ _ h => h
   ·
    intro D ρ w47 hcD hnD hdD hW
    have zhW := hW.size
    refine ⟨_, kf_fr [30], fun Lr => ?_⟩
    have B50 := (B35.keep hW (fun h => h))
    refine t_load Try.isAgg3 rfl rfl rfl (B50.get rfl) ?_
    exact dz rfl hW
   · exact pz rfl rfl rfl rfl fun _ _ _ h => h
   ·
    intro D ρ w51 hcD hnD hdD hW
    have zhW := hW.size
    refine ⟨_, kf_fr [31, 32], fun Lr => ?_⟩
    refine t_ari rfl rfl rfl rfl rfl (by omega) ?_
    exact dz rfl hW
   · exact pz rfl rfl rfl rfl fun _ _ _ h => h
   · exact fun D ρ w _ _ _ hW => ⟨[(34, .bool (decide ((frst v) < (n.to + (tail v)))))], ⟨fi 11 rfl rfl rfl, trivial⟩, fun Lr => t_move rfl rfl rfl (t_samehd (v := .bool true) (by first | exact congrArg Value.bool (decide_eq_true g35) | exact congrArg Value.bool g35 | simp [g35]) (dz rfl hW))⟩
   · exact pz rfl rfl rfl rfl fun _ _ _ h => h
   · exact pzf Try.underlying72 rfl Try.sizeOf3 (0) rfl rfl rfl rfl rfl fun _ _ _ h => h
   ·
    intro D ρ w54 hcD hnD hdD hW
    have zhW := hW.size
    refine ⟨_, kf_fr [35, 37], fun Lr => ?_⟩
    have B57 := (B35.keep hW (fun h => h))
    refine t_load Try.isAgg3 rfl rfl rfl (B57.get rfl) ?_
    exact dz rfl hW
   · exact pz rfl rfl rfl rfl fun _ _ _ h => h
   · exact pz rfl rfl rfl rfl fun _ _ _ h => h
   · exact pz rfl rfl rfl rfl fun _ _ _ h => h
   · exact pz rfl rfl rfl rfl fun _ _ _ h => h
   · exact pz rfl rfl rfl rfl fun _ _ _ h => h
   intro ρ w58 hW
   have u59 : Upd (fun _ => False) w25 w58 := hW
   have zu59 := u59.size
   refine QK.weak [(2, .pointer (some ⟨bk2, 0, none⟩)), (3, .pointer (some ⟨bk7, 0, none⟩)), (4, .pointer (some ⟨bk12, 0, none⟩)), (5, .pointer (some ⟨bk17, 0, none⟩)), (8, .int .i64 (frst v)), (9, .int .i64 (lst v)), (10, .int .i64 (tail v)), (11, .int .i64 n.frm), (12, .int .i64 (n.to + (tail v))), (13, .bool (decide (n.frm < (lst v))))] ⟨rfl, rfl, rfl, rfl, rfl, rfl, rfl, rfl, rfl, rfl, trivial⟩ ?_
   exact hK32 () _ _ ⟨rfl, rfl, rfl, rfl, rfl, rfl, rfl, rfl, rfl, (by exact congrArg some (by simp [nearD, g35])), trivial⟩ ((Upd.refl _ _).next u59 (fun _ _ h => h.elim))
  ·
   refine WC.weak [(2, .pointer (some ⟨bk2, 0, none⟩)), (3, .pointer (some ⟨bk7, 0, none⟩)), (4, .pointer (some ⟨bk12, 0, none⟩)), (5, .pointer (some ⟨bk17, 0, none⟩)), (8, .int .i64 (frst v)), (9, .int .i64 (lst v)), (10, .int .i64 (tail v))] ⟨rfl, rfl, rfl, rfl, rfl, rfl, rfl, trivial⟩ (c_drawn follows 21 [some (23, some (.pointer (some ⟨bk7, 0, none⟩))), some (24, some (.int .i64 n.frm)), some (25, some (.pointer (some ⟨bk7, 1, none⟩))), some (26, some (.int .i64 n.to)), some (27, some (.int .i64 (tail v))), some (28, some (.int .i64 (n.to + (tail v)))), some (29, some (.int .i64 (frst v))), some (30, some (.pointer (some ⟨bk7, 1, none⟩))), some (31, some (.int .i64 n.to)), some (32, some (.int .i64 (tail v))), some (33, some (.int .i64 (n.to + (tail v)))), some (34, some (.bool (decide ((frst v) < (n.to + (tail v)))))), some (35, some (.bool false)), some (36, some (undef)), some (37, some (undef)), some (38, some (undef)), some (39, some (undef)), some (40, some (.bool false)), some (11, some (.int .i64 n.frm)), some (12, some (.int .i64 (n.to + (tail v)))), some (13, some (.bool false))] [[],[0],[],[2],[],[3,4],[],[],[7],[],[8,9],[6,10],[11],[12],[12],[14,12],[13,15,12],[12,16],[1,12,0,1],[5,18,0,1,2,3,4,5,18],[17,19,0,1,2,3,4,5,6,7,8,9,10,11,12,13,14,15,16,17,18,19]] (fun _ _ w => Upd (fun _ => False) w25 w) rfl rfl rfl (by kernel_rfl) (by kernel_rfl) (Upd.drew _).to ⟨?_, ?_, ?_, ?_, ?_, ?_, ?_, ?_, ?_, ?_, ?_, ?_, ?_, ?_, ?_, ?_, ?_, ?_, ?_, ?_, ?_, trivial⟩ ?_)
   · exact pzf Try.underlying72 rfl Try.sizeOf3 (0) rfl rfl rfl rfl rfl fun _ _ _ h => h
   ·
    intro D ρ w61 hcD hnD hdD hW
    have zhW := hW.size
    refine ⟨_, kf_fr [23], fun Lr => ?_⟩
    have B64 := (B35.keep hW (fun h => h))
    refine t_load Try.isAgg3 rfl rfl rfl (B64.get rfl) ?_
    exact dz rfl hW
   · exact pzf Try.underlying72 rfl Try.sizeOf3 (1) rfl rfl rfl rfl rfl fun _ _ _ h => h
   ·
    intro D ρ w65 hcD hnD hdD hW
    have zhW := hW.size
    refine ⟨_, kf_fr [25], fun Lr => ?_⟩
    have B68 := (B35.keep hW (fun h => h))
    refine t_load Try.isAgg3 rfl rfl rfl (B68.get rfl) ?_
    exact dz rfl hW
   · exact pz rfl rfl rfl rfl fun _ _ _ h => h
   ·
    intro D ρ w69 hcD hnD hdD hW
    have zhW := hW.size
    refine ⟨_, kf_fr [26, 27], fun Lr => ?_⟩
    refine t_ari rfl rfl rfl rfl rfl (by omega) ?_
    exact dz rfl hW
   · exact pz rfl rfl rfl rfl fun _ _ _ h => h
   · exact pzf Try.underlying72 rfl Try.sizeOf3 (1) rfl rfl rfl rfl rfl fun _ _ _ h => h
   ·
    intro D ρ w72 hcD hnD hdD hW
    have zhW := hW.size
    refine ⟨_, kf_fr [30], fun Lr => ?_⟩
    have B75 := (B35.keep hW (fun h => h))
    refine t_load Try.isAgg3 rfl rfl rfl (B75.get rfl) ?_
    exact dz rfl hW
   · exact pz rfl rfl rfl rfl fun _ _ _ h => h
   ·
    intro D ρ w76 hcD hnD hdD hW
    have zhW := hW.size
    refine ⟨_, kf_fr [31, 32], fun Lr => ?_⟩
    refine t_ari rfl rfl rfl rfl rfl (by omega) ?_
    exact dz rfl hW
   · exact pz rfl rfl rfl rfl fun _ _ _ h => h
   · exact fun D ρ w _ _ _ hW => ⟨[(34, .bool (decide ((frst v) < (n.to + (tail v)))))], ⟨fi 11 rfl rfl rfl, trivial⟩, fun Lr => t_move rfl rfl rfl (t_samehd (v := .bool false) (by first | exact congrArg Value.bool (decide_eq_false g35) | exact congrArg Value.bool g35 | simp [g35]) (dz rfl hW))⟩
   · exact pz rfl rfl rfl rfl fun _ _ _ h => h
   · exact pz rfl rfl rfl rfl fun _ _ _ h => h
   · exact pz rfl rfl rfl rfl fun _ _ _ h => h
   · exact pz rfl rfl rfl rfl fun _ _ _ h => h
   · exact pz rfl rfl rfl rfl fun _ _ _ h => h
   · exact pz rfl rfl rfl rfl fun _ _ _ h => h
   · exact pz rfl rfl rfl rfl fun _ _ _ h => h
   · exact pz rfl rfl rfl rfl fun _ _ _ h => h
   intro ρ w79 hW
   have u80 : Upd (fun _ => False) w25 w79 := hW
   have zu80 := u80.size
   refine QK.weak [(2, .pointer (some ⟨bk2, 0, none⟩)), (3, .pointer (some ⟨bk7, 0, none⟩)), (4, .pointer (some ⟨bk12, 0, none⟩)), (5, .pointer (some ⟨bk17, 0, none⟩)), (8, .int .i64 (frst v)), (9, .int .i64 (lst v)), (10, .int .i64 (tail v)), (11, .int .i64 n.frm), (12, .int .i64 (n.to + (tail v))), (13, .bool false)] ⟨rfl, rfl, rfl, rfl, rfl, rfl, rfl, rfl, rfl, rfl, trivial⟩ ?_
   exact hK32 () _ _ ⟨rfl, rfl, rfl, rfl, rfl, rfl, rfl, rfl, rfl, (by exact congrArg some (by simp [nearD, g35])), trivial⟩ ((Upd.refl _ _).next u80 (fun _ _ h => h.elim))
 ·
  intro _x w33 u34
  have zu34 := u34.size
  have E82 := E28.next u34 (fun _ _ h => h.elim)
  refine c_cut (γ := Unit) (fun _x => [(2, .pointer (some ⟨bk2, 0, none⟩)), (4, .pointer (some ⟨bk12, 0, none⟩)), (5, .pointer (some ⟨bk17, 0, none⟩)), (11, .int .i64 (entP v n)), (12, .int .i64 (leaP v n)), (13, .bool (near v n))]) (fun _x w => Upd (fun _ => False) w33 w) (fun K84 hK84 => ?_) ?_
  ·
   refine c_seq fun K87 hK87 => (c_region (t_move rfl rfl rfl (t_move rfl rfl rfl (t_cmp rfl rfl rfl rfl rfl (t_nil' (hK87 _ _ (c_condp rfl (fun g43 => ?_) (fun g43 => ?_))))))))
   ·
    have B88 := ((((B9.keep u15 (fun h => h)).keep u20 (fun h => h)).keep u26 (fun h => h)).keep u34 (fun h => h))
    by_cases g56 : (n.frm - (tail v)) < (frst v)
    ·
     refine WC.weak [(2, .pointer (some ⟨bk2, 0, none⟩)), (3, .pointer (some ⟨bk7, 0, none⟩)), (4, .pointer (some ⟨bk12, 0, none⟩)), (5, .pointer (some ⟨bk17, 0, none⟩)), (8, .int .i64 (frst v)), (9, .int .i64 (lst v)), (10, .int .i64 (tail v))] ⟨rfl, rfl, rfl, rfl, rfl, rfl, rfl, trivial⟩ (c_drawn follows 21 [some (44, some (.pointer (some ⟨bk7, 1, none⟩))), some (45, some (.int .i64 n.to)), some (46, some (.pointer (some ⟨bk7, 0, none⟩))), some (47, some (.int .i64 n.frm)), some (48, some (.int .i64 (tail v))), some (49, some (.int .i64 (n.frm - (tail v)))), some (50, some (.int .i64 (frst v))), some (51, some (.pointer (some ⟨bk7, 0, none⟩))), some (52, some (.int .i64 n.frm)), some (53, some (.int .i64 (tail v))), some (54, some (.int .i64 (n.frm - (tail v)))), some (55, some (.bool (decide ((n.frm - (tail v)) < (frst v))))), some (56, some (.bool true)), some (57, some (.int .i64 (lst v))), some (58, some (.pointer (some ⟨bk7, 1, none⟩))), some (59, some (.int .i64 n.to)), some (60, some (.bool (decide ((lst v) < n.to)))), some (61, some (.bool (decide ((lst v) < n.to)))), some (11, some (.int .i64 n.to)), some (12, some (.int .i64 (n.frm - (tail v)))), some (13, some (.bool (decide ((lst v) < n.to))))] [[],[0],[],[2],[],[3,4],[],[],[7],[],[8,9],[6,10],[11],[12],[12],[14,12],[13,15,12],[12,16],[1,12,0,1],[5,18,0,1,2,3,4,5,18],[17,19,0,1,2,3,4,5,6,7,8,9,10,11,12,13,14,15,16,17,18,19]] (fun _ _ w => Upd (fun _ => False) w33 w) rfl rfl rfl (by kernel_rfl) (by kernel_rfl) (Upd.drew _).to ⟨?_, ?_, ?_, ?_, ?_, ?_, ?_, ?_, ?_, ?_, ?_, ?_, ?_, ?_, ?_, ?_, ?_, ?_, ?_, ?_, ?_, trivial⟩ ?_)
     · exact pzf Try.underlying72 rfl Try.sizeOf3 (1) rfl rfl rfl rfl rfl fun _ _ _ h => h
     ·
      intro D ρ w89 hcD hnD hdD hW
      have zhW := hW.size
      refine ⟨_, kf_fr [44], fun Lr => ?_⟩
      have B92 := (B88.keep hW (fun h => h))
      refine t_load Try.isAgg3 rfl rfl rfl (B92.get rfl) ?_
      exact dz rfl hW
     · exact pzf Try.underlying72 rfl Try.sizeOf3 (0) rfl rfl rfl rfl rfl fun _ _ _ h => h
     ·
      intro D ρ w93 hcD hnD hdD hW
      have zhW := hW.size
      refine ⟨_, kf_fr [46], fun Lr => ?_⟩
      have B96 := (B88.keep hW (fun h => h))
      refine t_load Try.isAgg3 rfl rfl rfl (B96.get rfl) ?_
      exact dz rfl hW
     · exact pz rfl rfl rfl rfl fun _ _ _ h => h
     ·
      intro D ρ w97 hcD hnD hdD hW
      have zhW := hW.size
      refine ⟨_, kf_fr [47, 48], fun Lr => ?_⟩
      refine t_ari rfl rfl rfl rfl rfl (by omega) ?_
      exact dz rfl hW
     · exact pz rfl rfl rfl rfl fun _ _ _ h => h
     · exact pzf Try.underlying72 rfl Try.sizeOf3 (0) rfl rfl rfl rfl rfl fun _ _ _ h => h
     ·
      intro D ρ w100 hcD hnD hdD hW
      have zhW := hW.size
      refine ⟨_, kf_fr [51], fun Lr => ?_⟩
      have B103 := (B88.keep hW (fun h => h))
      refine t_load Try.isAgg3 rfl rfl rfl (B103.get rfl) ?_
      exact dz rfl hW
     · exact pz rfl rfl rfl rfl fun _ _ _ h => h
     ·
      intro D ρ w104 hcD hnD hdD hW
      have zhW := hW.size
      refine ⟨_, kf_fr [52, 53], fun Lr => ?_⟩
      refine t_ari rfl rfl rfl rfl rfl (by omega) ?_
      exact dz rfl hW
     · exact pz rfl rfl rfl rfl fun _ _ _ h => h
     · exact fun D ρ w _ _ _ hW => ⟨[(55, .bool (decide ((n.frm - (tail v)) < (frst v))))], ⟨fi 11 rfl rfl rfl, trivial⟩, fun Lr => t_move rfl rfl rfl (t_samehd (v := .bool true) (by first | exact congrArg Value.bool (decide_eq_true g56) | exact congrArg Value.bool g56 | simp [g56]) (dz rfl hW))⟩
     · exact pz rfl rfl rfl rfl fun _ _ _ h => h
     · exact pzf Try.underlying72 rfl Try.sizeOf3 (1) rfl rfl rfl rfl rfl fun _ _ _ h => h
     ·
      intro D ρ w107 hcD hnD hdD hW
      have zhW := hW.size
      refine ⟨_, kf_fr [56, 58], fun Lr => ?_⟩
      have B110 := (B88.keep hW (fun h => h))
      refine t_load Try.isAgg3 rfl rfl rfl (B110.get rfl) ?_
      exact dz rfl hW
     · exact pz rfl rfl rfl rfl fun _ _ _ h => h
     · exact pz rfl rfl rfl rfl fun _ _ _ h => h
     · exact pz rfl rfl rfl rfl fun _ _ _ h => h
     · exact pz rfl rfl rfl rfl fun _ _ _ h => h
     · exact pz rfl rfl rfl rfl fun _ _ _ h => h
     intro ρ w111 hW
     have u112 : Upd (fun _ => False) w33 w111 := hW
     have zu112 := u112.size
     refine QK.weak [(2, .pointer (some ⟨bk2, 0, none⟩)), (4, .pointer (some ⟨bk12, 0, none⟩)), (5, .pointer (some ⟨bk17, 0, none⟩)), (11, .int .i64 n.to), (12, .int .i64 (n.frm - (tail v))), (13, .bool (decide ((lst v) < n.to)))] ⟨rfl, rfl, rfl, rfl, rfl, rfl, trivial⟩ ?_
     exact hK84 () _ _ ⟨rfl, rfl, rfl, (by exact congrArg some (by simp [entP, g43])), (by exact congrArg some (by simp [leaP, g43])), (by exact congrArg some (by simp [near, nearU, g43, g56])), trivial⟩ ((Upd.refl _ _).next u112 (fun _ _ h => h.elim))
    ·
     refine WC.weak [(2, .pointer (some ⟨bk2, 0, none⟩)), (3, .pointer (some ⟨bk7, 0, none⟩)), (4, .pointer (some ⟨bk12, 0, none⟩)), (5, .pointer (some ⟨bk17, 0, none⟩)), (8, .int .i64 (frst v)), (9, .int .i64 (lst v)), (10, .int .i64 (tail v))] ⟨rfl, rfl, rfl, rfl, rfl, rfl, rfl, trivial⟩ (c_drawn follows 21 [some (44, some (.pointer (some ⟨bk7, 1, none⟩))), some (45, some (.int .i64 n.to)), some (46, some (.pointer (some ⟨bk7, 0, none⟩))), some (47, some (.int .i64 n.frm)), some (48, some (.int .i64 (tail v))), some (49, some (.int .i64 (n.frm - (tail v)))), some (50, some (.int .i64 (frst v))), some (51, some (.pointer (some ⟨bk7, 0, none⟩))), some (52, some (.int .i64 n.frm)), some (53, some (.int .i64 (tail v))), some (54, some (.int .i64 (n.frm - (tail v)))), some (55, some (.bool (decide ((n.frm - (tail v)) < (frst v))))), some (56, some (.bool false)), some (57, some (undef)), some (58, some (undef)), some (59, some (undef)), some (60, some (undef)), some (61, some (.bool false)), some (11, some (.int .i64 n.to)), some (12, some (.int .i64 (n.frm - (tail v)))), some (13, some (.bool false))] [[],[0],[],[2],[],[3,4],[],[],[7],[],[8,9],[6,10],[11],[12],[12],[14,12],[13,15,12],[12,16],[1,12,0,1],[5,18,0,1,2,3,4,5,18],[17,19,0,1,2,3,4,5,6,7,8,9,10,11,12,13,14,15,16,17,18,19]] (fun _ _ w => Upd (fun _ => False) w33 w) rfl rfl rfl (by kernel_rfl) (by kernel_rfl) (Upd.drew _).to ⟨?_, ?_, ?_, ?_, ?_, ?_, ?_, ?_, ?_, ?_, ?_, ?_, ?_, ?_, ?_, ?_, ?_, ?_, ?_, ?_, ?_, trivial⟩ ?_)
     · exact pzf Try.underlying72 rfl Try.sizeOf3 (1) rfl rfl rfl rfl rfl fun _ _ _ h => h
     ·
      intro D ρ w114 hcD hnD hdD hW
      have zhW := hW.size
      refine ⟨_, kf_fr [44], fun Lr => ?_⟩
      have B117 := (B88.keep hW (fun h => h))
      refine t_load Try.isAgg3 rfl rfl rfl (B117.get rfl) ?_
      exact dz rfl hW
     · exact pzf Try.underlying72 rfl Try.sizeOf3 (0) rfl rfl rfl rfl rfl fun _ _ _ h => h
     ·
      intro D ρ w118 hcD hnD hdD hW
      have zhW := hW.size
      refine ⟨_, kf_fr [46], fun Lr => ?_⟩
      have B121 := (B88.keep hW (fun h => h))
      refine t_load Try.isAgg3 rfl rfl rfl (B121.get rfl) ?_
      exact dz rfl hW
     · exact pz rfl rfl rfl rfl fun _ _ _ h => h
     ·
      intro D ρ w122 hcD hnD hdD hW
      have zhW := hW.size
      refine ⟨_, kf_fr [47, 48], fun Lr => ?_⟩
      refine t_ari rfl rfl rfl rfl rfl (by omega) ?_
      exact dz rfl hW
     · exact pz rfl rfl rfl rfl fun _ _ _ h => h
     · exact pzf Try.underlying72 rfl Try.sizeOf3 (0) rfl rfl rfl rfl rfl fun _ _ _ h => h
     ·
      intro D ρ w125 hcD hnD hdD hW
      have zhW := hW.size
      refine ⟨_, kf_fr [51], fun Lr => ?_⟩
      have B128 := (B88.keep hW (fun h => h))
      refine t_load Try.isAgg3 rfl rfl rfl (B128.get rfl) ?_
      exact dz rfl hW
     · exact pz rfl rfl rfl rfl fun _ _ _ h => h
     ·
      intro D ρ w129 hcD hnD hdD hW
      have zhW := hW.size
      refine ⟨_, kf_fr [52, 53], fun Lr => ?_⟩
      refine t_ari rfl rfl rfl rfl rfl (by omega) ?_
      exact dz rfl hW
     · exact pz rfl rfl rfl rfl fun _ _ _ h => h
     · exact fun D ρ w _ _ _ hW => ⟨[(55, .bool (decide ((n.frm - (tail v)) < (frst v))))], ⟨fi 11 rfl rfl rfl, trivial⟩, fun Lr => t_move rfl rfl rfl (t_samehd (v := .bool false) (by first | exact congrArg Value.bool (decide_eq_false g56) | exact congrArg Value.bool g56 | simp [g56]) (dz rfl hW))⟩
     · exact pz rfl rfl rfl rfl fun _ _ _ h => h
     · exact pz rfl rfl rfl rfl fun _ _ _ h => h
     · exact pz rfl rfl rfl rfl fun _ _ _ h => h
     · exact pz rfl rfl rfl rfl fun _ _ _ h => h
     · exact pz rfl rfl rfl rfl fun _ _ _ h => h
     · exact pz rfl rfl rfl rfl fun _ _ _ h => h
     · exact pz rfl rfl rfl rfl fun _ _ _ h => h
     · exact pz rfl rfl rfl rfl fun _ _ _ h => h
     intro ρ w132 hW
     have u133 : Upd (fun _ => False) w33 w132 := hW
     have zu133 := u133.size
     refine QK.weak [(2, .pointer (some ⟨bk2, 0, none⟩)), (4, .pointer (some ⟨bk12, 0, none⟩)), (5, .pointer (some ⟨bk17, 0, none⟩)), (11, .int .i64 n.to), (12, .int .i64 (n.frm - (tail v))), (13, .bool false)] ⟨rfl, rfl, rfl, rfl, rfl, rfl, trivial⟩ ?_
     exact hK84 () _ _ ⟨rfl, rfl, rfl, (by exact congrArg some (by simp [entP, g43])), (by exact congrArg some (by simp [leaP, g43])), (by exact congrArg some (by simp [near, nearU, g43, g56])), trivial⟩ ((Upd.refl _ _).next u133 (fun _ _ h => h.elim))
   ·
    refine c_skip ?_
    exact hK84 () _ _ ⟨rfl, rfl, rfl, (by exact congrArg some (by simp [entP, g43])), (by exact congrArg some (by simp [leaP, g43])), (by exact congrArg some (by simp [near, g43])), trivial⟩ (Upd.refl _ _)
  ·
   intro _x w85 u86
   have zu86 := u86.size
   have E135 := E82.next u86 (fun _ _ h => h.elim)
   refine c_seq fun K136 hK136 => (c_seq fun K137 hK137 => (c_region (t_move rfl rfl rfl (t_not rfl rfl rfl (t_nil' (hK137 _ _ (c_cond rfl (fun g63 => ?_) (fun g63 => ?_))))))))
   ·
    refine c_seq fun K138 hK138 => (c_region (t_build (ps := []) (v := .agg #[.int .i64 0, .int .i64 0]) rfl rfl ⟨rfl, rfl⟩ (fun w => by kernel_rfl) (t_build (ps := []) (v := .agg #[.int .i64 0, .int .i64 0]) rfl rfl ⟨rfl, rfl⟩ (fun w => by kernel_rfl) ?_)))
    have B139 := ((((B14.keep u20 (fun h => h)).keep u26 (fun h => h)).keep u34 (fun h => h)).keep u86 (fun h => h))
    refine t_store (vs := [.int .i64 0, .int .i64 0]) Try.sizeOf45 rfl rfl rfl B139 rfl rfl (Nat.le_of_ble_eq_true rfl) (by simp [Value.oneCell']) (fun w140 sw140 B142 u141 => ?_)
    have zu141 := u141.size
    have E143 := E135.next u141 (fun i hi (h : i = bk12) => show False by first | omega | assumption)
    have B142 : Blk w140 bk12 45 [.int .i64 0, .int .i64 0] := B142
    have B144 := ((((B19.keep u26 (fun h => h)).keep u34 (fun h => h)).keep u86 (fun h => h)).keep u141 (show ¬ (bk17 = bk12) by first | omega | assumption))
    refine t_store (vs := [.int .i64 0, .int .i64 0]) Try.sizeOf45 rfl rfl rfl B144 rfl rfl (Nat.le_of_ble_eq_true rfl) (by simp [Value.oneCell']) (fun w145 sw145 B147 u146 => ?_)
    have zu146 := u146.size
    have E148 := E143.next u146 (fun i hi (h : i = bk17) => show False by first | omega | assumption)
    have B147 : Blk w145 bk17 45 [.int .i64 0, .int .i64 0] := B147
    refine t_assign rfl rfl rfl (t_assign rfl rfl rfl (t_nil' (hK138 _ _ (c_ret ?_))))
    have B149 := (B142.keep u146 (show ¬ (bk12 = bk17) by first | omega | assumption))
    refine f_ret4 (v1 := .agg #[.int .i64 0, .int .i64 0]) (v2 := .agg #[.int .i64 0, .int .i64 0]) (v3 := .bool false) (v4 := .int .i64 0) Try.results43 ⟨_, _, rfl, run_loadVarN (vs := [.int .i64 0, .int .i64 0]) Try.isAgg45 Try.sizeOf45 rfl (B149.at.sub 0 2)⟩ ⟨_, _, rfl, run_loadVarN (vs := [.int .i64 0, .int .i64 0]) Try.isAgg45 Try.sizeOf45 rfl (B147.at.sub 0 2)⟩ rfl rfl ?_
    exact ⟨by simp_all [thrE, thrS, onWay_two], E148⟩
   ·
    refine c_skip (hK136 _ _ (c_seq fun K150 hK150 => (c_seq fun K151 hK151 => (c_region ?_))))
    have B152 := ((B30.keep u34 (fun h => h)).keep u86 (fun h => h))
    refine t_loadN (vs := [.int .i64 v.st.lo, .int .i64 v.st.hi, .slice ao ((v.runs).length) cap, .int .i64 v.len, .int .i64 v.wid]) Try.isAgg48 Try.sizeOf48 rfl rfl rfl (B152.at.sub 0 5) rfl (t_move rfl rfl rfl (t_call (vs := [.agg #[.int .i64 v.st.lo, .int .i64 v.st.hi, .slice ao ((v.runs).length) cap, .int .i64 v.len, .int .i64 v.wid], .int .i64 (entP v n)]) own33 rfl rfl rfl rfl (On_c v ao b o cap (entP v n) _ (hs.keep E135 (fun _ h => h)) (okVoy_rng hk).pos (by have := (okVoy_rng hk).few; omega)) (fun v153 w154 r156 => ?_)))
    obtain ⟨rfl, u155⟩ := r156
    have zu155 := u155.size
    have E157 := E135.next u155 (fun _ _ h => h.elim)
    refine t_not rfl rfl rfl (t_move rfl rfl rfl (t_split 70 rfl (fun g70 => ?_) (fun g70 => ?_)))
    ·
     have ho1 : onWay v [entP v n] = false := by simpa using g70
     refine t_skip rfl rfl rfl (t_skip rfl rfl rfl (t_skip rfl rfl rfl (t_skip rfl rfl rfl (t_pick_t rfl rfl rfl rfl (t_nil' (hK151 _ _ (c_cond_t rfl (c_seq fun K158 hK158 => (c_region (t_build (ps := []) (v := .agg #[.int .i64 0, .int .i64 0]) rfl rfl ⟨rfl, rfl⟩ (fun w => by kernel_rfl) (t_build (ps := []) (v := .agg #[.int .i64 0, .int .i64 0]) rfl rfl ⟨rfl, rfl⟩ (fun w => by kernel_rfl) ?_)))))))))))
     have B159 := (((((B14.keep u20 (fun h => h)).keep u26 (fun h => h)).keep u34 (fun h => h)).keep u86 (fun h => h)).keep u155 (fun h => h))
     refine t_store (vs := [.int .i64 0, .int .i64 0]) Try.sizeOf45 rfl rfl rfl B159 rfl rfl (Nat.le_of_ble_eq_true rfl) (by simp [Value.oneCell']) (fun w160 sw160 B162 u161 => ?_)
     have zu161 := u161.size
     have E163 := E157.next u161 (fun i hi (h : i = bk12) => show False by first | omega | assumption)
     have B162 : Blk w160 bk12 45 [.int .i64 0, .int .i64 0] := B162
     have B164 := (((((B19.keep u26 (fun h => h)).keep u34 (fun h => h)).keep u86 (fun h => h)).keep u155 (fun h => h)).keep u161 (show ¬ (bk17 = bk12) by first | omega | assumption))
     refine t_store (vs := [.int .i64 0, .int .i64 0]) Try.sizeOf45 rfl rfl rfl B164 rfl rfl (Nat.le_of_ble_eq_true rfl) (by simp [Value.oneCell']) (fun w165 sw165 B167 u166 => ?_)
     have zu166 := u166.size
     have E168 := E163.next u166 (fun i hi (h : i = bk17) => show False by first | omega | assumption)
     have B167 : Blk w165 bk17 45 [.int .i64 0, .int .i64 0] := B167
     refine t_assign rfl rfl rfl (t_assign rfl rfl rfl (t_nil' (hK158 _ _ (c_ret ?_))))
     have B169 := (B162.keep u166 (show ¬ (bk12 = bk17) by first | omega | assumption))
     refine f_ret4 (v1 := .agg #[.int .i64 0, .int .i64 0]) (v2 := .agg #[.int .i64 0, .int .i64 0]) (v3 := .bool false) (v4 := .int .i64 9) Try.results43 ⟨_, _, rfl, run_loadVarN (vs := [.int .i64 0, .int .i64 0]) Try.isAgg45 Try.sizeOf45 rfl (B169.at.sub 0 2)⟩ ⟨_, _, rfl, run_loadVarN (vs := [.int .i64 0, .int .i64 0]) Try.isAgg45 Try.sizeOf45 rfl (B167.at.sub 0 2)⟩ rfl rfl ?_
     exact ⟨by simp_all [thrE, thrS, onWay_two], E168⟩
    ·
     have ho1 : onWay v [entP v n] = true := by simpa using g70
     have B170 := (B152.keep u155 (fun h => h))
     refine t_loadN (vs := [.int .i64 v.st.lo, .int .i64 v.st.hi, .slice ao ((v.runs).length) cap, .int .i64 v.len, .int .i64 v.wid]) Try.isAgg48 Try.sizeOf48 rfl rfl rfl (B170.at.sub 0 5) rfl (t_move rfl rfl rfl (t_call (vs := [.agg #[.int .i64 v.st.lo, .int .i64 v.st.hi, .slice ao ((v.runs).length) cap, .int .i64 v.len, .int .i64 v.wid], .int .i64 (leaP v n)]) own33 rfl rfl rfl rfl (On_c v ao b o cap (leaP v n) _ (hs.keep E157 (fun _ h => h)) (okVoy_rng hk).pos (by have := (okVoy_rng hk).few; omega)) (fun v171 w172 r174 => ?_)))
     obtain ⟨rfl, u173⟩ := r174
     have zu173 := u173.size
     have E175 := E157.next u173 (fun _ _ h => h.elim)
     refine t_not rfl rfl rfl (t_pick_f rfl rfl rfl rfl (t_nil' (hK151 _ _ (c_cond rfl (fun g75 => ?_) (fun g75 => ?_)))))
     ·
      have ho2 : onWay v [leaP v n] = false := by simpa using g75
      refine c_seq fun K176 hK176 => (c_region (t_build (ps := []) (v := .agg #[.int .i64 0, .int .i64 0]) rfl rfl ⟨rfl, rfl⟩ (fun w => by kernel_rfl) (t_build (ps := []) (v := .agg #[.int .i64 0, .int .i64 0]) rfl rfl ⟨rfl, rfl⟩ (fun w => by kernel_rfl) ?_)))
      have B177 := ((((((B14.keep u20 (fun h => h)).keep u26 (fun h => h)).keep u34 (fun h => h)).keep u86 (fun h => h)).keep u155 (fun h => h)).keep u173 (fun h => h))
      refine t_store (vs := [.int .i64 0, .int .i64 0]) Try.sizeOf45 rfl rfl rfl B177 rfl rfl (Nat.le_of_ble_eq_true rfl) (by simp [Value.oneCell']) (fun w178 sw178 B180 u179 => ?_)
      have zu179 := u179.size
      have E181 := E175.next u179 (fun i hi (h : i = bk12) => show False by first | omega | assumption)
      have B180 : Blk w178 bk12 45 [.int .i64 0, .int .i64 0] := B180
      have B182 := ((((((B19.keep u26 (fun h => h)).keep u34 (fun h => h)).keep u86 (fun h => h)).keep u155 (fun h => h)).keep u173 (fun h => h)).keep u179 (show ¬ (bk17 = bk12) by first | omega | assumption))
      refine t_store (vs := [.int .i64 0, .int .i64 0]) Try.sizeOf45 rfl rfl rfl B182 rfl rfl (Nat.le_of_ble_eq_true rfl) (by simp [Value.oneCell']) (fun w183 sw183 B185 u184 => ?_)
      have zu184 := u184.size
      have E186 := E181.next u184 (fun i hi (h : i = bk17) => show False by first | omega | assumption)
      have B185 : Blk w183 bk17 45 [.int .i64 0, .int .i64 0] := B185
      refine t_assign rfl rfl rfl (t_assign rfl rfl rfl (t_nil' (hK176 _ _ (c_ret ?_))))
      have B187 := (B180.keep u184 (show ¬ (bk12 = bk17) by first | omega | assumption))
      refine f_ret4 (v1 := .agg #[.int .i64 0, .int .i64 0]) (v2 := .agg #[.int .i64 0, .int .i64 0]) (v3 := .bool false) (v4 := .int .i64 9) Try.results43 ⟨_, _, rfl, run_loadVarN (vs := [.int .i64 0, .int .i64 0]) Try.isAgg45 Try.sizeOf45 rfl (B187.at.sub 0 2)⟩ ⟨_, _, rfl, run_loadVarN (vs := [.int .i64 0, .int .i64 0]) Try.isAgg45 Try.sizeOf45 rfl (B185.at.sub 0 2)⟩ rfl rfl ?_
      exact ⟨by simp_all [thrE, thrS, onWay_two], E186⟩
     ·
      have ho2 : onWay v [leaP v n] = true := by simpa using g75
      refine c_skip (hK150 _ _ (c_seq fun K188 hK188 => ?_))
      have B189 := (B170.keep u173 (fun h => h))
      have B190 := ((((((B14.keep u20 (fun h => h)).keep u26 (fun h => h)).keep u34 (fun h => h)).keep u86 (fun h => h)).keep u155 (fun h => h)).keep u173 (fun h => h))
      have B191 := (((((B19.keep u26 (fun h => h)).keep u34 (fun h => h)).keep u86 (fun h => h)).keep u155 (fun h => h)).keep u173 (fun h => h))
      refine WC.weak [(2, .pointer (some ⟨bk2, 0, none⟩)), (4, .pointer (some ⟨bk12, 0, none⟩)), (5, .pointer (some ⟨bk17, 0, none⟩)), (11, .int .i64 (entP v n)), (12, .int .i64 (leaP v n))] ⟨rfl, rfl, rfl, rfl, rfl, trivial⟩ (c_drawn follows 10 [some (78, some (.agg #[.int .i64 v.st.lo, .int .i64 v.st.hi, .slice ao ((v.runs).length) cap, .int .i64 v.len, .int .i64 v.wid])), some (79, some (.int .i64 (entP v n))), some (80, some (.agg #[.int .i64 ((arr v (entP v n)).lo), .int .i64 ((arr v (entP v n)).hi)])), some (81, some (.agg #[.int .i64 v.st.lo, .int .i64 v.st.hi, .slice ao ((v.runs).length) cap, .int .i64 v.len, .int .i64 v.wid])), some (82, some (.int .i64 (leaP v n))), some (83, some (.agg #[.int .i64 ((arr v (leaP v n)).lo), .int .i64 ((arr v (leaP v n)).hi)])), none, none, some (6, some (.bool true)), some (7, some (.int .i64 0))] [[],[],[0,1],[],[],[3,4,2],[2,5,0,1,2],[5,6,0,1,2,3,4,5,6],[7,0,1,2,3,4,5,6,7],[8,0,1,2,3,4,5,6,7,8]] (fun D _ w => Upd (fun i => i = bk12 ∨ i = bk17) w172 w ∧ Blk w bk12 45 [(bif D 6 then .int .i64 ((arr v (entP v n)).lo) else .int .i64 0), (bif D 6 then .int .i64 ((arr v (entP v n)).hi) else .int .i64 0)] ∧ Blk w bk17 45 [(bif D 7 then .int .i64 ((arr v (leaP v n)).lo) else .int .i64 0), (bif D 7 then .int .i64 ((arr v (leaP v n)).hi) else .int .i64 0)]) rfl rfl rfl (by kernel_rfl) (by kernel_rfl) ⟨(Upd.drew _).to, (B190.keep (Upd.drew _) (fun h => h)), (B191.keep (Upd.drew _) (fun h => h))⟩ ⟨?_, ?_, ?_, ?_, ?_, ?_, ?_, ?_, ?_, ?_, trivial⟩ ?_)
      ·
       intro D ρ w203 hcD hnD hdD hW
       obtain ⟨u204, B205, B206⟩ := hW
       have zu204 := u204.size
       have d6 := hcD.late 6 hnD rfl
       have B208 := B205
       simp only [d6, cond_false] at B208
       have d7 := hcD.late 7 hnD rfl
       have B209 := B206
       simp only [d7, cond_false] at B209
       refine ⟨_, kf_fr [2], fun Lr => ?_⟩
       have B210 := (B189.keep u204 (show ¬ (bk2 = bk12 ∨ bk2 = bk17) by first | omega | assumption))
       refine t_loadN (vs := [.int .i64 v.st.lo, .int .i64 v.st.hi, .slice ao ((v.runs).length) cap, .int .i64 v.len, .int .i64 v.wid]) Try.isAgg48 Try.sizeOf48 rfl rfl rfl (B210.at.sub 0 5) rfl ?_
       exact dz rfl ⟨u204, B205, B206⟩
      · exact pz rfl rfl rfl rfl fun _ _ _ h => h
      ·
       intro D ρ w211 hcD hnD hdD hW
       obtain ⟨u212, B213, B214⟩ := hW
       have zu212 := u212.size
       have E215 := E175.next u212 (fun i hi (h : i = bk12 ∨ i = bk17) => show False by first | omega | assumption)
       have d6 := hcD.late 6 hnD rfl
       have B216 := B213
       simp only [d6, cond_false] at B216
       have d7 := hcD.late 7 hnD rfl
       have B217 := B214
       simp only [d7, cond_false] at B217
       refine ⟨_, kf_fr [78, 79], fun Lr => ?_⟩
       refine t_call (vs := [.agg #[.int .i64 v.st.lo, .int .i64 v.st.hi, .slice ao ((v.runs).length) cap, .int .i64 v.len, .int .i64 v.wid], .int .i64 (entP v n)]) own34 rfl rfl rfl rfl (rArriveA_c v ao b o cap (entP v n) _ (hs.keep E215 (fun _ h => h)) hk ho1) (fun v218 w219 r221 => ?_)
       obtain ⟨rfl, u220⟩ := r221
       have zu220 := u220.size
       exact dz rfl ⟨(u212.next u220 (fun _ _ h => h.elim)), (B213.keep u220 (fun h => h)), (B214.keep u220 (fun h => h))⟩
      ·
       intro D ρ w223 hcD hnD hdD hW
       obtain ⟨u224, B225, B226⟩ := hW
       have zu224 := u224.size
       have d7 := hcD.late 7 hnD rfl
       have B228 := B226
       simp only [d7, cond_false] at B228
       refine ⟨_, kf_fr [2], fun Lr => ?_⟩
       have B229 := (B189.keep u224 (show ¬ (bk2 = bk12 ∨ bk2 = bk17) by first | omega | assumption))
       refine t_loadN (vs := [.int .i64 v.st.lo, .int .i64 v.st.hi, .slice ao ((v.runs).length) cap, .int .i64 v.len, .int .i64 v.wid]) Try.isAgg48 Try.sizeOf48 rfl rfl rfl (B229.at.sub 0 5) rfl ?_
       exact dz rfl ⟨u224, B225, B226⟩
      · exact pz rfl rfl rfl rfl fun _ _ _ h => h
      ·
       intro D ρ w230 hcD hnD hdD hW
       obtain ⟨u231, B232, B233⟩ := hW
       have zu231 := u231.size
       have E234 := E175.next u231 (fun i hi (h : i = bk12 ∨ i = bk17) => show False by first | omega | assumption)
       have d6 := hcD.late 6 hnD rfl
       have B235 := B232
       simp only [d6, cond_false] at B235
       have d7 := hcD.late 7 hnD rfl
       have B236 := B233
       simp only [d7, cond_false] at B236
       refine ⟨_, kf_fr [81, 82], fun Lr => ?_⟩
       refine t_call (vs := [.agg #[.int .i64 v.st.lo, .int .i64 v.st.hi, .slice ao ((v.runs).length) cap, .int .i64 v.len, .int .i64 v.wid], .int .i64 (leaP v n)]) own34 rfl rfl rfl rfl (rArriveA_c v ao b o cap (leaP v n) _ (hs.keep E234 (fun _ h => h)) hk ho2) (fun v237 w238 r240 => ?_)
       obtain ⟨rfl, u239⟩ := r240
       have zu239 := u239.size
       exact dz rfl ⟨(u231.next u239 (fun _ _ h => h.elim)), (B232.keep u239 (fun h => h)), (B233.keep u239 (fun h => h))⟩
      ·
       intro D ρ w242 hcD hnD hdD hW
       obtain ⟨u243, B244, B245⟩ := hW
       have zu243 := u243.size
       have B247 := B244
       simp only [hnD, cond_false] at B247
       have d7 := hcD.late 7 hnD rfl
       have B248 := B245
       simp only [d7, cond_false] at B248
       refine ⟨_, kf_fr [4, 80], fun Lr => ?_⟩
       refine t_store (vs := [.int .i64 ((arr v (entP v n)).lo), .int .i64 ((arr v (entP v n)).hi)]) Try.sizeOf45 rfl rfl rfl B247 rfl rfl (Nat.le_of_ble_eq_true rfl) (by simp [Value.oneCell']) (fun w249 sw249 B251 u250 => ?_)
       have zu250 := u250.size
       have B251 : Blk w249 bk12 45 [.int .i64 ((arr v (entP v n)).lo), .int .i64 ((arr v (entP v n)).hi)] := B251
       exact dz0 rfl ⟨(u243.next u250 (fun i hi (h : i = bk12) => show i = bk12 ∨ i = bk17 by first | omega | assumption)), (by show Blk w249 bk12 45 [.int .i64 ((arr v (entP v n)).lo), .int .i64 ((arr v (entP v n)).hi)]; exact B251), (B245.keep u250 (show ¬ (bk17 = bk12) by first | omega | assumption))⟩
      ·
       intro D ρ w253 hcD hnD hdD hW
       obtain ⟨u254, B255, B256⟩ := hW
       have zu254 := u254.size
       have d6 := hdD 6 rfl
       have B258 := B255
       simp only [d6, cond_true] at B258
       have B259 := B256
       simp only [hnD, cond_false] at B259
       refine ⟨_, kf_fr [5, 83], fun Lr => ?_⟩
       refine t_store (vs := [.int .i64 ((arr v (leaP v n)).lo), .int .i64 ((arr v (leaP v n)).hi)]) Try.sizeOf45 rfl rfl rfl B259 rfl rfl (Nat.le_of_ble_eq_true rfl) (by simp [Value.oneCell']) (fun w260 sw260 B262 u261 => ?_)
       have zu261 := u261.size
       have B262 : Blk w260 bk17 45 [.int .i64 ((arr v (leaP v n)).lo), .int .i64 ((arr v (leaP v n)).hi)] := B262
       exact dz0 rfl ⟨(u254.next u261 (fun i hi (h : i = bk17) => show i = bk12 ∨ i = bk17 by first | omega | assumption)), (B255.keep u261 (show ¬ (bk12 = bk17) by first | omega | assumption)), (by show Blk w260 bk17 45 [.int .i64 ((arr v (leaP v n)).lo), .int .i64 ((arr v (leaP v n)).hi)]; exact B262)⟩
      · exact pz rfl rfl rfl rfl fun _ _ _ h => h
      · exact pz rfl rfl rfl rfl fun _ _ _ h => h
      intro ρ w264 hW
      obtain ⟨u265, B266, B267⟩ := hW
      have zu265 := u265.size
      have E268 := E175.next u265 (fun i hi (h : i = bk12 ∨ i = bk17) => show False by first | omega | assumption)
      have B266 : Blk w264 bk12 45 [.int .i64 ((arr v (entP v n)).lo), .int .i64 ((arr v (entP v n)).hi)] := B266
      have B267 : Blk w264 bk17 45 [.int .i64 ((arr v (leaP v n)).lo), .int .i64 ((arr v (leaP v n)).hi)] := B267
      refine QK.weak [(4, .pointer (some ⟨bk12, 0, none⟩)), (5, .pointer (some ⟨bk17, 0, none⟩)), (6, .bool true), (7, .int .i64 0)] ⟨rfl, rfl, rfl, rfl, trivial⟩ (hK188 _ _ (c_ret (f_ret4 (v1 := .agg #[.int .i64 ((arr v (entP v n)).lo), .int .i64 ((arr v (entP v n)).hi)]) (v2 := .agg #[.int .i64 ((arr v (leaP v n)).lo), .int .i64 ((arr v (leaP v n)).hi)]) (v3 := .bool true) (v4 := .int .i64 0) Try.results43 ⟨_, _, rfl, run_loadVarN (vs := [.int .i64 ((arr v (entP v n)).lo), .int .i64 ((arr v (entP v n)).hi)]) Try.isAgg45 Try.sizeOf45 rfl (B266.at.sub 0 2)⟩ ⟨_, _, rfl, run_loadVarN (vs := [.int .i64 ((arr v (leaP v n)).lo), .int .i64 ((arr v (leaP v n)).hi)]) Try.isAgg45 Try.sizeOf45 rfl (B267.at.sub 0 2)⟩ rfl rfl ?_)))
      exact ⟨by simp_all [thrE, thrS, onWay_two], E268⟩

end Go.Proofs.Ytmicjleiheoieaa
