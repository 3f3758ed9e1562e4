/-
  The law CrewShorts: the given statement holds. Conditions: none.
-/
import Derived.Test.YtagmodjadmecdaaGreatRows
import Derived.WalkKit
import Derived.ProofKit
import Derived.OpenShut
import Derived.ShutString
import Derived.ChangeOld
import Derived.Below
import Derived.Test.YtagmodjadmecdaaGreatHOpen
import Derived.Test.YtagmodjadmecdaaGreatHB7
import Derived.Test.YtagmodjadmecdaaGreatHA15
namespace Go.Proofs.YtagmodjadmecdaaGreat
open Go Go.RowKit Go.Proofs.Tryz

theorem short_err {r : Rul} {ss : List Slr} {xs : List Leg} {l : List Int} {e : Int} (h : ShortR r ss xs l e) (h0 : openE r ss xs ≠ 0) : e = openE r ss xs ∧ l.length = 0 := by
  rcases h with ⟨_, h1, h2⟩ | ⟨h, _⟩ | ⟨h, _⟩ | ⟨h, _⟩
  · exact ⟨h1, by rw [h2]; rfl⟩
  · exact absurd h h0
  · exact absurd h h0
  · exact absurd h h0
theorem spare_err {r : Rul} {ss : List Slr} {xs : List Leg} {l : List Int} {e : Int} (h : SpareR r ss xs l e) (h0 : openE r ss xs ≠ 0) : e = openE r ss xs ∧ l.length = 0 := by
  rcases h with ⟨_, h1, h2⟩ | ⟨h, _⟩ | ⟨h, _⟩
  · exact ⟨h1, by rw [h2]; rfl⟩
  · exact absurd h h0
  · exact absurd h h0
set_option maxHeartbeats 4000000 in
theorem CrewShorts_c (r : Rul) (hs : List HS) (al : Option Addr) (bl ol cl : Nat) (xs : List Leg) (ax : Option Addr) (bx ox cx : Nat) (w0 : World) (hl : Sl encHS 4 w0 al bl ol hs) (hll : hs.length ≤ 9223372036854775807) (hsm9 : ∀ x ∈ hs, Sl encPpr 2 w0 x.ap x.bp x.op x.ps ∧ x.ps.length ≤ 9223372036854775807 ∧ Sl encDty 4 w0 x.ad x.bd x.od x.ds ∧ x.ds.length ≤ 9223372036854775807) (hxs : Sl encLeg 7 w0 ax bx ox xs) (hxl : xs.length ≤ 9223372036854775807) :
    CallsV Tryz.prog 7 [.agg #[.int .i64 r.rest, .int .i64 r.span, .int .i64 r.work, .int .i64 r.week, .int .i64 r.ww], .slice al hs.length cl, .slice ax xs.length cx] w0 (fun v w' => v = .bool true ∧ Ext w0 w') := by
 refine f_enter (N := 139) func7 rfl rfl rfl (c_seq fun K1 hK1 => (c_region (t_box (cs := [.int .i64 r.rest, .int .i64 r.span, .int .i64 r.work, .int .i64 r.week, .int .i64 r.ww]) rfl rfl rfl rfl (fun bk2 w3 ebk2 sbk2 B4 u5 => ?_))))
 have zu5 := u5.size
 have E6 := (Upd.refl (fun _ => False) w0).nx u5
 refine t_assign rfl rfl rfl (t_nil' (hK1 _ _ (c_seq fun K7 hK7 => (c_cut (γ := Bool) (fun q => [(1, .slice al hs.length cl), (2, .slice ax xs.length cx), (3, .pointer (some ⟨bk2, 0, none⟩)), (24, .bool q)]) (fun q w => Upd (fun _ => False) w3 w ∧ (q = (grtP hs xs.length || hvyP hs.length xs.length))) (fun K9 hK9 => ?_) ?_))))
 ·
  refine c_region (t_move rfl rfl rfl (t_move rfl rfl rfl (t_call own22 rfl rfl rfl rfl (great_c hs al bl ol cl ax xs.length cx _ (hl.keep E6 (fun _ z => z)) (by omega)) (fun v12 w13 r15 => ?_))))
  obtain ⟨rfl, u14⟩ := r15
  have zu14 := u14.size
  refine t_move rfl rfl rfl (t_split 20 rfl (fun g20 => ?_) (fun g20 => ?_))
  ·
   refine t_skip rfl rfl rfl (t_skip rfl rfl rfl (t_skip rfl rfl rfl (t_pick_t rfl rfl rfl rfl (t_nil' ?_))))
   exact hK9 true _ _ ⟨rfl, rfl, rfl, rfl, trivial⟩ ⟨((Upd.refl _ _).nx u14), (by rw [g20]; rfl)⟩
  refine t_move rfl rfl rfl (t_move rfl rfl rfl (t_call own23 rfl rfl rfl rfl (heavy_c hs.length xs.length al ax cl cx _) (fun v17 w18 r20 => ?_)))
  obtain ⟨rfl, u19⟩ := r20
  have zu19 := u19.size
  refine t_pick_f rfl rfl rfl rfl (t_nil' ?_)
  exact hK9 (hvyP hs.length xs.length) _ _ ⟨rfl, rfl, rfl, rfl, trivial⟩ ⟨(((Upd.refl _ _).nx u14).nx u19), (by rw [g20]; rfl)⟩
 intro q w10 hW
 obtain ⟨u11, I22⟩ := hW
 have zu11 := u11.size
 have E23 := E6.nx u11
 have hq := I22; clear I22
 refine c_cond rfl (fun g24 => ?_) (fun g24 => ?_)
 ·
  refine c_seq fun K24 hK24 => (c_region (t_call own8 rfl rfl rfl rfl (known_c _) (fun v25 w26 r28 => ?_)))
  obtain ⟨rfl, u27⟩ := r28
  have zu27 := u27.size
  refine t_assign rfl rfl rfl (t_nil' (hK24 _ _ (c_ret (f_ret1 (v := .bool true) results7 rfl ?_))))
  exact ⟨rfl, (E23.nx u27)⟩
 rw [hq] at g24
 obtain ⟨hgr, hhv⟩ := Bool.or_eq_false_iff.1 g24
 obtain ⟨hh8, hx10, hgh⟩ := grt_no hgr
 have hsM0 : ∀ h ∈ hs, SlrM w0 h := fun h hh => by
   have h1 := hsm9 h hh; have h2 := hgh h hh
   exact ⟨h1.1, by omega, h1.2.2.1, by omega⟩
 obtain ⟨ss, hse⟩ : ∃ ss, ss = hs.map HS.slr := ⟨_, rfl⟩
 have hssl : ss.length = hs.length := by rw [hse, List.length_map]
 refine c_skip (hK7 _ _ (c_seq fun K30 hK30 => (c_drawnM follows (fun _ => False) (.look 0 (.look 1 (.look 3 (.act 2 (.act 4 (.act 5 (.look 6 (.look 7 (.look 8 (.look 9 (.look 10 .done))))) .stop) .stop) .stop)))) (by kernel_rfl) fun w31 u32 => ?_)))
 have zu32 := u32.size
 have E33 := E23.nx u32
 have B34 := ((B4.kx u11).kx u32)
 refine y_loadN (vs := [.int .i64 r.rest, .int .i64 r.span, .int .i64 r.work, .int .i64 r.week, .int .i64 r.ww]) isAgg23 sizeOf23 rfl rfl rfl (B34.at.sub 0 5) rfl (fun h => h) (y_move rfl rfl rfl (y_move rfl rfl rfl (s_do (t_call own24 rfl rfl rfl rfl (sailors_c hs al bl ol cl _ (hl.keep E33 (fun _ z => z)) (by omega) (fun h hh => (hsM0 h hh).keepE E33) (by omega)) (fun v36 w37 r39 => ?_)))))
 obtain ⟨⟨aoW35, gW35, cW35, oW35, rfl, haW35, hmW35, hsW35⟩, u38⟩ := r39
 have zu38 := u38.size
 have E40 := E33.nx u38
 have lt_gW35 := haW35.lt
 have hlW35 : oW35.length = hs.length := by have := congrArg List.length hmW35; simpa using this
 refine s_next ((Upd.refl _ _).nx u38) (s_do (t_call own25 rfl rfl rfl rfl (legs_c xs ax bx ox cx _ (hxs.keep E40 (fun _ z => z)) (by omega) (by omega)) (fun v42 w43 r45 => ?_)))
 obtain ⟨⟨aoG41, gG41, cG41, rfl, haG41⟩, u44⟩ := r45
 have zu44 := u44.size
 have lt_gG41 := haG41.lt
 have hcapG41 := haG41.cap_le
 refine s_next ((Upd.refl _ _).nx u44) (s_do ?_)
 have D47 := (haW35.kE u44)
 refine t_call own37 rfl rfl rfl rfl (Short_c r oW35 aoW35 gW35 0 cW35 xs aoG41 gG41 0 cG41 _ (D47.sl (fun _ => rfl)) (by omega) (fun h hh => ((hsW35 h hh).ext ((Upd.refl (fun _ => False) _).nx u44)).slrM) (haG41.sl (fun _ => rfl)) (by omega) (by omega) (by omega)) (fun v48 w49 r51 => ?_)
 obtain ⟨⟨aoS, gS, cpS, slS, eS, rfl, hSl, hSlR⟩, u50⟩ := r51
 have zu50 := u50.size
 rw [hmW35.trans hse.symm] at hSlR
 refine s_next ((Upd.refl _ _).nx u50) (y_move rfl rfl rfl (y_extract rfl rfl rfl rfl (y_extract rfl rfl rfl rfl (y_assign rfl rfl rfl (y_assign rfl rfl rfl (s_nil (hK30 _ _ (c_seq fun K53 hK53 => (c_drawnM follows (fun _ => False) (.look 0 (.look 1 (.look 3 (.act 2 (.act 4 (.act 5 (.look 6 (.look 7 (.look 8 (.look 9 (.look 10 .done))))) .stop) .stop) .stop)))) (by kernel_rfl) fun w54 u55 => ?_)))))))))
 have zu55 := u55.size
 have E56 := ((E40.nx u44).nx u50).nx u55
 have B57 := ((((((B4.kx u11).kx u32).kx u38).kx u44).kx u50).kx u55)
 refine y_loadN (vs := [.int .i64 r.rest, .int .i64 r.span, .int .i64 r.work, .int .i64 r.week, .int .i64 r.ww]) isAgg23 sizeOf23 rfl rfl rfl (B57.at.sub 0 5) rfl (fun h => h) (y_move rfl rfl rfl (y_move rfl rfl rfl (s_do (t_call own24 rfl rfl rfl rfl (sailors_c hs al bl ol cl _ (hl.keep E56 (fun _ z => z)) (by omega) (fun h hh => (hsM0 h hh).keepE E56) (by omega)) (fun v59 w60 r62 => ?_)))))
 obtain ⟨⟨aoW58, gW58, cW58, oW58, rfl, haW58, hmW58, hsW58⟩, u61⟩ := r62
 have zu61 := u61.size
 have E63 := E56.nx u61
 have lt_gW58 := haW58.lt
 have hlW58 : oW58.length = hs.length := by have := congrArg List.length hmW58; simpa using this
 refine s_next ((Upd.refl _ _).nx u61) (s_do (t_call own25 rfl rfl rfl rfl (legs_c xs ax bx ox cx _ (hxs.keep E63 (fun _ z => z)) (by omega) (by omega)) (fun v65 w66 r68 => ?_)))
 obtain ⟨⟨aoG64, gG64, cG64, rfl, haG64⟩, u67⟩ := r68
 have zu67 := u67.size
 have lt_gG64 := haG64.lt
 have hcapG64 := haG64.cap_le
 refine s_next ((Upd.refl _ _).nx u67) (s_do ?_)
 have D70 := (haW58.kE u67)
 refine t_call own38 rfl rfl rfl rfl (Spare_c r oW58 aoW58 gW58 0 cW58 xs aoG64 gG64 0 cG64 _ (D70.sl (fun _ => rfl)) (by omega) (fun h hh => ((hsW58 h hh).ext ((Upd.refl (fun _ => False) _).nx u67)).slrM) (haG64.sl (fun _ => rfl)) (by omega) (by omega) (by omega)) (fun v71 w72 r74 => ?_)
 obtain ⟨⟨aoP, gP, cpP, spS, eP, rfl, hSp, hSpR⟩, u73⟩ := r74
 have zu73 := u73.size
 have E75 := (E63.nx u67).nx u73
 rw [hmW58.trans hse.symm] at hSpR
 refine s_next ((Upd.refl _ _).nx u73) (y_move rfl rfl rfl (y_extract rfl rfl rfl rfl (y_extract rfl rfl rfl rfl (y_assign rfl rfl rfl (y_assign rfl rfl rfl (s_nil (hK53 _ _ (c_seq fun K76 hK76 => (c_region (t_assign rfl rfl rfl (t_nil' (hK76 _ _ (c_cut (γ := Nat) (fun zz => [(1, .slice al hs.length cl), (2, .slice ax xs.length cx), (3, .pointer (some ⟨bk2, 0, none⟩)), (7, .slice aoS slS.length cpS), (8, .int .i64 eS), (9, .slice aoP spS.length cpP), (10, .int .i64 eP), (11, .int .i64 (openE r ss xs))]) (fun zz w => Upd (fun _ => False) w72 w) (fun K78 hK78 => ?_) ?_)))))))))))))
 ·
  refine c_seq fun K81 hK81 => (c_region ?_)
  have B82 := (((((((((B4.kx u11).kx u32).kx u38).kx u44).kx u50).kx u55).kx u61).kx u67).kx u73)
  refine t_loadN (vs := [.int .i64 r.rest, .int .i64 r.span, .int .i64 r.work, .int .i64 r.week, .int .i64 r.ww]) isAgg23 sizeOf23 rfl rfl rfl (B82.at.sub 0 5) rfl (t_call own13 rfl rfl rfl rfl (rRules_c r _) (fun v83 w84 r86 => ?_))
  obtain ⟨rfl, u85⟩ := r86
  have zu85 := u85.size
  have E87 := E75.nx u85
  refine t_nil' (hK81 _ _ (c_cond rfl (fun g45 => ?_) (fun g45 => ?_)))
  ·
   have hwant : allE (hs.map HS.slr) xs = (openE r ss xs) := by rw [← hse]; exact (openE_good g45).symm
   refine c_region (t_move rfl rfl rfl (t_move rfl rfl rfl (t_call own30 rfl rfl rfl rfl (rAll_c hs al bl ol cl xs ax bx ox cx _ (hl.keep E87 (fun _ z => z)) (fun h hh => (hsM0 h hh).keepE E87) (hxs.keep E87 (fun _ z => z))) (fun v88 w89 r91 => ?_))))
   obtain ⟨rfl, u90⟩ := r91
   have zu90 := u90.size
   refine t_assign rfl rfl rfl (t_nil' ?_)
   exact hK78 0 _ _ ⟨rfl, rfl, rfl, rfl, rfl, rfl, rfl, (congrArg (fun z => some (Value.int .i64 z)) hwant), trivial⟩ (((Upd.refl _ _).nx u85).nx u90)
  have hwant : 2 = (openE r ss xs) := (openE_bad (by rw [g45]; simp)).symm
  refine c_skip ?_
  exact hK78 0 _ _ ⟨rfl, rfl, rfl, rfl, rfl, rfl, rfl, (congrArg (fun z => some (Value.int .i64 z)) hwant), trivial⟩ ((Upd.refl _ _).nx u85)
 intro zz w79 u80
 have zu80 := u80.size
 have E93 := E75.nx u80
 refine c_seq fun K94 hK94 => (c_seq fun K95 hK95 => (c_region (t_move rfl rfl rfl (t_cmp rfl rfl rfl rfl rfl (t_nil' (hK95 _ _ (c_condp rfl (fun g50 => ?_) (fun g50 => ?_))))))))
 ·
  have hsE := short_err hSlR g50
  have hpE := spare_err hSpR g50
  refine c_seq fun K96 hK96 => (c_region (t_move rfl rfl rfl (t_move rfl rfl rfl (t_cmp rfl rfl rfl rfl rfl (t_same 53 (v := .bool true) rfl (congrArg Value.bool (decide_eq_true hsE.1)) (t_move rfl rfl rfl (t_move rfl rfl rfl (t_move rfl rfl rfl (t_cmp rfl rfl rfl rfl rfl (t_same 57 (v := .bool true) rfl (congrArg Value.bool (decide_eq_true hpE.1)) (t_pick_t rfl rfl rfl rfl (t_move rfl rfl rfl (t_move rfl rfl rfl (t_len underlying60 rfl rfl rfl rfl (t_move rfl rfl rfl (t_len underlying60 rfl rfl rfl rfl (t_ari rfl rfl rfl rfl rfl (by omega) (t_cmp rfl rfl rfl rfl rfl (t_same 65 (v := .bool true) rfl (congrArg Value.bool (decide_eq_true (by omega))) (t_pick_t rfl rfl rfl rfl (t_move rfl rfl rfl (t_call own8 rfl rfl rfl rfl (known_c _) (fun v97 w98 r100 => ?_)))))))))))))))))))))))
  obtain ⟨rfl, u99⟩ := r100
  have zu99 := u99.size
  refine t_pick_t rfl rfl rfl rfl (t_assign rfl rfl rfl (t_nil' (hK96 _ _ (c_ret (f_ret1 (v := .bool true) results7 rfl ?_)))))
  exact ⟨rfl, (E93.nx u99)⟩
 have h0 : (openE r ss xs) = 0 := Decidable.not_not.1 g50
 obtain ⟨hr, h6, hos, h8, hox⟩ := openE_ok h0
 obtain ⟨hS1, hS2⟩ := spare_of hSpR h0
 have hc : CrwP r hs al bl ol cl ss w0 := ⟨hr, hl, hsM0, hse.symm, by omega, fun s hs9 => (okSlr_ok (hos s hs9)).2.2.1, fun s hs9 => (okSlr_ok (hos s hs9)).2.2.2⟩
 refine c_skip (hK94 _ _ (c_seq fun K102 hK102 => (c_seq fun K103 hK103 => (c_region ?_))))
 have B104 := ((((((((((B4.kx u11).kx u32).kx u38).kx u44).kx u50).kx u55).kx u61).kx u67).kx u73).kx u80)
 refine t_loadN (vs := [.int .i64 r.rest, .int .i64 r.span, .int .i64 r.work, .int .i64 r.week, .int .i64 r.ww]) isAgg23 sizeOf23 rfl rfl rfl (B104.at.sub 0 5) rfl (t_move rfl rfl rfl (t_move rfl rfl rfl (t_call own39 rfl rfl rfl rfl (rShort_c r hs al bl ol cl ss xs ax bx ox cx _ (hc.ext E93) (hxs.keep E93 (fun _ z => z)) h8 hox (by omega)) (fun v106 w107 r109 => ?_))))
 rcases r109 with ⟨aok105, kk105, ck105, rfl, hAk105, u108⟩ | ⟨aok105, gk105, ok105, ck105, lk105, rfl, hBk105, hSk105, u108⟩
 ·
  have zu108 := u108.size
  obtain ⟨⟨hslE, heS⟩, hsfY⟩ := short_A hSlR h0 hAk105
  obtain ⟨heP, hspE⟩ := hS2 hsfY
  have hsl0 : slS.length = 0 := by rw [hslE]; rfl
  have hspl9 : spS.length ≤ 8 := by rw [hspE]; have := spG_len (r := r) (xs := xs) (ms := (ss.map boardP)) ss.length; omega
  refine t_move rfl rfl rfl (t_extract rfl rfl rfl rfl (t_extract rfl rfl rfl rfl (t_assign rfl rfl rfl (t_assign rfl rfl rfl (t_nil' (hK103 _ _ (c_seq fun K111 hK111 => (c_region (t_move rfl rfl rfl (t_nil' (hK111 _ _ (c_cond_f rfl (c_skip (hK102 _ _ (c_seq fun K112 hK112 => (c_region (t_bslice (ps := []) (cs := []) (e := 3) rfl rfl ⟨rfl, rfl⟩ (fun w => by kernel_rfl) (fun bk113 w114 ebk113 sbk113 B115 u116 => ?_))))))))))))))))))
  have zu116 := u116.size
  refine t_assign rfl rfl rfl (t_nil' (hK112 _ _ (c_seq fun K118 hK118 => (c_seq fun K119 hK119 => (c_region (t_assign rfl rfl rfl (t_nil' (hK119 _ _ (c_block (c_loop (γ := Nat × Option Addr × Nat × Nat × List Int) (fun gg => [(1, .slice al hs.length cl), (2, .slice ax xs.length cx), (3, .pointer (some ⟨bk2, 0, none⟩)), (7, .slice aoS slS.length cpS), (8, .int .i64 eS), (9, .slice aoP spS.length cpP), (10, .int .i64 eP), (14, .slice gg.2.1 gg.2.2.2.2.length gg.2.2.2.1), (15, .int .i64 (gg.1 : Int))]) (fun gg w => Upd (fun i => bk113 ≤ i) w114 w ∧ (gg.1 ≤ hs.length) ∧ (Acc encI 1 3 bk113 w gg.2.1 gg.2.2.1 gg.2.2.2.1 gg.2.2.2.2) ∧ (gg.2.2.2.2 = spG r xs (ss.map boardP) gg.1) ∧ (gg.2.2.2.2.length ≤ gg.1)) (fun gg => hs.length - gg.1) (0, some ⟨bk113, 0, none⟩, bk113, 0, []) ⟨rfl, rfl, rfl, rfl, rfl, rfl, rfl, rfl, rfl, trivial⟩ ⟨Upd.refl _ _, (Nat.zero_le _), (Acc.ofRaw (cs := []) B115 (Nat.le_refl _) (Nat.le_refl _) (Nat.zero_le _) (by rfl) (by rfl)), rfl, (Nat.le_refl _)⟩ ?_))))))))))
  intro gg w121 hW K120 hK120
  obtain ⟨i9, ao, go, co, out⟩ := gg
  change WC _ _ _ _ _ _ [(1, .slice al hs.length cl), (2, .slice ax xs.length cx), (3, .pointer (some ⟨bk2, 0, none⟩)), (7, .slice aoS slS.length cpS), (8, .int .i64 eS), (9, .slice aoP spS.length cpP), (10, .int .i64 eP), (14, .slice ao out.length co), (15, .int .i64 (i9 : Int))] _
  change Upd (fun i => bk113 ≤ i) w114 w121 ∧ (i9 ≤ hs.length) ∧ (Acc encI 1 3 bk113 w121 ao go co out) ∧ (out = spG r xs (ss.map boardP) i9) ∧ (out.length ≤ i9) at hW
  obtain ⟨u122, I123, I124, I125, I126⟩ := hW
  have zu122 := u122.size
  have E127 := ((E93.nx u108).nx u116).next u122 (fun i hi (h : bk113 ≤ i) => show False by first | omega | assumption)
  have hi9 := I123; clear I123
  have hout := I124; clear I124
  have hou := I125; clear I125
  have hol := I126; clear I126
  have lt_go := hout.lt
  refine c_seq fun K128 hK128 => (c_seq fun K129 hK129 => (c_region (t_move rfl rfl rfl (t_move rfl rfl rfl (t_len underlying54 rfl rfl rfl rfl (t_cmp rfl rfl rfl rfl rfl (t_nil' (hK129 _ _ (c_condp rfl (fun g101 => ?_) (fun g101 => ?_))))))))))
  ·
   refine c_skip (hK128 _ _ (c_seq fun K130 hK130 => (c_block (c_seq fun K131 hK131 => (c_region (t_move rfl rfl rfl (t_len underlying54 rfl rfl rfl rfl (t_makeN (enc := encB) (k := 1) (z := .bool false) (bytes := 1) (n := hs.length) false underlying74 (by kernel_rfl) rfl (by decide) (fun _ => rfl) (by decide) rfl rfl rfl rfl rfl (by omega) (fun bm132 w133 ebm132 sbm132 A134 u135 => ?_)))))))))
   have zu135 := u135.size
   have hlr : (List.replicate hs.length false).length = hs.length := List.length_replicate ..
   have lt_bm132 := A134.lt
   refine t_assign rfl rfl rfl (t_nil' (hK131 _ _ (c_seq fun K137 hK137 => (c_region (t_move rfl rfl rfl (t_move rfl rfl rfl ?_))))))
   have i138 : i9 < (List.replicate hs.length false).length := (by omega)
   refine t_index (j := i9) underlying74 sizeOf4 rfl rfl rfl rfl ((A134.sl (fun _ => rfl)).addr (by omega)) rfl (by omega) (t_storeA (vs := [.bool true]) (j := i9) (o' := 0) (k := 1) true (fun _ => rfl) sizeOf4 rfl rfl (by omega) rfl A134 (by first | omega | (simp only [List.length_set, eRuns_len]; omega)) rfl rfl (by decide) (by simp [Value.oneCell']) rfl (fun w139 R141 u140 => ?_))
   have zu140 := u140.size
   have E142 := (E127.nx u135).next u140 (fun i hi h => by omega)
   refine t_nil' (hK137 _ _ (c_seq fun K143 hK143 => (c_region ?_)))
   have B144 := (((((B104.kx u108).kx u116).keep u122 (show ¬ (bk113 ≤ bk2) by first | omega | assumption)).kx u135).keep u140 (by omega))
   refine t_loadN (vs := [.int .i64 r.rest, .int .i64 r.span, .int .i64 r.work, .int .i64 r.week, .int .i64 r.ww]) isAgg23 sizeOf23 rfl rfl rfl (B144.at.sub 0 5) rfl (t_move rfl rfl rfl (t_move rfl rfl rfl (t_move rfl rfl rfl (t_same 113 (v := .slice (some ⟨bm132, 0, none⟩) (((List.replicate hs.length false).set i9 true).length) hs.length) rfl (by rw [List.length_set, List.length_replicate]) ?_))))
   have hsfo : sfP r xs (mbO ((List.replicate hs.length false).set i9 true) ss) = sfP r xs ((ss.map boardP).take i9 ++ (ss.map boardP).drop (i9 + 1)) := by have h9 := sf_out (r := r) (xs := xs) (ss := ss) (i := i9) (by omega) hox; rwa [hssl] at h9
   refine t_call own31 rfl rfl rfl rfl (rPlan_two (rPlan_c r hs al bl ol cl ss xs ax bx ox cx ((List.replicate hs.length false).set i9 true) (some ⟨bm132, 0, none⟩) bm132 0 hs.length _ (hc.ext E142) (hxs.keep E142 (fun _ z => z)) h8 hox (R141.sl (fun _ => rfl)) (by rw [List.length_set, List.length_replicate]))) (fun v146 w147 r149 => ?_)
   rcases r149 with ⟨rfl, hnk145, u148⟩ | ⟨aok145, gk145, ck145, rwk145, rfl, hnk145, _, u148⟩
   ·
    have zu148 := u148.size
    have hin9 : sfP r xs ((ss.map boardP).take i9 ++ (ss.map boardP).drop (i9 + 1)) = false := by rw [← hsfo]; unfold sfP; rw [hnk145]; rfl
    refine t_fieldv underlying72 rfl isAgg4 rfl rfl rfl rfl (t_nil' (hK143 _ _ (c_cond_f rfl (c_skip (hK130 _ _ (c_region (t_move rfl rfl rfl (t_ari rfl rfl rfl rfl rfl (by omega) (t_assign rfl rfl rfl (t_nil' ?_))))))))))
    have D151 := (((hout.kE u135).keep u140 (fun hb => show ¬ (go = bm132) by first | omega | assumption)).kE u148)
    exact hK120 (i9 + 1, ao, go, co, out) _ _ (by show hs.length - (i9 + 1) < hs.length - i9; omega) ⟨rfl, rfl, rfl, rfl, rfl, rfl, rfl, rfl, rfl, trivial⟩ ⟨(((u122.nx u135).next u140 (fun i hi (h : i = bm132) => show bk113 ≤ i by first | omega | assumption)).nx u148), (by omega), D151, (by rw [hou, spG, if_neg (by rw [hin9]; simp), List.append_nil]), (by show out.length ≤ i9 + 1; omega)⟩
   have zu148 := u148.size
   have hin9 : sfP r xs ((ss.map boardP).take i9 ++ (ss.map boardP).drop (i9 + 1)) = true := by rw [← hsfo]; unfold sfP; rw [hnk145]; rfl
   refine t_fieldv underlying72 rfl isAgg4 rfl rfl rfl rfl (t_nil' (hK143 _ _ (c_cond_t rfl (c_region (t_move rfl rfl rfl (t_move rfl rfl rfl (t_bslice (ps := [(0, .int .i64 (i9 : Int))]) (cs := [.int .i64 (i9 : Int)]) (e := 3) rfl rfl ⟨rfl, rfl⟩ (fun w => by kernel_rfl) (fun bk153 w154 ebk153 sbk153 B155 u156 => ?_))))))))
   have zu156 := u156.size
   have D158 := ((((hout.kE u135).keep u140 (fun hb => show ¬ (go = bm132) by first | omega | assumption)).kE u148).kE u156)
   refine t_append (z := .int .i64 0) (bytes := 8) (k := 1) (base := bk113) (i9 : Int) underlying60 (by kernel_rfl) rfl (by decide) (fun _ => rfl) (by intro x; simp [encI, Value.oneCell']) rfl rfl rfl rfl D158 B155 (by omega) (by omega) (by decide) (fun ao159 gb160 cp161 w162 A163 u164 gegb160 lngb160 => ?_)
   have zu164 := u164.size
   have lt_gb160 := A163.lt
   refine t_assign rfl rfl rfl (t_nil' (hK130 _ _ (c_region (t_move rfl rfl rfl (t_ari rfl rfl rfl rfl rfl (by omega) (t_assign rfl rfl rfl (t_nil' ?_)))))))
   exact hK120 (i9 + 1, ao159, gb160, cp161, (out ++ [(i9 : Int)])) _ _ (by show hs.length - (i9 + 1) < hs.length - i9; omega) ⟨rfl, rfl, rfl, rfl, rfl, rfl, rfl, rfl, rfl, trivial⟩ ⟨(((((u122.nx u135).next u140 (fun i hi (h : i = bm132) => show bk113 ≤ i by first | omega | assumption)).nx u148).nx u156).next u164 (fun i hi (h : (i = go ∧ bk113 ≤ i)) => show bk113 ≤ i by first | omega | assumption)), (by omega), A163, (by rw [hou, spG, if_pos hin9]), (by show (out ++ [(i9 : Int)]).length ≤ i9 + 1; rw [List.length_append, List.length_singleton]; omega)⟩
  refine c_exit (hK118 _ _ (c_seq fun K166 hK166 => (c_region (t_move rfl rfl rfl (t_cmp rfl rfl rfl rfl rfl (t_same 121 (v := .bool true) rfl (congrArg Value.bool (decide_eq_true (by omega))) (t_move rfl rfl rfl (t_move rfl rfl rfl (t_len underlying60 rfl rfl rfl rfl (t_cmp rfl rfl rfl rfl rfl (t_same 125 (v := .bool true) rfl (congrArg Value.bool (decide_eq_true (by omega))) (t_pick_t rfl rfl rfl rfl (t_move rfl rfl rfl (t_move rfl rfl rfl (t_cmp rfl rfl rfl rfl rfl (t_same 129 (v := .bool true) rfl (congrArg Value.bool (decide_eq_true (by omega))) (t_pick_t rfl rfl rfl rfl (t_move rfl rfl rfl (t_move rfl rfl rfl (t_move rfl rfl rfl ?_))))))))))))))))))))
  have D167 := ((((hSp.kE u80).kE u108).kE u116).keep u122 (fun hp => by have h9 := hSp.lt hp; show ¬ (bk113 ≤ gP); omega))
  refine t_call own40 rfl rfl rfl rfl ((equal_c spS aoP gP 0 cpP out ao go 0 co _ D167 (hout.sl (fun _ => rfl)) (by omega)).mono fun v w9 h9 => (⟨h9.1.trans (congrArg Value.bool (decide_eq_true (hspE.trans (by rw [hou, show i9 = ss.length by omega])))), h9.2⟩ : v = .bool true ∧ Ext w121 w9)) (fun v168 w169 r171 => ?_)
  obtain ⟨rfl, u170⟩ := r171
  have zu170 := u170.size
  refine t_pick_t rfl rfl rfl rfl (t_move rfl rfl rfl (t_call own8 rfl rfl rfl rfl (known_c _) (fun v173 w174 r176 => ?_)))
  obtain ⟨rfl, u175⟩ := r176
  have zu175 := u175.size
  refine t_pick_t rfl rfl rfl rfl (t_assign rfl rfl rfl (t_nil' (hK166 _ _ (c_ret (f_ret1 (v := .bool true) results7 rfl ?_)))))
  exact ⟨rfl, ((E127.nx u170).nx u175)⟩
 have zu108 := u108.size
 obtain ⟨⟨hslE, heS⟩, hsfN⟩ := short_B hSlR h0 hBk105
 obtain ⟨hspE, heP⟩ := hS1 hsfN
 have hsp0 : spS.length = 0 := by rw [hspE]; rfl
 have hsl9 : slS.length ≤ 8 := by
   obtain ⟨m9, hm9, hf9, _⟩ := hBk105
   obtain ⟨ns9, _, hl9, he9⟩ := mem_ch.1 (fs_some hf9).1
   rw [hslE, he9]; show (ns9.map _).length ≤ 8; rw [List.length_map]; omega
 refine t_move rfl rfl rfl (t_extract rfl rfl rfl rfl (t_extract rfl rfl rfl rfl (t_assign rfl rfl rfl (t_assign rfl rfl rfl (t_nil' (hK103 _ _ (c_seq fun K179 hK179 => (c_region (t_move rfl rfl rfl (t_nil' (hK179 _ _ (c_cond_t rfl (c_seq fun K180 hK180 => (c_region (t_move rfl rfl rfl (t_cmp rfl rfl rfl rfl rfl (t_same 79 (v := .bool true) rfl (congrArg Value.bool (decide_eq_true (by omega))) (t_move rfl rfl rfl (t_move rfl rfl rfl (t_move rfl rfl rfl ?_))))))))))))))))))))
 have D181 := ((((((hSl.kE u55).kE u61).kE u67).kE u73).kE u80).kE u108)
 refine t_call own40 rfl rfl rfl rfl ((equal_c slS aoS gS 0 cpS lk105 aok105 gk105 ok105 ck105 _ D181 hSk105 (by omega)).mono fun v w9 h9 => (⟨h9.1.trans (congrArg Value.bool (decide_eq_true hslE)), h9.2⟩ : v = .bool true ∧ Ext w107 w9)) (fun v182 w183 r185 => ?_)
 obtain ⟨rfl, u184⟩ := r185
 have zu184 := u184.size
 refine t_pick_t rfl rfl rfl rfl (t_move rfl rfl rfl (t_move rfl rfl rfl (t_cmp rfl rfl rfl rfl rfl (t_same 87 (v := .bool true) rfl (congrArg Value.bool (decide_eq_true (by omega))) (t_pick_t rfl rfl rfl rfl (t_move rfl rfl rfl (t_move rfl rfl rfl (t_len underlying60 rfl rfl rfl rfl (t_cmp rfl rfl rfl rfl rfl (t_same 92 (v := .bool true) rfl (congrArg Value.bool (decide_eq_true (by omega))) (t_pick_t rfl rfl rfl rfl (t_move rfl rfl rfl (t_call own8 rfl rfl rfl rfl (known_c _) (fun v187 w188 r190 => ?_))))))))))))))
 obtain ⟨rfl, u189⟩ := r190
 have zu189 := u189.size
 refine t_pick_t rfl rfl rfl rfl (t_assign rfl rfl rfl (t_nil' (hK180 _ _ (c_ret (f_ret1 (v := .bool true) results7 rfl ?_)))))
 exact ⟨rfl, (((E93.nx u108).nx u184).nx u189)⟩

end Go.Proofs.YtagmodjadmecdaaGreat
namespace Go.Proofs.YtagmodjadmecdaaGreat
open Go Go.ChangeShapes Go.WideShapes Go.ChangeAt Go.RowKit
set_option linter.unusedVariables false
theorem rd3 {H : Type} {enc : TypeId × Value → H} {w : World} {cs : List Value} (h : Rd enc Tryz.prog w 3 cs) : ∃ (n0 : Int), cs = [.int .i64 n0] ∧ ((-9223372036854775808 ≤ n0 ∧ n0 ≤ 9223372036854775807)) := h.int Tryz.underlying3
theorem rd23 {H : Type} {enc : TypeId × Value → H} {w : World} {cs : List Value} (h : Rd enc Tryz.prog w 23 cs) : ∃ (n0 : Int) (n1 : Int) (n2 : Int) (n3 : Int) (n4 : Int), cs = [.int .i64 n0, .int .i64 n1, .int .i64 n2, .int .i64 n3, .int .i64 n4] ∧ ((-9223372036854775808 ≤ n0 ∧ n0 ≤ 9223372036854775807)) ∧ ((-9223372036854775808 ≤ n1 ∧ n1 ≤ 9223372036854775807)) ∧ ((-9223372036854775808 ≤ n2 ∧ n2 ≤ 9223372036854775807)) ∧ ((-9223372036854775808 ≤ n3 ∧ n3 ≤ 9223372036854775807)) ∧ ((-9223372036854775808 ≤ n4 ∧ n4 ≤ 9223372036854775807)) := by
  have hl : cs.length = 5 := (h.struct Tryz.underlying23).1.trans (by kernel_rfl)
  obtain ⟨n0_0, e0, r0_0⟩ := rd3 (h.fld Tryz.underlying23 0 rfl rfl rfl (by kernel_rfl : _ = 1))
  obtain ⟨n0_1, e1, r0_1⟩ := rd3 (h.fld Tryz.underlying23 1 rfl rfl rfl (by kernel_rfl : _ = 1))
  obtain ⟨n0_2, e2, r0_2⟩ := rd3 (h.fld Tryz.underlying23 2 rfl rfl rfl (by kernel_rfl : _ = 1))
  obtain ⟨n0_3, e3, r0_3⟩ := rd3 (h.fld Tryz.underlying23 3 rfl rfl rfl (by kernel_rfl : _ = 1))
  obtain ⟨n0_4, e4, r0_4⟩ := rd3 (h.fld Tryz.underlying23 4 rfl rfl rfl (by kernel_rfl : _ = 1))
  match cs, hl, e0, e1, e2, e3, e4 with
  | [c0, c1, c2, c3, c4], _, e0, e1, e2, e3, e4 =>
    simp at e0 e1 e2 e3 e4
    obtain rfl := e0
    obtain rfl := e1
    obtain rfl := e2
    obtain rfl := e3
    obtain rfl := e4
    exact ⟨n0_0, n0_1, n0_2, n0_3, n0_4, rfl, r0_0, r0_1, r0_2, r0_3, r0_4⟩
theorem rd136 {H : Type} {enc : TypeId × Value → H} {w : World} {cs : List Value} (h : Rd enc Tryz.prog w 136 cs) : ∃ (n0 : Int) (n1 : Int), cs = [.int .i64 n0, .int .i64 n1] ∧ ((-9223372036854775808 ≤ n0 ∧ n0 ≤ 9223372036854775807)) ∧ ((-9223372036854775808 ≤ n1 ∧ n1 ≤ 9223372036854775807)) := by
  have hl : cs.length = 2 := (h.struct Tryz.underlying136).1.trans (by kernel_rfl)
  obtain ⟨n0_0, e0, r0_0⟩ := rd3 (h.fld Tryz.underlying136 0 rfl rfl rfl (by kernel_rfl : _ = 1))
  obtain ⟨n0_1, e1, r0_1⟩ := rd3 (h.fld Tryz.underlying136 1 rfl rfl rfl (by kernel_rfl : _ = 1))
  match cs, hl, e0, e1 with
  | [c0, c1], _, e0, e1 =>
    simp at e0 e1
    obtain rfl := e0
    obtain rfl := e1
    exact ⟨n0_0, n0_1, rfl, r0_0, r0_1⟩
theorem rd77 {H : Type} {enc : TypeId × Value → H} {w : World} {cs : List Value} (h : Rd enc Tryz.prog w 77 cs) : ∃ (xs0 : List Ppr) (ao0 : Option Addr) (b0 : Nat) (o0 : Nat) (cp0 : Nat), cs = [.slice ao0 xs0.length cp0] ∧ (xs0.length ≤ cp0 ∧ cp0 ≤ maxLen ∧ Sl encPpr 2 w ao0 b0 o0 xs0 ∧ ∀ x ∈ xs0, True) := by
  obtain ⟨ao, b, o, cap, xs, h1, h2, h3, h4, h5⟩ := h.sl (enc' := encPpr) (R := fun x => True) (by kernel_rfl : _ = 2) (by decide) Tryz.underlying77 (fun cs hc => by
    obtain ⟨n0, n1, e, r0, r1⟩ := rd136 hc
    exact ⟨⟨n0, n1⟩, e, trivial⟩)
  exact ⟨xs, ao, b, o, cap, h1, h2, h3, h4, h5⟩

theorem rd35 {H : Type} {enc : TypeId × Value → H} {w : World} {cs : List Value} (h : Rd enc Tryz.prog w 35 cs) : ∃ (n0 : Int) (n1 : Int), cs = [.int .i64 n0, .int .i64 n1] ∧ ((-9223372036854775808 ≤ n0 ∧ n0 ≤ 9223372036854775807)) ∧ ((-9223372036854775808 ≤ n1 ∧ n1 ≤ 9223372036854775807)) := by
  have hl : cs.length = 2 := (h.struct Tryz.underlying35).1.trans (by kernel_rfl)
  obtain ⟨n0_0, e0, r0_0⟩ := rd3 (h.fld Tryz.underlying35 0 rfl rfl rfl (by kernel_rfl : _ = 1))
  obtain ⟨n0_1, e1, r0_1⟩ := rd3 (h.fld Tryz.underlying35 1 rfl rfl rfl (by kernel_rfl : _ = 1))
  match cs, hl, e0, e1 with
  | [c0, c1], _, e0, e1 =>
    simp at e0 e1
    obtain rfl := e0
    obtain rfl := e1
    exact ⟨n0_0, n0_1, rfl, r0_0, r0_1⟩
theorem rd37 {H : Type} {enc : TypeId × Value → H} {w : World} {cs : List Value} (h : Rd enc Tryz.prog w 37 cs) : ∃ (n0 : Int) (n1 : Int) (n2 : Int) (n3 : Int), cs = [.int .i64 n0, .int .i64 n1, .int .i64 n2, .int .i64 n3] ∧ ((-9223372036854775808 ≤ n0 ∧ n0 ≤ 9223372036854775807)) ∧ ((-9223372036854775808 ≤ n1 ∧ n1 ≤ 9223372036854775807)) ∧ ((-9223372036854775808 ≤ n2 ∧ n2 ≤ 9223372036854775807)) ∧ ((-9223372036854775808 ≤ n3 ∧ n3 ≤ 9223372036854775807)) := by
  have hl : cs.length = 4 := (h.struct Tryz.underlying37).1.trans (by kernel_rfl)
  obtain ⟨n0_0, n1_0, e0, r0_0, r1_0⟩ := rd35 (h.fld Tryz.underlying37 0 rfl rfl rfl (by kernel_rfl : _ = 2))
  obtain ⟨n0_1, n1_1, e1, r0_1, r1_1⟩ := rd35 (h.fld Tryz.underlying37 1 rfl rfl rfl (by kernel_rfl : _ = 2))
  match cs, hl, e0, e1 with
  | [c0, c1, c2, c3], _, e0, e1 =>
    simp at e0 e1
    obtain ⟨rfl, rfl⟩ := e0
    obtain ⟨rfl, rfl⟩ := e1
    exact ⟨n0_0, n1_0, n0_1, n1_1, rfl, r0_0, r1_0, r0_1, r1_1⟩
theorem rd24 {H : Type} {enc : TypeId × Value → H} {w : World} {cs : List Value} (h : Rd enc Tryz.prog w 24 cs) : ∃ (xs0 : List Dty) (ao0 : Option Addr) (b0 : Nat) (o0 : Nat) (cp0 : Nat), cs = [.slice ao0 xs0.length cp0] ∧ (xs0.length ≤ cp0 ∧ cp0 ≤ maxLen ∧ Sl encDty 4 w ao0 b0 o0 xs0 ∧ ∀ x ∈ xs0, True) := by
  obtain ⟨ao, b, o, cap, xs, h1, h2, h3, h4, h5⟩ := h.sl (enc' := encDty) (R := fun x => True) (by kernel_rfl : _ = 4) (by decide) Tryz.underlying24 (fun cs hc => by
    obtain ⟨n0, n1, n2, n3, e, r0, r1, r2, r3⟩ := rd37 hc
    exact ⟨⟨n0, n1, n2, n3⟩, e, trivial⟩)
  exact ⟨xs, ao, b, o, cap, h1, h2, h3, h4, h5⟩

theorem rd79 {H : Type} {enc : TypeId × Value → H} {w : World} {cs : List Value} (h : Rd enc Tryz.prog w 79 cs) : ∃ (n0 : Int) (n1 : Int) (xs2 : List Ppr) (ao2 : Option Addr) (b2 : Nat) (o2 : Nat) (cp2 : Nat) (xs3 : List Dty) (ao3 : Option Addr) (b3 : Nat) (o3 : Nat) (cp3 : Nat), cs = [.int .i64 n0, .int .i64 n1, .slice ao2 xs2.length cp2, .slice ao3 xs3.length cp3] ∧ ((-9223372036854775808 ≤ n0 ∧ n0 ≤ 9223372036854775807)) ∧ ((-9223372036854775808 ≤ n1 ∧ n1 ≤ 9223372036854775807)) ∧ (xs2.length ≤ cp2 ∧ cp2 ≤ maxLen ∧ Sl encPpr 2 w ao2 b2 o2 xs2 ∧ ∀ x ∈ xs2, True) ∧ (xs3.length ≤ cp3 ∧ cp3 ≤ maxLen ∧ Sl encDty 4 w ao3 b3 o3 xs3 ∧ ∀ x ∈ xs3, True) := by
  have hl : cs.length = 4 := (h.struct Tryz.underlying79).1.trans (by kernel_rfl)
  obtain ⟨n0_0, e0, r0_0⟩ := rd3 (h.fld Tryz.underlying79 0 rfl rfl rfl (by kernel_rfl : _ = 1))
  obtain ⟨n0_1, e1, r0_1⟩ := rd3 (h.fld Tryz.underlying79 1 rfl rfl rfl (by kernel_rfl : _ = 1))
  obtain ⟨xs0_2, ao0_2, b0_2, o0_2, cp0_2, e2, r0_2⟩ := rd77 (h.fld Tryz.underlying79 2 rfl rfl rfl (by kernel_rfl : _ = 1))
  obtain ⟨xs0_3, ao0_3, b0_3, o0_3, cp0_3, e3, r0_3⟩ := rd24 (h.fld Tryz.underlying79 3 rfl rfl rfl (by kernel_rfl : _ = 1))
  match cs, hl, e0, e1, e2, e3 with
  | [c0, c1, c2, c3], _, e0, e1, e2, e3 =>
    simp at e0 e1 e2 e3
    obtain rfl := e0
    obtain rfl := e1
    obtain rfl := e2
    obtain rfl := e3
    exact ⟨n0_0, n0_1, xs0_2, ao0_2, b0_2, o0_2, cp0_2, xs0_3, ao0_3, b0_3, o0_3, cp0_3, rfl, r0_0, r0_1, r0_2, r0_3⟩
theorem rd54 {H : Type} {enc : TypeId × Value → H} {w : World} {cs : List Value} (h : Rd enc Tryz.prog w 54 cs) : ∃ (xs0 : List HS) (ao0 : Option Addr) (b0 : Nat) (o0 : Nat) (cp0 : Nat), cs = [.slice ao0 xs0.length cp0] ∧ (xs0.length ≤ cp0 ∧ cp0 ≤ maxLen ∧ Sl encHS 4 w ao0 b0 o0 xs0 ∧ ∀ x ∈ xs0, Sl encPpr 2 w x.ap x.bp x.op x.ps ∧ x.ps.length ≤ 9223372036854775807 ∧ Sl encDty 4 w x.ad x.bd x.od x.ds ∧ x.ds.length ≤ 9223372036854775807) := by
  obtain ⟨ao, b, o, cap, xs, h1, h2, h3, h4, h5⟩ := h.sl (enc' := encHS) (R := fun x => Sl encPpr 2 w x.ap x.bp x.op x.ps ∧ x.ps.length ≤ 9223372036854775807 ∧ Sl encDty 4 w x.ad x.bd x.od x.ds ∧ x.ds.length ≤ 9223372036854775807) (by kernel_rfl : _ = 4) (by decide) Tryz.underlying54 (fun cs hc => by
    obtain ⟨n0, n1, xs2, ao2, b2, o2, cp2, xs3, ao3, b3, o3, cp3, e, r0, r1, r2, r3⟩ := rd79 hc
    exact ⟨⟨n0, n1, xs2, ao2, b2, o2, cp2, xs3, ao3, b3, o3, cp3⟩, e, r2.2.2.1, Nat.le_trans r2.1 r2.2.1, r3.2.2.1, Nat.le_trans r3.1 r3.2.1⟩)
  exact ⟨xs, ao, b, o, cap, h1, h2, h3, h4, h5⟩

theorem rd68 {H : Type} {enc : TypeId × Value → H} {w : World} {cs : List Value} (h : Rd enc Tryz.prog w 68 cs) : ∃ (n0 : Int) (n1 : Int) (n2 : Int) (n3 : Int) (n4 : Int) (n5 : Int) (n6 : Int), cs = [.int .i64 n0, .int .i64 n1, .int .i64 n2, .int .i64 n3, .int .i64 n4, .int .i64 n5, .int .i64 n6] ∧ ((-9223372036854775808 ≤ n0 ∧ n0 ≤ 9223372036854775807)) ∧ ((-9223372036854775808 ≤ n1 ∧ n1 ≤ 9223372036854775807)) ∧ ((-9223372036854775808 ≤ n2 ∧ n2 ≤ 9223372036854775807)) ∧ ((-9223372036854775808 ≤ n3 ∧ n3 ≤ 9223372036854775807)) ∧ ((-9223372036854775808 ≤ n4 ∧ n4 ≤ 9223372036854775807)) ∧ ((-9223372036854775808 ≤ n5 ∧ n5 ≤ 9223372036854775807)) ∧ ((-9223372036854775808 ≤ n6 ∧ n6 ≤ 9223372036854775807)) := by
  have hl : cs.length = 7 := (h.struct Tryz.underlying68).1.trans (by kernel_rfl)
  obtain ⟨n0_0, e0, r0_0⟩ := rd3 (h.fld Tryz.underlying68 0 rfl rfl rfl (by kernel_rfl : _ = 1))
  obtain ⟨n0_1, n1_1, n2_1, n3_1, e1, r0_1, r1_1, r2_1, r3_1⟩ := rd37 (h.fld Tryz.underlying68 1 rfl rfl rfl (by kernel_rfl : _ = 4))
  obtain ⟨n0_2, e2, r0_2⟩ := rd3 (h.fld Tryz.underlying68 2 rfl rfl rfl (by kernel_rfl : _ = 1))
  obtain ⟨n0_3, e3, r0_3⟩ := rd3 (h.fld Tryz.underlying68 3 rfl rfl rfl (by kernel_rfl : _ = 1))
  match cs, hl, e0, e1, e2, e3 with
  | [c0, c1, c2, c3, c4, c5, c6], _, e0, e1, e2, e3 =>
    simp at e0 e1 e2 e3
    obtain rfl := e0
    obtain ⟨rfl, rfl, rfl, rfl⟩ := e1
    obtain rfl := e2
    obtain rfl := e3
    exact ⟨n0_0, n0_1, n1_1, n2_1, n3_1, n0_2, n0_3, rfl, r0_0, r0_1, r1_1, r2_1, r3_1, r0_2, r0_3⟩
theorem rd55 {H : Type} {enc : TypeId × Value → H} {w : World} {cs : List Value} (h : Rd enc Tryz.prog w 55 cs) : ∃ (xs0 : List Leg) (ao0 : Option Addr) (b0 : Nat) (o0 : Nat) (cp0 : Nat), cs = [.slice ao0 xs0.length cp0] ∧ (xs0.length ≤ cp0 ∧ cp0 ≤ maxLen ∧ Sl encLeg 7 w ao0 b0 o0 xs0 ∧ ∀ x ∈ xs0, True) := by
  obtain ⟨ao, b, o, cap, xs, h1, h2, h3, h4, h5⟩ := h.sl (enc' := encLeg) (R := fun x => True) (by kernel_rfl : _ = 7) (by decide) Tryz.underlying55 (fun cs hc => by
    obtain ⟨n0, n1, n2, n3, n4, n5, n6, e, r0, r1, r2, r3, r4, r5, r6⟩ := rd68 hc
    exact ⟨⟨n0, ⟨n1, n2, n3, n4⟩, n5, n6⟩, e, trivial⟩)
  exact ⟨xs, ao, b, o, cap, h1, h2, h3, h4, h5⟩



theorem ownCrewShorts : ownKnob Tryz.prog.godebug = none := by kernel_rfl
theorem laidOutCrewShorts : laidOutB Tryz.prog = true := by kernel_rfl
set_option maxHeartbeats 1000000 in
set_option maxRecDepth 100000 in
theorem liftedCrewShorts (os : Os) (started : os.Started) (H : Type) (enc : TypeId × Value → H) :
    ReturnsInHanded {} Tryz.checked os 7 .any (Rows.crewShortsSpec.pre6 enc Tryz.prog Tryz.f7 Rows.crewShortsRow.domain false) (Rows.crewShortsSpec.post enc Tryz.prog Tryz.f7 false true false false) := by
  refine returnsInHanded_of_change (C := Tryz.checked) ownCrewShorts started (by kernel_rfl) Tryz.func7
    (ChangeSpec.witness6 (enc := enc) (C := Tryz.checked) false ⟨#[], #[.agg #[.int .i64 0, .int .i64 0, .int .i64 0, .int .i64 0, .int .i64 0], .slice none 0 0, .slice none 0 0], []⟩ 8 (by kernel_rfl) (by kernel_rfl) (by kernel_rfl) (by kernel_rfl)) ?_
  intro W base args ds gs before hval0 hW hcnd _
  have hval : ∀ (j : Nat) t v, Tryz.f7.params[j]? = some t → args[j]? = some v → Value.okWide Tryz.prog W .any base t v := hval0
  have hW' := hW
  obtain ⟨p, q, hA0, hV, rfl, hfz, hnd⟩ := hW
  have hA : DataW.TrodAll enc Tryz.prog W 0 (fun _ => true) true Tryz.f7.params.toList args.toList ds p := hA0
  rw [Tryz.params7] at hA hval
  obtain ⟨v0, vs0, d0, ds0, p0, q0, hargs, rfl, rfl, h0, r0⟩ := trodAll_cons hA
  obtain ⟨v1, vs1, d1, ds1, p1, q1, rfl, rfl, rfl, h1, r1⟩ := trodAll_cons r0
  obtain ⟨v2, vs2, d2, ds2, p2, q2, rfl, rfl, rfl, h2, r2⟩ := trodAll_cons r1
  obtain ⟨rfl, rfl, rfl⟩ := trodAll_nil r2
  obtain rfl : args = #[v0, v1, v2] := by cases args; simp_all
  obtain ⟨rfl, rfl⟩ := trodVars_none hV
  have k0 := h0
  have lt0 : ∀ x ∈ p0, x.block < W.heap.size := by obtain ⟨m, hm⟩ := k0; exact DataW.trod_lt m _ _ _ hm
  obtain ⟨cs0, rfl, -⟩ := okWide_struct Tryz.underlying23 (hval 0 23 v0 rfl rfl)
  obtain ⟨n0_p0, n1_p0, n2_p0, n3_p0, n4_p0, ce0, f0_p0, f1_p0, f2_p0, f3_p0, f4_p0⟩ := rd23 (Rd.of h0)
  obtain rfl : cs0 = #[.int .i64 n0_p0, .int .i64 n1_p0, .int .i64 n2_p0, .int .i64 n3_p0, .int .i64 n4_p0] := by cases cs0; simpa [Value.cells] using ce0
  have k1 := h1
  have lt1 : ∀ x ∈ p1, x.block < W.heap.size := by obtain ⟨m, hm⟩ := k1; exact DataW.trod_lt m _ _ _ hm
  obtain ⟨aa1, ll1, cc1, rfl⟩ := okWide_slice Tryz.underlying54 (hval 1 54 v1 rfl rfl)
  obtain ⟨xs0_p1, ao0_p1, b0_p1, o0_p1, cp0_p1, ce1, f0_p1⟩ := rd54 (Rd.of h1)
  simp [Value.cells] at ce1
  obtain ⟨cx1, cy1, cz1⟩ := ce1
  subst cy1
  obtain rfl := cx1.symm
  obtain rfl := cz1.symm
  have k2 := h2
  have lt2 : ∀ x ∈ p2, x.block < W.heap.size := by obtain ⟨m, hm⟩ := k2; exact DataW.trod_lt m _ _ _ hm
  obtain ⟨aa2, ll2, cc2, rfl⟩ := okWide_slice Tryz.underlying55 (hval 2 55 v2 rfl rfl)
  obtain ⟨xs0_p2, ao0_p2, b0_p2, o0_p2, cp0_p2, ce2, f0_p2⟩ := rd55 (Rd.of h2)
  simp [Value.cells] at ce2
  obtain ⟨cx2, cy2, cz2⟩ := ce2
  subst cy2
  obtain rfl := cx2.symm
  obtain rfl := cz2.symm
  clear hA0 hval0
  refine Calls.mono (CrewShorts_c ⟨n0_p0, n1_p0, n2_p0, n3_p0, n4_p0⟩ xs0_p1 ao0_p1 b0_p1 o0_p1 cp0_p1 xs0_p2 ao0_p2 b0_p2 o0_p2 cp0_p2 W f0_p1.2.2.1 (Nat.le_trans f0_p1.1 f0_p1.2.1) f0_p1.2.2.2 f0_p2.2.2.1 (Nat.le_trans f0_p2.1 f0_p2.2.1)) fun e W' hv => ?_
  obtain ⟨v, rfl, rfl, ext⟩ := hv
  have bel := Ext.below ext
  exact ⟨_, rfl, _, _, _, [], _, [], hW', trodAll_mk1 (shut_bool Tryz.underlying4 _), (trodAll_cons_mk (Below.trod laidOutCrewShorts (by kernel_rfl) (of_decide_eq_true (by kernel_rfl)) k0 bel lt0) (trodAll_cons_mk (Below.trod laidOutCrewShorts (by kernel_rfl) (of_decide_eq_true (by kernel_rfl)) k1 bel lt1) (trodAll_cons_mk (Below.trod laidOutCrewShorts (by kernel_rfl) (of_decide_eq_true (by kernel_rfl)) k2 bel lt2) trodAll_mk0))), rfl, bel.frame _, fun h => by cases h⟩

theorem overCrewShorts : Rows.crewShortsRow.holds Tryz.pinned (OpenSpec.ofChange Rows.crewShortsSpec) :=
  OpenClaim.holds_of_wide 7 Tryz.f7 rfl rfl rfl rfl rfl rfl rfl ⟨rfl, rfl, rfl, rfl, rfl⟩ rfl rfl rfl rfl rfl (by kernel_rfl) Tryz.func7 (by kernel_rfl)
    (of_decide_eq_true (by kernel_rfl)) (by unfold Func.isWrapper; first | (rw [if_pos (by decide +kernel)]; kernel_rfl) | (rw [if_neg (by decide +kernel)]; exact ⟨rfl, rfl⟩))
    (fun os started H enc _ => liftedCrewShorts os started H enc)
theorem provedCrewShorts : Rows.CrewShortsSaid := overCrewShorts
#print axioms provedCrewShorts
end Go.Proofs.YtagmodjadmecdaaGreat
