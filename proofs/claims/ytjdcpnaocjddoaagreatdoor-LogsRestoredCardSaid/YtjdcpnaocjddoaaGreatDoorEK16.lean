/-
  Part 16 of the proof: contracts and plain laws. Conditions: none.
-/
import Derived.Test.YtjdcpnaocjddoaaGreatDoorRows
import Derived.Handed
import Derived.LaidLaws
import Derived.Lib.LaidTab
import Derived.Test.YtjdcpnaocjddoaaGreatDoorEK15
namespace Go.Proofs.YtjdcpnaocjddoaaGreatDoor
open Go Go.RowKit Go.Proofs.Tryz
set_option maxHeartbeats 4000000 in
theorem LogsRestored_c (l : List Ent) (al : Option Addr) (bl ol cl : Nat) (ds : List UInt8) (ad : Option Addr) (bd od cd : Nat) (z : UInt8) (w0 : World) (hl : Sl encEnt 6 w0 al bl ol l) (hd : Sl encY 1 w0 ad bd od ds) (hT : Tab10 w0) (hpos : 0 < w0.heap.size) :
    CallsV Tryz.prog 7 [.slice al l.length cl, .slice ad ds.length cd, .int .u8 (z.toNat : Int)] w0 (fun v w' => v = .bool true ∧ Ext w0 w') := by
 have E0 := Sc.mk (Upd.refl (fun _ => False) w0)
 refine f_n func7 ?_
 refine go ?_
 refine q_p (fun g27 => ?_) fun g27 => ?_
 ·
  refine go ?_
  refine x_c func13 rfl rfl (known_c _ (hT.ext E0.u) (by omega)) ?_
  rintro _ w6 ⟨rfl, u7⟩ zu7
  refine go ?_
  refine f_1 results7 ?_
  exact ⟨rfl, u_d⟩
 refine go ?_
 refine x_c func14 rfl rfl (entries_c l al bl ol cl _ hl (by omega) (by omega)) ?_
 rintro _ w13 ⟨⟨ae11, ge11, ce11, rfl, hFe11⟩, u14⟩ zu14
 have lt_ge11 := hFe11.lt
 refine x_c func15 rfl rfl (WriteV_c l ae11 ge11 0 ce11 _ (hFe11.sl (fun _ => rfl)) (by omega) (by omega)) ?_
 rintro _ w18 ⟨⟨v, aL, gL, cL, rfl, hFL, hv⟩, u19⟩ zu19
 have E21 := Sc.mk ((E0.u.nx u14).nx u19)
 have lt_gL := hFL.lt
 refine go ?_
 refine q_p (fun g36 => ?_) fun g36 => ?_
 ·
  have hne0 : ¬ chkE l = 0 := by omega
  rw [if_neg hne0] at hv
  have hb0 : (bytesP v).length = 0 := by rw [hv]; rfl
  iterate 5 refine st1 ?_
  refine t_same 39 (v := .bool true) rfl (congrArg Value.bool (decide_eq_true (by omega))) ?_
  refine go ?_
  refine x_c func13 rfl rfl (known_c _ (hT.ext E21.u) (by omega)) ?_
  rintro _ w26 ⟨rfl, u27⟩ zu27
  refine go ?_
  refine f_1 results7 ?_
  exact ⟨rfl, u_d⟩
 have hok0 : chkE l = 0 := by omega
 rw [if_pos hok0] at hv
 obtain ⟨hgd, hfew⟩ := fill_good (tapeP l)
 have hvf : v = fillP (tapeP l) := hv
 rw [← hvf] at hgd hfew
 have htl := tapeP_len hok0
 have hbv := bytesP_len v
 have hn2 := hgd.two
 have hn5 := hgd.mod
 have hn13 : v.length ≤ 1300 := by omega
 have hcL := hFL.cap_le
 refine go ?_
 refine t_quo rfl rfl rfl rfl (by omega) (by omega) (t_same 45 (v := .int .i64 (v.length : Int)) rfl (congrArg (Value.int .i64) (by omega)) ?_)
 iterate 8 refine st1 ?_
 refine t_same 47 (v := .bool false) rfl (congrArg Value.bool (decide_eq_false (by omega))) ?_
 refine go ?_
 refine t_rem rfl rfl rfl rfl (by omega) (by omega) ?_
 refine st1 ?_
 refine t_same 52 (v := .bool false) rfl (congrArg Value.bool (decide_eq_false (by omega))) ?_
 refine go ?_
 refine t_rem rfl rfl rfl rfl (by omega) (by omega) ?_
 refine st1 ?_
 refine t_same 57 (v := .bool false) rfl (congrArg Value.bool (decide_eq_false (by omega))) ?_
 refine go ?_
 refine x_l fun bk34 w35 ebk34 sbk34 B36 u37 => ?_
 refine go ?_
 have D39 := (hFL.keep u37 (fun _ h => h))
 refine t_copy (enc := encY) (z := .int .u8 0) (bytes := 1) (k := 1) (ys := (bytesP v)) underlying25 (by kernel_rfl) rfl (by decide) (fun _ => rfl) (by intro x; simp [encY, Value.oneCell']) rfl rfl rfl rfl B36 (D39.sl (fun _ => rfl)) (by omega) (by decide) (fun ao40 gb41 cp42 w43 A44 u45 gegb41 => ?_)
 have zu45 := u45.size
 have lt_gb41 := A44.lt
 refine x_l fun bk47 w48 ebk47 sbk47 B49 u50 => ?_
 refine go ?_
 have D54 := (A44.keep u50 (fun _ h => h))
 refine x_l4 (fun i => i = bk47 ∨ (i = gb41 ∧ bk34 ≤ i) ∨ w48.heap.size ≤ i) [1, 2, 7, 9] (fun (f : Nat) (U : List Bk) (ks : List Nat) (q : (Option Addr × Nat × Nat)) => [(10, .slice ao40 ((bytesP v).length) cp42), (11, .slice q.1 ((nats ks).length) q.2.2), (12, .int .i64 (lowI ks)), (13, .int .i64 (f : Int))]) (fun f U ks q w => (f % 5 = 0) ∧ (f ≤ v.length + 4) ∧ (Acc encY 1 5 bk34 w ao40 gb41 cp42 (bytesP U)) ∧ (Acc encI 1 3 bk47 w q.1 q.2.1 q.2.2 (nats ks)) ∧ (q.2.1 = bk47 ∨ w48.heap.size ≤ q.2.1) ∧ (Dmg v U f ks) ∧ (ks.length ≤ f)) (fun f U ks q => v.length + 5 - f) 0 v ([]) (some ⟨bk47, 0, none⟩, bk47, 0) ⟨rfl, (Nat.zero_le _), D54, (Acc.ofBlk (xs := ([] : List Int)) encI 1 (fun _ => rfl) B49 (Nat.le_refl _) (by decide)), (.inl rfl), (Dmg.nil v), (Nat.le_refl _)⟩ ?_
 rintro f U ks q w56 ⟨hf5, hfl, hB, hA, hqW, hD, hkl⟩ u57 zu57 K55 hK55
 have E58 := Sc.mk ((((E21.u.nx u37).next u45 (fun i hi h => by omega)).nx u50).next u57 (fun i hi h => by omega))
 have lt_gb41 := hB.lt
 have lt_q_2_1 := hA.lt
 have hgl := hA.lt
 have hnl := nats_len ks
 have hcB := hB.cap_le
 refine go ?_
 refine q_p (fun g65 => ?_) fun g65 => ?_
 ·
  have hUl := hD.len
  have hbU := bytesP_len U
  obtain ⟨mn, hmn⟩ : ∃ m, m = min 5 (v.length - f) := ⟨_, rfl⟩
  obtain ⟨t9, ht9⟩ : ∃ t, t = f + (partP ds f).toNat % (mn + 1) := ⟨_, rfl⟩
  have htb := Nat.mod_lt (partP ds f).toNat (show 0 < mn + 1 by omega)
  have hti : ((partP ds f).toNat : Int) % ((mn : Int) + 1) = (((partP ds f).toNat % (mn + 1) : Nat) : Int) := (Int.natCast_emod _ _).symm
  have hpr := (partP ds f).toNat_lt
  have hpr1 := (partP ds (f + 1)).toNat_lt
  have hpr2 := (partP ds (f + 2)).toNat_lt
  obtain ⟨bt, hbt⟩ : ∃ b, b = (partP ds (f + 1)).toNat % 64 := ⟨_, rfl⟩
  obtain ⟨dl, hdl⟩ : ∃ d : UInt8, d = UInt8.ofNat (1 + (partP ds (f + 2)).toNat % 255) := ⟨_, rfl⟩
  have hdv : (dl.toNat : Int) = 1 + ((partP ds (f + 2)).toNat : Int) % 255 := by rw [hdl, u8_ofN (by omega)]; omega
  refine go ?_
  refine t_min rfl rfl rfl rfl (t_same 71 (v := .int .i64 (mn : Int)) rfl (congrArg (Value.int .i64) (by omega)) ?_)
  refine go ?_
  refine x_c func30 rfl rfl (part_c ds ad bd od cd f _ (hd.keep E58.u (fun _ h => h))) ?_
  rintro _ w65 ⟨rfl, u66⟩ zu66
  have E68 := Sc.mk (E58.u.nx u66)
  refine t_conv underlying5 underlying3 rfl rfl rfl (IntWalk.i64_in _ (by omega)) ?_
  refine go ?_
  refine t_rem rfl rfl rfl rfl (by omega) (by omega) ?_
  refine st1 ?_
  refine t_same 80 (v := .int .i64 (t9 : Int)) rfl (congrArg (Value.int .i64) (by rw [hti, ht9]; omega)) ?_
  refine go ?_
  refine q_p (fun g85 => ?_) fun g85 => ?_
  ·
   refine go ?_
   have D71 := (hB.keep u66 (fun _ h => h))
   have D72 := (hA.keep u66 (fun _ h => h))
   exact hK55 (f + 5) U ks q ⟨(by omega), (by omega), D71, D72, (show q.2.1 = bk47 ∨ w48.heap.size ≤ q.2.1 by omega), (hD.mono (by omega)), (by omega)⟩ (hs := by exact ⟨rfl, (by first | rfl | (rw [← nats_snoc]; rfl)), (congrArg (fun z => some (Value.int .i64 z)) (by first | rfl | (rw [lowI_neg g153]; rfl) | rw [lowI_app g153])), rfl, rfl, rfl, rfl, rfl, trivial⟩)
  have ht9l : t9 < v.length := by omega
  have ht9f : f ≤ t9 ∧ t9 < f + 5 := by omega
  have hsm := hD.same ht9f.1 ht9l
  have hsd := hgd.ok t9 ht9l
  have hsu : (nth U t9).l.drop 30 = chkP (nth U t9).l t9 := by rw [hsm]; exact hsd
  iterate 6 refine st1 ?_
  refine t_same 87 (v := .int .i64 ((32 * t9 : Nat) : Int)) rfl (congrArg (Value.int .i64) (by omega)) ?_
  iterate 3 refine st1 ?_
  refine x_k1 (fun i => (i = gb41 ∧ bk34 ≤ i)) [1, 2, 7, 9, 10, 11, 12, 13, 15] (fun (c : Bk) => []) (fun c w => (Acc encY 1 5 bk34 w ao40 gb41 cp42 (bytesP (U.set t9 c))) ∧ (¬ c.l.drop 30 = chkP c.l t9)) (fun K78 hK78 => ?_) ?_
  ·
   iterate 5 refine st1 ?_
   refine t_same 90 (v := .int .i64 ((f + 1 : Nat) : Int)) rfl (congrArg (Value.int .i64) (by omega)) ?_
   refine x_c func30 rfl rfl (part_c ds ad bd od cd (f + 1) _ (hd.keep E68.u (fun _ h => h))) ?_
   rintro _ w83 ⟨rfl, u84⟩ zu84
   refine t_conv underlying5 underlying3 rfl rfl rfl (IntWalk.i64_in _ (by omega)) (t_rem rfl rfl rfl rfl (by omega) (by omega) (t_same 93 (v := .int .i64 (bt : Int)) rfl (congrArg (Value.int .i64) (by omega)) ?_))
   refine go ?_
   refine q_p (fun g95 => ?_) fun g95 => ?_
   ·
    refine c_drawnM follows (fun i => i = gb41) (.look 0 (.look 1 (.look 2 (.look 3 (.look 4 (.look 6 (.look 7 (.look 8 (.act 5 (.act 9 (.look 10 (.look 11 (.look 12 (.look 13 (.act 14 .done .stop))))) .stop) (.act 9 (.look 10 (.look 11 (.act 5 (.look 12 (.look 13 (.act 14 .done .stop))) .stop))) .stop)))))))))) (by kernel_rfl) fun w88 u89 => ?_
    have zu89 := u89.size
    have E90 := Sc.mk ((E68.u.nx u84).nx u89)
    refine go ?_
    have D91 := (((hB.keep u66 (fun _ h => h)).keep u84 (fun _ h => h)).keep u89 (fun _ h => h))
    refine y_i (32 * t9 + bt) (D91.sl (fun _ => rfl)) (fun _ => ?_) (hj := (by omega))
    iterate 3 refine st1 ?_
    refine y_same 104 (v := .int .i64 ((f + 2 : Nat) : Int)) rfl (congrArg (Value.int .i64) (by omega)) (s_or ?_ ?_)
    ·
     refine go ?_
     refine x_c func30 rfl rfl (part_c ds ad bd od cd (f + 2) _ (hd.keep E90.u (fun _ h => h))) ?_
     rintro _ w94 ⟨rfl, u95⟩ zu95
     refine go ?_
     refine y_rem8 rfl rfl rfl rfl (by omega) (by omega) (y_bo (Bo.ari8 rfl (by omega)) rfl rfl rfl rfl (y_same 107 (v := .int .u8 (dl.toNat : Int)) rfl (congrArg (Value.int .u8) (by omega)) (y_bo (Bo.xor8 (nth (bytesP U) (32 * t9 + bt)) dl) rfl rfl rfl rfl ?_)))
     have D98 := (((hB.keep u66 (fun _ h => h)).keep u84 (fun _ h => h)).keep u89 (fun _ h => h))
     refine y_i (32 * t9 + bt) (D98.sl (fun _ => rfl)) (fun _ => ?_) (hj := (by omega))
     refine go ?_
     have D100 := (D91.keep u95 (fun _ h => h))
     refine t_storeA (vs := [.int .u8 (((nth (bytesP U) (32 * t9 + bt)) ^^^ dl).toNat : Int)]) (j := (32 * t9 + bt)) (o' := 0) (k := 1) ((nth (bytesP U) (32 * t9 + bt)) ^^^ dl) (fun _ => rfl) sizeOf5 rfl rfl (by omega) rfl D100 (by first | omega | (simp only [List.length_set, eRuns_len]; omega)) rfl rfl (by decide) (by simp [Value.oneCell']) rfl (fun w101 R103 u102 => ?_)
     have zu102 := u102.size
     refine go ?_
     have hd0 : dl ≠ 0 := by intro e; rw [e] at hdv; have h9 : ((0 : UInt8).toNat : Int) = 0 := rfl; omega
     exact hK78 ((nth U t9).put bt (nth (bytesP U) (32 * t9 + bt) ^^^ dl)) ⟨(by rw [← bytesP_put _ U t9 bt (by omega) (by omega)]; exact R103), (bad_put hsu (by omega) (by rw [bytesP_nth U t9 bt (by omega) (by omega)]; exact xor_ne hd0))⟩
    refine go ?_
    refine x_c func30 rfl rfl (part_c ds ad bd od cd (f + 2) _ (hd.keep E90.u (fun _ h => h))) ?_
    rintro _ w106 ⟨rfl, u107⟩ zu107
    refine go ?_
    refine y_rem8 rfl rfl rfl rfl (by omega) (by omega) (y_bo (Bo.ari8 rfl (by omega)) rfl rfl rfl rfl (y_same 107 (v := .int .u8 (dl.toNat : Int)) rfl (congrArg (Value.int .u8) (by omega)) ?_))
    refine go ?_
    refine y_bo (Bo.xor8 (nth (bytesP U) (32 * t9 + bt)) dl) rfl rfl rfl rfl ?_
    have D110 := (((hB.keep u66 (fun _ h => h)).keep u84 (fun _ h => h)).keep u89 (fun _ h => h))
    refine y_i (32 * t9 + bt) (D110.sl (fun _ => rfl)) (fun _ => ?_) (hj := (by omega))
    refine go ?_
    have D112 := (D91.keep u107 (fun _ h => h))
    refine t_storeA (vs := [.int .u8 (((nth (bytesP U) (32 * t9 + bt)) ^^^ dl).toNat : Int)]) (j := (32 * t9 + bt)) (o' := 0) (k := 1) ((nth (bytesP U) (32 * t9 + bt)) ^^^ dl) (fun _ => rfl) sizeOf5 rfl rfl (by omega) rfl D112 (by first | omega | (simp only [List.length_set, eRuns_len]; omega)) rfl rfl (by decide) (by simp [Value.oneCell']) rfl (fun w113 R115 u114 => ?_)
    have zu114 := u114.size
    refine go ?_
    have hd0 : dl ≠ 0 := by intro e; rw [e] at hdv; have h9 : ((0 : UInt8).toNat : Int) = 0 := rfl; omega
    exact hK78 ((nth U t9).put bt (nth (bytesP U) (32 * t9 + bt) ^^^ dl)) ⟨(by rw [← bytesP_put _ U t9 bt (by omega) (by omega)]; exact R115), (bad_put hsu (by omega) (by rw [bytesP_nth U t9 bt (by omega) (by omega)]; exact xor_ne hd0))⟩
   refine go ?_
   have D119 := ((hB.keep u66 (fun _ h => h)).keep u84 (fun _ h => h))
   refine x_l1 (fun i => (i = gb41 ∧ bk34 ≤ i)) [1, 2, 7, 9, 10, 11, 12, 13, 15, 16] (fun (j : Nat) => [(18, .int .i64 (j : Int))]) (fun j w => (j ≤ 32) ∧ (Acc encY 1 5 bk34 w ao40 gb41 cp42 (bytesP (U.set t9 ((nth U t9).fil z j))))) (fun j => 32 - j) 0 ⟨(Nat.zero_le _), (by rw [fil_zero, set_self (by omega)]; exact D119)⟩ ?_
   rintro j w121 ⟨hj, hBf⟩ u122 zu122 K120 hK120
   have lt_gb41 := hBf.lt
   refine go ?_
   refine q_p (fun g111 => ?_) fun g111 => ?_
   ·
    have hbF := bytesP_len (U.set t9 ((nth U t9).fil z j))
    rw [List.length_set] at hbF
    refine go ?_
    refine g_i (32 * t9 + j) (hBf.sl (fun _ => rfl)) (fun _ => ?_) (hj := (by omega))
    refine t_storeA (vs := [.int .u8 (z.toNat : Int)]) (j := (32 * t9 + j)) (o' := 0) (k := 1) z (fun _ => rfl) sizeOf5 rfl rfl (by omega) rfl hBf (by first | omega | (simp only [List.length_set, eRuns_len]; omega)) rfl rfl (by decide) (by simp [Value.oneCell']) rfl (fun w128 R130 u129 => ?_)
    have zu129 := u129.size
    refine go ?_
    have hst9 : (bytesP (U.set t9 ((nth U t9).fil z j))).set (32 * t9 + j) z = bytesP (U.set t9 ((nth U t9).fil z (j + 1))) := by rw [bytesP_put z _ t9 j (by rw [List.length_set]; omega) (by omega), nth_setE (by omega), set_setE, fil_succ _ _ (by omega)]
    exact hK120 (j + 1) ⟨(by omega), (by rw [← hst9]; exact R130)⟩
   have hj32 : j = 32 := by omega
   subst hj32
   have hbF := bytesP_len (U.set t9 ((nth U t9).fil z 32))
   rw [List.length_set] at hbF
   have hck := ckP_nth (v := (U.set t9 ((nth U t9).fil z 32))) (k := t9) (by rw [List.length_set]; omega)
   rw [nth_setE (by omega)] at hck
   have hckv := ckP_nth (v := v) (k := t9) ht9l
   unfold ckP at hck hckv
   have hckl := congrArg List.length hck
   rw [Bk.h] at hckl
   have hckvl := congrArg List.length hckv
   rw [Bk.h] at hckvl
   have hcBf := hBf.cap_le
   have lt_gb41 := hBf.lt
   refine go ?_
   refine c_drawnM follows (fun _ => False) (.look 0 (.look 1 (.look 2 (.look 3 (.look 4 (.look 6 (.look 7 (.look 8 (.look 9 (.look 10 (.act 5 (.act 11 (.look 12 (.look 13 (.look 14 (.look 15 (.look 16 (.look 17 (.look 18 (.look 19 (.act 20 (.look 21 .done) .stop))))))))) .stop) (.act 11 (.act 5 (.look 12 (.look 13 (.look 14 (.look 15 (.look 16 (.look 17 (.look 18 (.look 19 (.act 20 (.look 21 .done) .stop))))))))) .stop) .stop)))))))))))) (by kernel_rfl) fun w133 u134 => ?_
   have zu134 := u134.size
   refine go ?_
   have D136 := (hBf.keep u134 (fun _ h => h))
   refine y_sliceM ((32 * t9)) (32) underlying25 sizeOf5 rfl rfl rfl rfl rfl (by omega) (by omega) (by omega) ?_
   refine go ?_
   have D137 := (((((((D39.keep u45 (fun hb => show ¬ ((gL = bk34 ∧ bk34 ≤ gL)) by first | omega | assumption)).keep u50 (fun _ h => h)).keep u57 (fun hb => show ¬ (gL = bk47 ∨ (gL = gb41 ∧ bk34 ≤ gL) ∨ w48.heap.size ≤ gL) by first | omega | assumption)).keep u66 (fun _ h => h)).keep u84 (fun _ h => h)).keep u122 (fun hb => show ¬ ((gL = gb41 ∧ bk34 ≤ gL)) by first | omega | assumption)).keep u134 (fun _ h => h))
   refine y_sliceM ((32 * t9)) (32) underlying25 sizeOf5 rfl rfl rfl rfl rfl (by omega) (by omega) (by omega) (s_or ?_ ?_)
   ·
    refine go ?_
    refine t_ofB underlying25 underlying5 underlying9 rfl rfl rfl ((D136.sl (fun _ => rfl)).sub cp42 (32 * t9) 32 (by omega)) hckl.symm ?_
    refine go ?_
    refine t_ofB underlying25 underlying5 underlying9 rfl rfl rfl ((D137.sl (fun _ => rfl)).sub cL (32 * t9) 32 (by omega)) hckvl.symm ?_
    refine go ?_
    refine y_bo (Bo.eqS ((((bytesP (U.set t9 ((nth U t9).fil z 32)))).drop (32 * t9)).take 32) ((((bytesP v)).drop (32 * t9)).take 32)) rfl rfl rfl rfl ?_
    refine go ?_
    refine y_splitp 133 rfl (fun g133 => ?_) (fun g133 => ?_)
    ·
     refine go ?_
     refine g_i (32 * t9 + 0) (D136.sl (fun _ => rfl)) (fun _ => ?_) (hj := (by omega))
     refine go ?_
     refine t_bo (Bo.xor8 (nth (bytesP (U.set t9 ((nth U t9).fil z 32))) (32 * t9 + 0)) 1) rfl rfl rfl rfl ?_
     refine g_i (32 * t9 + 0) (D136.sl (fun _ => rfl)) (fun _ => ?_) (hj := (by omega))
     refine t_storeA (vs := [.int .u8 (((nth (bytesP (U.set t9 ((nth U t9).fil z 32))) (32 * t9 + 0)) ^^^ 1).toNat : Int)]) (j := (32 * t9 + 0)) (o' := 0) (k := 1) ((nth (bytesP (U.set t9 ((nth U t9).fil z 32))) (32 * t9 + 0)) ^^^ 1) (fun _ => rfl) sizeOf5 rfl rfl (by omega) rfl D136 (by first | omega | (simp only [List.length_set, eRuns_len]; omega)) rfl rfl (by decide) (by simp [Value.oneCell']) rfl (fun w140 R142 u141 => ?_)
     have zu141 := u141.size
     refine go ?_
     have hd0 : dl ≠ 0 := by intro e; rw [e] at hdv; have h9 : ((0 : UInt8).toNat : Int) = 0 := rfl; omega
     exact hK78 (((nth U t9).fil z 32).put 0 (nth (bytesP (U.set t9 ((nth U t9).fil z 32))) (32 * t9 + 0) ^^^ 1)) ⟨(by have h9 := bytesP_put (nth (bytesP (U.set t9 ((nth U t9).fil z 32))) (32 * t9 + 0) ^^^ 1) (U.set t9 ((nth U t9).fil z 32)) t9 0 (by rw [List.length_set]; omega) (by omega); rw [nth_setE (by omega), set_setE] at h9; rw [← h9]; exact R142), (bad_put (by rw [Bk.ext' (by rw [← hck, ← hckv]; exact g133 : (((nth U t9).fil z 32)).l = (nth v t9).l)]; exact hsd) (by omega) (by rw [bytesP_nth _ t9 0 (by rw [List.length_set]; omega) (by omega), nth_setE (by omega)]; exact xor_ne (by decide)))⟩
    refine go ?_
    refine y_sliceM ((32 * t9)) (32) underlying25 sizeOf5 rfl rfl rfl rfl rfl (by omega) (by omega) (by omega) (y_same 138 (v := .slice (subAddr ao40 cp42 (32 * t9) 1) (List.length ((bytesP (U.set t9 ((nth U t9).fil z 32))).drop (32 * t9) |>.take 32)) (cp42 - (32 * t9))) rfl (by rw [hckl]) ?_)
    refine go ?_
    refine x_c func31 rfl rfl (sound_c ((((bytesP (U.set t9 ((nth U t9).fil z 32)))).drop (32 * t9)).take 32) (subAddr ao40 cp42 (32 * t9) 1) gb41 (0 + (32 * t9) * 1) (cp42 - (32 * t9)) t9 _ ((D136.sl (fun _ => rfl)).sub cp42 (32 * t9) 32 (by omega)) hckl (by omega) (by omega) (by omega)) ?_
    rintro _ w145 ⟨rfl, u146⟩ zu146
    refine go ?_
    refine q_p (fun g141 => ?_) fun g141 => ?_
    ·
     refine go ?_
     have D149 := (D136.keep u146 (fun _ h => h))
     refine g_i (32 * t9 + 0) (D149.sl (fun _ => rfl)) (fun _ => ?_) (hj := (by omega))
     refine go ?_
     refine t_bo (Bo.xor8 (nth (bytesP (U.set t9 ((nth U t9).fil z 32))) (32 * t9 + 0)) 1) rfl rfl rfl rfl ?_
     refine g_i (32 * t9 + 0) (D149.sl (fun _ => rfl)) (fun _ => ?_) (hj := (by omega))
     refine t_storeA (vs := [.int .u8 (((nth (bytesP (U.set t9 ((nth U t9).fil z 32))) (32 * t9 + 0)) ^^^ 1).toNat : Int)]) (j := (32 * t9 + 0)) (o' := 0) (k := 1) ((nth (bytesP (U.set t9 ((nth U t9).fil z 32))) (32 * t9 + 0)) ^^^ 1) (fun _ => rfl) sizeOf5 rfl rfl (by omega) rfl D149 (by first | omega | (simp only [List.length_set, eRuns_len]; omega)) rfl rfl (by decide) (by simp [Value.oneCell']) rfl (fun w152 R154 u153 => ?_)
     have zu153 := u153.size
     refine go ?_
     have hd0 : dl ≠ 0 := by intro e; rw [e] at hdv; have h9 : ((0 : UInt8).toNat : Int) = 0 := rfl; omega
     exact hK78 (((nth U t9).fil z 32).put 0 (nth (bytesP (U.set t9 ((nth U t9).fil z 32))) (32 * t9 + 0) ^^^ 1)) ⟨(by have h9 := bytesP_put (nth (bytesP (U.set t9 ((nth U t9).fil z 32))) (32 * t9 + 0) ^^^ 1) (U.set t9 ((nth U t9).fil z 32)) t9 0 (by rw [List.length_set]; omega) (by omega); rw [nth_setE (by omega), set_setE] at h9; rw [← h9]; exact R154), (bad_put (by rw [hck] at g141; exact g141) (by omega) (by rw [bytesP_nth _ t9 0 (by rw [List.length_set]; omega) (by omega), nth_setE (by omega)]; exact xor_ne (by decide)))⟩
    refine go ?_
    have hd0 : dl ≠ 0 := by intro e; rw [e] at hdv; have h9 : ((0 : UInt8).toNat : Int) = 0 := rfl; omega
    have D156 := (D136.keep u146 (fun _ h => h))
    exact hK78 ((nth U t9).fil z 32) ⟨D156, (by rw [hck] at g141; exact g141)⟩
   refine go ?_
   refine t_ofB underlying25 underlying5 underlying9 rfl rfl rfl ((D137.sl (fun _ => rfl)).sub cL (32 * t9) 32 (by omega)) hckvl.symm ?_
   refine go ?_
   refine t_ofB underlying25 underlying5 underlying9 rfl rfl rfl ((D136.sl (fun _ => rfl)).sub cp42 (32 * t9) 32 (by omega)) hckl.symm ?_
   refine go ?_
   refine y_bo (Bo.eqS ((((bytesP (U.set t9 ((nth U t9).fil z 32)))).drop (32 * t9)).take 32) ((((bytesP v)).drop (32 * t9)).take 32)) rfl rfl rfl rfl ?_
   refine go ?_
   refine y_splitp 133 rfl (fun g133 => ?_) (fun g133 => ?_)
   ·
    refine go ?_
    refine g_i (32 * t9 + 0) (D136.sl (fun _ => rfl)) (fun _ => ?_) (hj := (by omega))
    refine go ?_
    refine t_bo (Bo.xor8 (nth (bytesP (U.set t9 ((nth U t9).fil z 32))) (32 * t9 + 0)) 1) rfl rfl rfl rfl ?_
    refine g_i (32 * t9 + 0) (D136.sl (fun _ => rfl)) (fun _ => ?_) (hj := (by omega))
    refine t_storeA (vs := [.int .u8 (((nth (bytesP (U.set t9 ((nth U t9).fil z 32))) (32 * t9 + 0)) ^^^ 1).toNat : Int)]) (j := (32 * t9 + 0)) (o' := 0) (k := 1) ((nth (bytesP (U.set t9 ((nth U t9).fil z 32))) (32 * t9 + 0)) ^^^ 1) (fun _ => rfl) sizeOf5 rfl rfl (by omega) rfl D136 (by first | omega | (simp only [List.length_set, eRuns_len]; omega)) rfl rfl (by decide) (by simp [Value.oneCell']) rfl (fun w159 R161 u160 => ?_)
    have zu160 := u160.size
    refine go ?_
    have hd0 : dl ≠ 0 := by intro e; rw [e] at hdv; have h9 : ((0 : UInt8).toNat : Int) = 0 := rfl; omega
    exact hK78 (((nth U t9).fil z 32).put 0 (nth (bytesP (U.set t9 ((nth U t9).fil z 32))) (32 * t9 + 0) ^^^ 1)) ⟨(by have h9 := bytesP_put (nth (bytesP (U.set t9 ((nth U t9).fil z 32))) (32 * t9 + 0) ^^^ 1) (U.set t9 ((nth U t9).fil z 32)) t9 0 (by rw [List.length_set]; omega) (by omega); rw [nth_setE (by omega), set_setE] at h9; rw [← h9]; exact R161), (bad_put (by rw [Bk.ext' (by rw [← hck, ← hckv]; exact g133 : (((nth U t9).fil z 32)).l = (nth v t9).l)]; exact hsd) (by omega) (by rw [bytesP_nth _ t9 0 (by rw [List.length_set]; omega) (by omega), nth_setE (by omega)]; exact xor_ne (by decide)))⟩
   refine go ?_
   refine y_sliceM ((32 * t9)) (32) underlying25 sizeOf5 rfl rfl rfl rfl rfl (by omega) (by omega) (by omega) (y_same 138 (v := .slice (subAddr ao40 cp42 (32 * t9) 1) (List.length ((bytesP (U.set t9 ((nth U t9).fil z 32))).drop (32 * t9) |>.take 32)) (cp42 - (32 * t9))) rfl (by rw [hckl]) ?_)
   refine go ?_
   refine x_c func31 rfl rfl (sound_c ((((bytesP (U.set t9 ((nth U t9).fil z 32)))).drop (32 * t9)).take 32) (subAddr ao40 cp42 (32 * t9) 1) gb41 (0 + (32 * t9) * 1) (cp42 - (32 * t9)) t9 _ ((D136.sl (fun _ => rfl)).sub cp42 (32 * t9) 32 (by omega)) hckl (by omega) (by omega) (by omega)) ?_
   rintro _ w164 ⟨rfl, u165⟩ zu165
   refine go ?_
   refine q_p (fun g141 => ?_) fun g141 => ?_
   ·
    refine go ?_
    have D168 := (D136.keep u165 (fun _ h => h))
    refine g_i (32 * t9 + 0) (D168.sl (fun _ => rfl)) (fun _ => ?_) (hj := (by omega))
    refine go ?_
    refine t_bo (Bo.xor8 (nth (bytesP (U.set t9 ((nth U t9).fil z 32))) (32 * t9 + 0)) 1) rfl rfl rfl rfl ?_
    refine g_i (32 * t9 + 0) (D168.sl (fun _ => rfl)) (fun _ => ?_) (hj := (by omega))
    refine t_storeA (vs := [.int .u8 (((nth (bytesP (U.set t9 ((nth U t9).fil z 32))) (32 * t9 + 0)) ^^^ 1).toNat : Int)]) (j := (32 * t9 + 0)) (o' := 0) (k := 1) ((nth (bytesP (U.set t9 ((nth U t9).fil z 32))) (32 * t9 + 0)) ^^^ 1) (fun _ => rfl) sizeOf5 rfl rfl (by omega) rfl D168 (by first | omega | (simp only [List.length_set, eRuns_len]; omega)) rfl rfl (by decide) (by simp [Value.oneCell']) rfl (fun w171 R173 u172 => ?_)
    have zu172 := u172.size
    refine go ?_
    have hd0 : dl ≠ 0 := by intro e; rw [e] at hdv; have h9 : ((0 : UInt8).toNat : Int) = 0 := rfl; omega
    exact hK78 (((nth U t9).fil z 32).put 0 (nth (bytesP (U.set t9 ((nth U t9).fil z 32))) (32 * t9 + 0) ^^^ 1)) ⟨(by have h9 := bytesP_put (nth (bytesP (U.set t9 ((nth U t9).fil z 32))) (32 * t9 + 0) ^^^ 1) (U.set t9 ((nth U t9).fil z 32)) t9 0 (by rw [List.length_set]; omega) (by omega); rw [nth_setE (by omega), set_setE] at h9; rw [← h9]; exact R173), (bad_put (by rw [hck] at g141; exact g141) (by omega) (by rw [bytesP_nth _ t9 0 (by rw [List.length_set]; omega) (by omega), nth_setE (by omega)]; exact xor_ne (by decide)))⟩
   refine go ?_
   have hd0 : dl ≠ 0 := by intro e; rw [e] at hdv; have h9 : ((0 : UInt8).toNat : Int) = 0 := rfl; omega
   have D175 := (D136.keep u165 (fun _ h => h))
   exact hK78 ((nth U t9).fil z 32) ⟨D175, (by rw [hck] at g141; exact g141)⟩
  rintro c w79 ⟨hBc, hcb⟩ u80 zu80
  have lt_gb41 := hBc.lt
  have hbc := bytesP_len (U.set t9 c)
  rw [List.length_set] at hbc
  refine go ?_
  refine x_l fun bk178 w179 ebk178 sbk178 B180 u181 => ?_
  have D183 := (((hA.keep u66 (fun _ h => h)).keep u80 (fun hb => show ¬ ((q.2.1 = gb41 ∧ bk34 ≤ q.2.1)) by first | omega | assumption)).keep u181 (fun _ h => h))
  refine t_append (z := .int .i64 0) (bytes := 8) (k := 1) (base := bk47) (t9 : Int) underlying59 (by kernel_rfl) rfl (by decide) (fun _ => rfl) (by intro x; simp [encI, Value.oneCell']) rfl rfl rfl rfl D183 B180 (by omega) (by omega) (by decide) (fun ao184 gb185 cp186 w187 A188 u189 gegb185 lngb185 => ?_)
  have zu189 := u189.size
  have lt_gb185 := A188.lt
  refine go ?_
  refine q_p (fun g153 => ?_) fun g153 => ?_
  ·
   refine go ?_
   have D192 := ((hBc.keep u181 (fun _ h => h)).keep u189 (fun hb => show ¬ ((gb41 = q.2.1 ∧ bk47 ≤ gb41)) by first | omega | assumption))
   exact hK55 (f + 5) (U.set t9 c) (ks ++ [t9]) (ao184, gb185, cp186) ⟨(by omega), (by omega), D192, (by rw [← nats_snoc]; exact A188), (show gb185 = bk47 ∨ w48.heap.size ≤ gb185 by omega), (hD.step hf5 ht9f.1 ht9f.2 (by omega) ht9l hcb), (by rw [List.length_append]; simp only [List.length_cons, List.length_nil]; omega)⟩ (hs := by exact ⟨rfl, (by first | rfl | (rw [← nats_snoc]; rfl)), (congrArg (fun z => some (Value.int .i64 z)) (by first | rfl | (rw [lowI_neg g153]; rfl) | rw [lowI_app g153])), rfl, rfl, rfl, rfl, rfl, trivial⟩)
  refine go ?_
  have D193 := ((hBc.keep u181 (fun _ h => h)).keep u189 (fun hb => show ¬ ((gb41 = q.2.1 ∧ bk47 ≤ gb41)) by first | omega | assumption))
  exact hK55 (f + 5) (U.set t9 c) (ks ++ [t9]) (ao184, gb185, cp186) ⟨(by omega), (by omega), D193, (by rw [← nats_snoc]; exact A188), (show gb185 = bk47 ∨ w48.heap.size ≤ gb185 by omega), (hD.step hf5 ht9f.1 ht9f.2 (by omega) ht9l hcb), (by rw [List.length_append]; simp only [List.length_cons, List.length_nil]; omega)⟩ (hs := by exact ⟨rfl, (by first | rfl | (rw [← nats_snoc]; rfl)), (congrArg (fun z => some (Value.int .i64 z)) (by first | rfl | (rw [lowI_neg g153]; rfl) | rw [lowI_app g153])), rfl, rfl, rfl, rfl, rfl, trivial⟩)
 have hUl := hD.len
 have hbU := bytesP_len U
 have hrp := hD.rep hgd hn13
 refine go ?_
 refine x_l fun bk195 w196 ebk195 sbk195 B197 u198 => ?_
 refine st1 ?_
 refine t_same 157 (v := .slice ao40 (List.length (bytesP U)) cp42) rfl (by rw [hbv, hbU, hUl]) ?_
 have D200 := (hB.keep u198 (fun _ h => h))
 refine t_copy (enc := encY) (z := .int .u8 0) (bytes := 1) (k := 1) (ys := (bytesP U)) underlying25 (by kernel_rfl) rfl (by decide) (fun _ => rfl) (by intro x; simp [encY, Value.oneCell']) rfl rfl rfl rfl B197 (D200.sl (fun _ => rfl)) (by omega) (by decide) (fun ao201 gb202 cp203 w204 A205 u206 gegb202 => ?_)
 have zu206 := u206.size
 have lt_gb202 := A205.lt
 refine x_c func32 rfl rfl (RepairE_c (bytesP U) ao201 gb202 0 cp203 _ (A205.sl (fun _ => rfl)) (by have h9 := (A205).cap_le; omega) (by omega) (by omega) (bytesP v) (nats ks) 0 hrp) ?_
 rintro _ w210 ⟨⟨ap208, gp208, cp208, ep208, ip208, dp208, rfl, hXp208, hIp208⟩, u211⟩ zu211
 have lt_gp208 := hXp208.lt
 have lt_ip208 := hIp208.lt
 iterate 14 refine st1 ?_
 refine t_same 164 (v := .bool false) rfl (congrArg Value.bool (decide_eq_false (by decide))) ?_
 refine go ?_
 refine t_ofB underlying25 underlying5 underlying9 rfl rfl rfl (hXp208.sl (fun _ => rfl)) rfl ?_
 refine go ?_
 have D216 := ((((((D39.keep u45 (fun hb => show ¬ ((gL = bk34 ∧ bk34 ≤ gL)) by first | omega | assumption)).keep u50 (fun _ h => h)).keep u57 (fun hb => show ¬ (gL = bk47 ∨ (gL = gb41 ∧ bk34 ≤ gL) ∨ w48.heap.size ≤ gL) by first | omega | assumption)).keep u198 (fun _ h => h)).keep u206 (fun hb => show ¬ ((gL = bk195 ∧ bk195 ≤ gL)) by first | omega | assumption)).keep u211 (fun _ h => h))
 refine t_ofB underlying25 underlying5 underlying9 rfl rfl rfl (D216.sl (fun _ => rfl)) rfl (t_bo (Bo.neS (bytesP v) (bytesP v)) rfl rfl rfl rfl (t_same 170 (v := .bool false) rfl (congrArg Value.bool (decide_eq_false (by exact fun h => h rfl))) ?_))
 refine go ?_
 have D217 := (((hA.keep u198 (fun _ h => h)).keep u206 (fun hb => show ¬ ((q.2.1 = bk195 ∧ bk195 ≤ q.2.1)) by first | omega | assumption)).keep u211 (fun _ h => h))
 refine x_c func33 rfl rfl (eqI_c (nats ks) ep208 ip208 0 dp208 q.1 q.2.1 0 q.2.2 _ (hIp208.sl (fun _ => rfl)) (D217.sl (fun _ => rfl)) (by omega)) ?_
 rintro _ w219 ⟨rfl, u220⟩ zu220
 have E222 := Sc.mk ((((E58.u.nx u198).next u206 (fun i hi h => by omega)).nx u211).nx u220)
 refine go ?_
 refine q_p (fun g179 => ?_) fun g179 => ?_
 ·
  obtain ⟨k9, r9, hkr⟩ := lowI_pos (by omega : 0 ≤ lowI ks)
  subst hkr
  have hk9 := hD.lt k9 List.mem_cons_self
  have hlw : lowI (k9 :: r9) = (k9 : Int) := rfl
  obtain ⟨fo, hfo⟩ : ∃ f, f = gF k9 := ⟨_, rfl⟩
  have hfo2 : fo = k9 - k9 % 5 := hfo
  refine go ?_
  refine t_rem rfl rfl rfl rfl (by omega) (by omega) ?_
  refine st1 ?_
  refine t_same 183 (v := .int .i64 (fo : Int)) rfl (congrArg (Value.int .i64) (by omega)) ?_
  iterate 3 refine st1 ?_
  refine x_k1 (fun _ => False) [10] (fun (o : Nat) => [(21, .int .i64 (o : Int))]) (fun o w => (o < v.length) ∧ (o ≠ k9) ∧ (gF o = gF k9)) (fun K230 hK230 => ?_) ?_
  ·
   refine go ?_
   refine q_p (fun g186 => ?_) fun g186 => ?_
   ·
    refine go ?_
    exact hK230 (fo + 1) ⟨(by omega), (by omega), (by unfold gF; omega)⟩
   refine go ?_
   exact hK230 fo ⟨(by omega), (by omega), (by unfold gF; omega)⟩
  rintro o w231 ⟨hol, hok, hog⟩ u232 zu232
  have hC2 : ((bytesP U).set (32 * o + 0) (nth (bytesP U) (32 * o + 0) ^^^ 7)).length = 32 * v.length := by rw [List.length_set, hbU, hUl]
  refine go ?_
  have D236 := ((((D200.keep u206 (fun hb => show ¬ ((gb41 = bk195 ∧ bk195 ≤ gb41)) by first | omega | assumption)).keep u211 (fun _ h => h)).keep u220 (fun _ h => h)).keep u232 (fun _ h => h))
  refine g_i (32 * o + 0) (D236.sl (fun _ => rfl)) (fun _ => ?_) (hj := (by omega))
  refine go ?_
  refine t_bo (Bo.xor8 (nth (bytesP U) (32 * o + 0)) 7) rfl rfl rfl rfl ?_
  refine g_i (32 * o + 0) (D236.sl (fun _ => rfl)) (fun _ => ?_) (hj := (by omega))
  refine t_storeA (vs := [.int .u8 (((nth (bytesP U) (32 * o + 0)) ^^^ 7).toNat : Int)]) (j := (32 * o + 0)) (o' := 0) (k := 1) ((nth (bytesP U) (32 * o + 0)) ^^^ 7) (fun _ => rfl) sizeOf5 rfl rfl (by omega) rfl D236 (by first | omega | (simp only [List.length_set, eRuns_len]; omega)) rfl rfl (by decide) (by simp [Value.oneCell']) rfl (fun w239 R241 u240 => ?_)
  have zu240 := u240.size
  iterate 5 refine st1 ?_
  refine t_same 197 (v := .slice ao40 (List.length ((bytesP U).set (32 * o + 0) ((nth (bytesP U) (32 * o + 0)) ^^^ 7))) cp42) rfl (by rw [hbv, List.length_set, hbU, hUl]) ?_
  refine x_c func32 rfl rfl (RepairE_c ((bytesP U).set (32 * o + 0) ((nth (bytesP U) (32 * o + 0)) ^^^ 7)) ao40 gb41 0 cp42 _ (R241.sl (fun _ => rfl)) (by have h9 := (R241).cap_le; omega) (by omega) (by omega) ([] : List UInt8) ([] : List Int) 121 (by rw [bytesP_put _ U o 0 (by omega) (by omega)]; exact hD.none hgd hn13 hol hok hog (bad_put (by rw [hD.first hol hok hog]; exact hgd.ok o hol) (by omega) (by rw [bytesP_nth U o 0 (by omega) (by omega)]; exact xor_ne (by decide))))) ?_
  rintro _ w246 ⟨⟨ap244, gp244, cp244, ep244, ip244, dp244, rfl, hXp244, hIp244⟩, u247⟩ zu247
  have lt_gp244 := hXp244.lt
  have lt_ip244 := hIp244.lt
  iterate 13 refine st1 ?_
  refine t_same 203 (v := .bool false) rfl (congrArg Value.bool (decide_eq_false (by decide))) ?_
  iterate 3 refine st1 ?_
  refine t_same 206 (v := .int .i64 0) rfl rfl ?_
  iterate 2 refine st1 ?_
  refine t_same 208 (v := .int .i64 0) rfl rfl ?_
  refine go ?_
  refine x_c func13 rfl rfl (known_c _ (hT.ext (((E222.u.nx u232).next u240 (fun i hi h => by omega)).nx u247)) (by omega)) ?_
  rintro _ w253 ⟨rfl, u254⟩ zu254
  refine go ?_
  refine f_1 results7 ?_
  exact ⟨rfl, u_d⟩
 refine go ?_
 refine x_c func13 rfl rfl (known_c _ (hT.ext E222.u) (by omega)) ?_
 rintro _ w259 ⟨rfl, u260⟩ zu260
 refine go ?_
 refine f_1 results7 ?_
 exact ⟨rfl, u_d⟩

end Go.Proofs.YtjdcpnaocjddoaaGreatDoor
namespace Go.Proofs.YtjdcpnaocjddoaaGreatDoor
open Go Go.RowKit Go.Proofs.Tryz
end Go.Proofs.YtjdcpnaocjddoaaGreatDoor
namespace Go.Proofs.YtjdcpnaocjddoaaGreatDoor
open Go Go.RowKit
/-! ### the witness: a world in which the listed variables hold what is told of them -/
def litC : DataW Unit → Value
  | .lit (.int k n) => .int k n
  | _ => .int .i64 0
def aggC : DataW Unit → List Value
  | .agg l => l.map litC
  | _ => []
def aggD : DataW Unit → List Value
  | .agg l => l.flatMap aggC
  | _ => []
def strC : DataW Unit → Value
  | .iface _ (.ptr (.agg [.lit (.string s)])) => .string ⟨s.toArray⟩
  | _ => .int .i64 0
def setC (cs : List Value) : Obj → Obj
  | .cells _ t f => .cells cs.toArray t f
  | o => o
noncomputable def laidWorld (os : Os) : World :=
  { World.holding Tryz.prog os ⟨#[], #[], []⟩ with heap := (((((((((World.holding Tryz.prog os ⟨#[], #[], []⟩).heap.modify 6 (setC (aggC Rows.laid_math_bits_deBruijn32tab))).modify 7 (setC (aggC Rows.laid_math_bits_deBruijn64tab))).modify 5 (setC (aggC Rows.laid_internal_strconv_uint64pow10))).modify 4 (setC (aggD Rows.laid_unicode_utf8_acceptRanges))).modify 3 (setC (aggC Rows.laid_unicode_utf8_first))).modify 2 (setC [.iface 261 (.pointer (some ⟨13, 0, none⟩))])).modify 1 (setC [.iface 261 (.pointer (some ⟨14, 0, none⟩))])).push (.cells #[strC Rows.laid_strconv_ErrRange] 263 (0, 0))).push (.cells #[strC Rows.laid_strconv_ErrSyntax] 263 (0, 0)) }
theorem laid_met (os : Os) (args : Array Value) : laidMet Tryz.prog Rows.logsCodesRow.laid ((laidWorld os).forCall (fun _ _ => 0) ⟨#[], args, []⟩).memory :=
  laidMet_of_run' 8 (by kernel_rfl) (by kernel_rfl)
theorem glob5 : Tryz.prog.globalNamed "internal/strconv.uint64pow10" = some 5 := by kernel_rfl
theorem glob5t : (Tryz.prog.globals[5]?).map (·.type) = some 266 := by kernel_rfl
theorem tab_of_laid {W : World} (h : laidMet Tryz.prog Rows.logsCodesRow.laid W) : Tab10 W := by
  have e : (Rows.laid_internal_strconv_uint64pow10 : DataW Unit) = Lib.tabData .u64 Lib.pow10Tab := by kernel_rfl
  obtain ⟨ps, ⟨_, _, _, _, _, _, _, _, _, _, ⟨_, _, _, _, _, _, _, _, _, _, ⟨g', t', cs, fuel, p, q, hg', ht', hvar, hd, _, _⟩, _⟩, _⟩, _⟩ := h
  obtain rfl := Option.some.inj (glob5.symm.trans hg')
  obtain rfl := Option.some.inj (glob5t.symm.trans ht')
  unfold Tab10 Lib.TabIs
  rw [hvar, ← Lib.cells_of_tab (t := 266) (e := 214) (n := 20) (k := .u64) (zs := Lib.pow10Tab) Tryz.underlying266 Tryz.underlying214 (by kernel_rfl) (by kernel_rfl) (by rw [← e]; exact hd)]
theorem tab_pos {w : World} (h : Tab10 w) : 0 < w.heap.size := by
  unfold Tab10 Lib.TabIs World.var? at h
  rw [glob5] at h
  simp only [Option.bind_some] at h
  rcases Nat.lt_or_ge 5 w.heap.size with q | q
  · omega
  · rw [Array.getElem?_eq_none q] at h; cases h

end Go.Proofs.YtjdcpnaocjddoaaGreatDoor
