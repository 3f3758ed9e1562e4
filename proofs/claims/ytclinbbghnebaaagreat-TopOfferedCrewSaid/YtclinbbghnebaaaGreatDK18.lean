/-
  Part 18 of the proof: contracts and plain laws. Conditions: none.
-/
import Derived.Test.YtclinbbghnebaaaGreatDK17
namespace Go.Proofs.YtclinbbghnebaaaGreat
open Go Go.RowKit Go.Proofs.Tryz
set_option maxRecDepth 10000
set_option maxHeartbeats 4000000 in
theorem TopOfferedCrew_c (l : List Off) (al : Option Addr) (bl ol cl : Nat) (x0 x1 x2 x3 : Int) (w0 : World) (hl : Sl encOff 5 w0 al bl ol l) (hll : l.length ≤ 9223372036854775807) (hx : (-9223372036854775808 ≤ x0 ∧ x0 ≤ 9223372036854775807) ∧ (-9223372036854775808 ≤ x1 ∧ x1 ≤ 9223372036854775807) ∧ (-9223372036854775808 ≤ x2 ∧ x2 ≤ 9223372036854775807) ∧ (-9223372036854775808 ≤ x3 ∧ x3 ≤ 9223372036854775807)) :
    CallsV Tryz.prog 6 [.slice al l.length cl, .agg #[.int .i64 x0, .int .i64 x1, .int .i64 x2, .int .i64 x3]] w0 (fun v w' => v = .bool true ∧ Ext w0 w') := by
 refine f_n func6 ?_
 refine go ?_
 refine x_b fun bk2 w3 ebk2 sbk2 B4 u5 => ?_
 refine go ?_
 refine q_p (fun g31 => ?_) fun g31 => ?_
 ·
  refine go ?_
  refine x_c func23 rfl rfl (knownCrew_c _) ?_
  rintro _ w11 ⟨rfl, u12⟩ zu12
  refine go ?_
  refine x_c func24 rfl rfl (knownOffers_c _ (by omega)) ?_
  rintro _ w16 ⟨rfl, u17⟩ zu17
  refine go ?_
  refine f_1 results6 ?_
  exact ⟨rfl, u_d⟩
 refine go ?_
 refine c_drawnM follows (fun _ => False) (OTl [2, 6, 8, 10, 12, 14, 16, 18, 20, 1, 5, 23, 24, 26, 28, 30, 32, 34, 36]) (by kernel_rfl) fun w21 u22 => ?_
 have zu22 := u22.size
 refine go ?_
 refine y_indexArr (j := 0) (0) underlying95 sizeOf3 rfl rfl rfl rfl rfl (by decide) rfl ?_
 refine go ?_
 refine y_indexArr (j := 1) (1) underlying95 sizeOf3 rfl rfl rfl rfl rfl (by decide) rfl ?_
 refine go ?_
 refine y_indexArr (j := 2) (2) underlying95 sizeOf3 rfl rfl rfl rfl rfl (by decide) rfl ?_
 refine go ?_
 refine y_indexArr (j := 3) (3) underlying95 sizeOf3 rfl rfl rfl rfl rfl (by decide) rfl ?_
 refine go ?_
 refine x_l fun bk24 w25 ebk24 sbk24 B26 u27 => ?_
 have E28 := Sc.mk ((((Upd.refl (fun _ => False) w0).nx u5).nx u22).nx u27)
 refine go ?_
 refine t_copy (enc := encOff) (z := .agg #[.int .i64 0, .int .i64 0, .int .i64 0, .int .i64 0, .int .i64 0]) (bytes := 40) (k := 5) (ys := l) underlying66 (by kernel_rfl) rfl (by decide) (fun _ => rfl) (by intro x; simp [encOff, Value.oneCell']) rfl rfl rfl rfl B26 (hl.keep E28.u (fun _ h => h)) (by omega) (by decide) (fun ao29 gb30 cp31 w32 A33 u34 gegb30 => ?_)
 have zu34 := u34.size
 have lt_gb30 := A33.lt
 refine go ?_
 refine x_c func17 rfl rfl (Best_c l ao29 gb30 0 cp31 (⟨x0, x1, x2, x3⟩ : Hul) _ (A33.sl (fun _ => rfl)) (by omega) (by omega)) ?_
 rintro _ w37 ⟨⟨r1, e1, a1, g1, o1, c1, rfl, hA1, hE1, hR1⟩, u38⟩ zu38
 have lt_g1 := hA1.lt
 refine go ?_
 refine q_p (fun g53 => ?_) fun g53 => ?_
 ·
  have hr0 : r1.s.length = 0 := by rw [(hR1.resolve_right (fun h => g53 h.1)).2]; rfl
  have h23 := bestE_two (l := l) (h := (⟨x0, x1, x2, x3⟩ : Hul)) (by omega) (by rw [← hE1]; exact g53)
  rw [← hE1] at h23
  iterate 5 refine st1 ?_
  refine t_same 56 (v := .bool true) rfl (congrArg Value.bool (decide_eq_true (by omega))) ?_
  refine go ?_
  refine t_splitp 60 rfl (fun g60 => ?_) (fun g60 => ?_)
  ·
   refine go ?_
   refine x_c func23 rfl rfl (knownCrew_c _) ?_
   rintro _ w45 ⟨rfl, u46⟩ zu46
   refine go ?_
   refine x_c func24 rfl rfl (knownOffers_c _ (by omega)) ?_
   rintro _ w50 ⟨rfl, u51⟩ zu51
   refine go ?_
   refine f_1 results6 ?_
   exact ⟨rfl, u_d⟩
  iterate 2 refine st1 ?_
  refine t_same 62 (v := .bool true) rfl (congrArg Value.bool (decide_eq_true (by omega))) ?_
  refine go ?_
  refine x_c func23 rfl rfl (knownCrew_c _) ?_
  rintro _ w55 ⟨rfl, u56⟩ zu56
  refine go ?_
  refine x_c func24 rfl rfl (knownOffers_c _ (by omega)) ?_
  rintro _ w60 ⟨rfl, u61⟩ zu61
  refine go ?_
  refine f_1 results6 ?_
  exact ⟨rfl, u_d⟩
 have he0 : e1 = 0 := by omega
 have hr1 := (hR1.resolve_left (fun h => h.1 he0)).2
 obtain ⟨hok, hhu⟩ := bestE_zero (h := (⟨x0, x1, x2, x3⟩ : Hul)) (by omega) (hE1.symm.trans he0)
 have hfe : Fea l (⟨x0, x1, x2, x3⟩ : Hul) r1.s := by rw [hr1]; exact (bst_gn (l := l) (h := (⟨x0, x1, x2, x3⟩ : Hul))).2.2.1
 have hfw : r1.s.length ≤ l.length := by rw [hr1]; exact bst_few
 have hhu1 := hhu.2.1
 have hhu2 := hhu.2.2.1
 have hhu0 := hhu.1
 refine go ?_
 refine c_drawnM follows (fun _ => False) (.look 2 (.look 3 (.look 4 (.look 5 (.act 0 (.look 6 (.act 1 (.look 7 (.look 8 (.look 9 (.look 10 .done)))) .stop)) (.act 1 (.act 0 (.look 6 (.look 7 (.look 8 (.look 9 (.look 10 .done))))) .stop) .stop)))))) (by kernel_rfl) fun w65 u66 => ?_
 have zu66 := u66.size
 have E67 := Sc.mk (((E28.u.next u34 (fun i hi h => by omega)).nx u38).nx u66)
 refine y_indexArr (j := 0) (0) underlying95 sizeOf3 rfl rfl rfl rfl rfl (by decide) rfl ?_
 refine go ?_
 refine y_indexArr (j := 1) (1) underlying95 sizeOf3 rfl rfl rfl rfl rfl (by decide) rfl ?_
 refine go ?_
 refine s_or ?_ ?_
 ·
  refine go ?_
  refine x_l fun bk68 w69 ebk68 sbk68 B70 u71 => ?_
  refine go ?_
  refine x_l fun bk73 w74 ebk73 sbk73 B75 u76 => ?_
  refine go ?_
  have B80 := (B70.kx u76)
  refine q_loop (γ := Nat × Option Addr × Nat × Nat × Option Addr × Nat × Nat) (fun gg => [(0, .slice al l.length cl), (3, .pointer (some ⟨bk2, 0, none⟩)), (5, .slice a1 (List.length r1.s) c1), (8, .slice gg.2.1 ((FD (itL l (⟨x0, x1, x2, x3⟩ : Hul) r1.s gg.1)).length) gg.2.2.2.1), (9, .slice gg.2.2.2.2.1 ((BD (itL l (⟨x0, x1, x2, x3⟩ : Hul) r1.s gg.1)).length) gg.2.2.2.2.2.2), (10, .int .i64 ((hsK l (⟨x0, x1, x2, x3⟩ : Hul) r1.s gg.1).p)), (11, .int .i64 ((hsK l (⟨x0, x1, x2, x3⟩ : Hul) r1.s gg.1).m)), (12, .int .i64 (smI (itL l (⟨x0, x1, x2, x3⟩ : Hul) r1.s gg.1))), (13, .int .i64 (gg.1 : Int))]) (fun gg w => Upd (fun i => i = bk68 ∨ i = bk73 ∨ w74.heap.size ≤ i) w74 w ∧ (gg.1 ≤ r1.s.length) ∧ (Acc encDty 4 77 bk68 w gg.2.1 gg.2.2.1 gg.2.2.2.1 (FD (itL l (⟨x0, x1, x2, x3⟩ : Hul) r1.s gg.1))) ∧ (Acc encDty 4 77 bk73 w gg.2.2.2.2.1 gg.2.2.2.2.2.1 gg.2.2.2.2.2.2 (BD (itL l (⟨x0, x1, x2, x3⟩ : Hul) r1.s gg.1))) ∧ ((gg.2.2.1 = bk68 ∨ w74.heap.size ≤ gg.2.2.1) ∧ (gg.2.2.2.2.2.1 = bk73 ∨ w74.heap.size ≤ gg.2.2.2.2.2.1) ∧ gg.2.2.1 ≠ gg.2.2.2.2.2.1) ∧ (∀ j ∈ (itL l (⟨x0, x1, x2, x3⟩ : Hul) r1.s gg.1), 0 ≤ j.lv ∧ j.lv ≤ j.b ∧ j.b ≤ j.e ∧ j.e ≤ 20160)) (fun gg => r1.s.length - gg.1) (0, some ⟨bk68, 0, none⟩, bk68, 0, some ⟨bk73, 0, none⟩, bk73, 0) ⟨rfl, rfl, rfl, rfl, rfl, rfl, rfl, rfl, rfl, trivial⟩ ⟨Upd.refl _ _, (Nat.zero_le _), (Acc.lit encDty 4 B80 (Nat.le_refl _)), (Acc.lit encDty 4 B75 (Nat.le_refl _)), (by show (bk68 = bk68 ∨ _) ∧ (bk73 = bk73 ∨ _) ∧ bk68 ≠ bk73; omega), (fun j hj => by cases hj)⟩ ?_
  intro gg w82 hW K81 hK81
  obtain ⟨kk, ad, gd, cd, ab, gb, cb⟩ := gg
  change WC _ _ _ _ _ _ [(0, .slice al l.length cl), (3, .pointer (some ⟨bk2, 0, none⟩)), (5, .slice a1 (List.length r1.s) c1), (8, .slice ad ((FD (itL l (⟨x0, x1, x2, x3⟩ : Hul) r1.s kk)).length) cd), (9, .slice ab ((BD (itL l (⟨x0, x1, x2, x3⟩ : Hul) r1.s kk)).length) cb), (10, .int .i64 ((hsK l (⟨x0, x1, x2, x3⟩ : Hul) r1.s kk).p)), (11, .int .i64 ((hsK l (⟨x0, x1, x2, x3⟩ : Hul) r1.s kk).m)), (12, .int .i64 (smI (itL l (⟨x0, x1, x2, x3⟩ : Hul) r1.s kk))), (13, .int .i64 (kk : Int))] _
  change Upd (fun i => i = bk68 ∨ i = bk73 ∨ w74.heap.size ≤ i) w74 w82 ∧ (kk ≤ r1.s.length) ∧ (Acc encDty 4 77 bk68 w82 ad gd cd (FD (itL l (⟨x0, x1, x2, x3⟩ : Hul) r1.s kk))) ∧ (Acc encDty 4 77 bk73 w82 ab gb cb (BD (itL l (⟨x0, x1, x2, x3⟩ : Hul) r1.s kk))) ∧ ((gd = bk68 ∨ w74.heap.size ≤ gd) ∧ (gb = bk73 ∨ w74.heap.size ≤ gb) ∧ gd ≠ gb) ∧ (∀ j ∈ (itL l (⟨x0, x1, x2, x3⟩ : Hul) r1.s kk), 0 ≤ j.lv ∧ j.lv ≤ j.b ∧ j.b ≤ j.e ∧ j.e ≤ 20160) at hW
  obtain ⟨u83, I84, I85, I86, I87, I88⟩ := hW
  have zu83 := u83.size
  have hi := I84; clear I84
  have hdt := I85; clear I85
  have hbr := I86; clear I86
  have hne := I87; clear I87
  have hall := I88; clear I88
  have lt_gd := hdt.lt
  have lt_gb := hbr.lt
  have hfl9 := FD_len (itL l (⟨x0, x1, x2, x3⟩ : Hul) r1.s kk)
  rw [itL_len] at hfl9
  have hbl9 := BD_len (itL l (⟨x0, x1, x2, x3⟩ : Hul) r1.s kk)
  rw [itL_len] at hbl9
  have hsm9 := smI_rng hall
  rw [itL_len] at hsm9
  have hkk9 := hsK_ok hok hhu hfe kk hi
  have hkp9 := hkk9.1
  have hkm9 := hkk9.2.1
  refine go ?_
  refine q_p (fun g80 => ?_) fun g80 => ?_
  ·
   have hia := it_at hfe (k := kk) (by omega)
   have hir := it_rng hok hhu hfe (k := kk) (by omega)
   have hi1 := hia.1
   have hi2 : (hsK l (⟨x0, x1, x2, x3⟩ : Hul) r1.s kk).m ≤ (itK l (⟨x0, x1, x2, x3⟩ : Hul) r1.s kk).lv := hia.2
   have hi3 : (nth l (nth r1.s kk).toNat).b ≤ (nth l (nth r1.s kk).toNat).e ∧ (nth l (nth r1.s kk).toNat).e ≤ 100000 ∧ 0 ≤ (nth l (nth r1.s kk).toNat).b ∧ 0 ≤ (itK l (⟨x0, x1, x2, x3⟩ : Hul) r1.s kk).lv ∧ (itK l (⟨x0, x1, x2, x3⟩ : Hul) r1.s kk).lv ≤ (nth l (nth r1.s kk).toNat).b := ⟨hir.2.2.1, hir.2.2.2.1, Int.le_trans hir.1 hir.2.1, hir.1, hir.2.1⟩
   obtain ⟨hi4, hi5⟩ := hir.2.2.2.2
   have hi5b : 0 ≤ (farH (hsK l (⟨x0, x1, x2, x3⟩ : Hul) r1.s kk) (nth l (nth r1.s kk).toNat)) * x2 ∧ (farH (hsK l (⟨x0, x1, x2, x3⟩ : Hul) r1.s kk) (nth l (nth r1.s kk).toNat)) * x2 ≤ 100000000 := hi5
   have hof9 := hok _ (nth_mem (xs := l) (i := (nth r1.s kk).toNat) (by omega))
   unfold okOff at hof9
   rw [decide_eq_true_eq] at hof9
   refine go ?_
   have D95 := ((((hA1.keep u66 (fun _ h => h)).keep u71 (fun _ h => h)).keep u76 (fun _ h => h)).keep u83 (fun h9 => show ¬ (g1 = bk68 ∨ g1 = bk73 ∨ w74.heap.size ≤ g1) by have := hA1.lt h9; omega))
   refine g_i kk D95 (fun _ => ?_)
   iterate 2 refine st1 ?_
   refine t_same 87 (v := .bool false) rfl (congrArg Value.bool (decide_eq_false (by omega))) ?_
   refine go ?_
   refine g_i kk D95 (fun _ => ?_)
   iterate 4 refine st1 ?_
   refine t_same 95 (v := .bool false) rfl (congrArg Value.bool (decide_eq_false (by omega))) ?_
   refine go ?_
   refine g_i kk D95 (fun _ => ?_)
   refine go ?_
   refine g_i ((nth r1.s kk).toNat) (hl.keep (((E67.u.nx u71).nx u76).next u83 (fun i hi (h : i = bk68 ∨ i = bk73 ∨ w74.heap.size ≤ i) => show False by first | omega | assumption)) (fun _ h => h)) (fun _ => ?_) (hj := (by omega))
   refine go ?_
   refine x_n fun bk101 w102 ebk101 sbk101 B103 u104 => ?_
   refine x_s fun w106 sw106 B108 u107 => ?_
   refine go ?_
   refine t_max rfl rfl rfl rfl (t_same 114 (v := .int .i64 (farH (hsK l (⟨x0, x1, x2, x3⟩ : Hul) r1.s kk) (nth l (nth r1.s kk).toNat))) rfl rfl (t_indexArr (j := 2) (2) underlying95 sizeOf3 rfl rfl rfl rfl rfl (by decide) rfl ?_))
   iterate 3 refine st1 ?_
   refine t_same 118 (v := .int .i64 ((itK l (⟨x0, x1, x2, x3⟩ : Hul) r1.s kk).lv)) rfl rfl ?_
   iterate 9 refine st1 ?_
   refine t_same 121 (v := .bool false) rfl (congrArg Value.bool (decide_eq_false (by omega))) ?_
   iterate 6 refine st1 ?_
   refine t_same 127 (v := .bool false) rfl (congrArg Value.bool (decide_eq_false (by omega))) ?_
   refine go ?_
   refine q_p (fun g131 => ?_) fun g131 => ?_
   ·
    refine go ?_
    refine x_c func23 rfl rfl (knownCrew_c _) ?_
    rintro _ w117 ⟨rfl, u118⟩ zu118
    refine go ?_
    refine x_c func24 rfl rfl (knownOffers_c _ (by omega)) ?_
    rintro _ w122 ⟨rfl, u123⟩ zu123
    refine go ?_
    refine f_1 results6 ?_
    exact ⟨rfl, u_d⟩
   refine go ?_
   refine x_n fun bk127 w128 ebk127 sbk127 B129 u130 => ?_
   refine x_s fun w132 sw132 B134 u133 => ?_
   refine go ?_
   refine x_n fun bk137 w138 ebk137 sbk137 B139 u140 => ?_
   refine x_s fun w142 sw142 B144 u143 => ?_
   iterate 2 refine st1 ?_
   refine x_k3 (fun i => (i = gd ∧ bk68 ≤ i)) [0, 3, 5, 9, 12, 13, 14, 15, 16] (fun (am : Option Addr) (gm : Nat) (cm : Nat) => [(8, .slice am ((FD (itL l (⟨x0, x1, x2, x3⟩ : Hul) r1.s kk) ++ mvD (itK l (⟨x0, x1, x2, x3⟩ : Hul) r1.s kk)).length) cm)]) (fun am gm cm w => (Acc encDty 4 77 bk68 w am gm cm (FD (itL l (⟨x0, x1, x2, x3⟩ : Hul) r1.s kk) ++ mvD (itK l (⟨x0, x1, x2, x3⟩ : Hul) r1.s kk))) ∧ ((gm = gd ∨ w142.heap.size ≤ gm))) (fun K150 hK150 => ?_) ?_
   ·
    refine go ?_
    refine q_p (fun g156 => ?_) fun g156 => ?_
    ·
     refine go ?_
     refine x_l fun bk154 w155 ebk154 sbk154 B156 u157 => ?_
     have D159 := (((((((hdt.keep u104 (fun _ h => h)).keep u107 (fun hb => show ¬ (gd = bk101) by first | omega | assumption)).keep u130 (fun _ h => h)).keep u133 (fun hb => show ¬ (gd = bk127) by first | omega | assumption)).keep u140 (fun _ h => h)).keep u143 (fun hb => show ¬ (gd = bk137) by first | omega | assumption)).keep u157 (fun _ h => h))
     refine t_append (z := .agg #[.int .i64 0, .int .i64 0, .int .i64 0, .int .i64 0]) (bytes := 32) (k := 4) (base := bk68) (⟨(itK l (⟨x0, x1, x2, x3⟩ : Hul) r1.s kk).lv, (itK l (⟨x0, x1, x2, x3⟩ : Hul) r1.s kk).lv, (itK l (⟨x0, x1, x2, x3⟩ : Hul) r1.s kk).b, (itK l (⟨x0, x1, x2, x3⟩ : Hul) r1.s kk).b⟩ : Dty) underlying75 (by kernel_rfl) rfl (by decide) (fun _ => rfl) (by intro x; simp [encDty, Value.oneCell']) rfl rfl rfl rfl D159 B156 (by omega) (by omega) (by decide) (fun ao160 gb161 cp162 w163 A164 u165 gegb161 lngb161 => ?_)
     have zu165 := u165.size
     have lt_gb161 := A164.lt
     refine go ?_
     have hmv9 : mvD (itK l (⟨x0, x1, x2, x3⟩ : Hul) r1.s kk) = [(⟨(itK l (⟨x0, x1, x2, x3⟩ : Hul) r1.s kk).lv, (itK l (⟨x0, x1, x2, x3⟩ : Hul) r1.s kk).lv, (itK l (⟨x0, x1, x2, x3⟩ : Hul) r1.s kk).b, (itK l (⟨x0, x1, x2, x3⟩ : Hul) r1.s kk).b⟩ : Dty)] := if_pos g156
     exact hK150 ao160 gb161 cp162 ⟨(by rw [hmv9]; first | exact A164 | (rw [List.append_nil]; exact A164)), (by show gb161 = gd ∨ _; omega)⟩ (hs := by exact ⟨(by rw [hmv9]; first | rfl | (rw [List.append_nil]; rfl)), rfl, rfl, rfl, rfl, rfl, rfl, rfl, rfl, rfl, trivial⟩)
    refine go ?_
    have hmv9 : mvD (itK l (⟨x0, x1, x2, x3⟩ : Hul) r1.s kk) = [] := if_neg g156
    have D167 := ((((((hdt.keep u104 (fun _ h => h)).keep u107 (fun hb => show ¬ (gd = bk101) by first | omega | assumption)).keep u130 (fun _ h => h)).keep u133 (fun hb => show ¬ (gd = bk127) by first | omega | assumption)).keep u140 (fun _ h => h)).keep u143 (fun hb => show ¬ (gd = bk137) by first | omega | assumption))
    exact hK150 ad gd cd ⟨(by rw [hmv9]; first | exact D167 | (rw [List.append_nil]; exact D167)), (by show gd = gd ∨ _; omega)⟩ (hs := by exact ⟨(by rw [hmv9]; first | rfl | (rw [List.append_nil]; rfl)), rfl, rfl, rfl, rfl, rfl, rfl, rfl, rfl, rfl, trivial⟩)
   rintro am gm cm w151 ⟨hdm, hgm⟩ u152 zu152
   have lt_gm := hdm.lt
   have hxl9 : (FD (itL l (⟨x0, x1, x2, x3⟩ : Hul) r1.s kk) ++ mvD (itK l (⟨x0, x1, x2, x3⟩ : Hul) r1.s kk)).length ≤ 2 * kk + 1 := by
     rw [List.length_append]
     have : (mvD (itK l (⟨x0, x1, x2, x3⟩ : Hul) r1.s kk)).length ≤ 1 := by unfold mvD; split <;> simp
     omega
   refine go ?_
   refine c_drawnM follows (fun i => (i = gm ∧ bk68 ≤ i) ∨ (i = gb ∧ bk73 ≤ i)) (.look 0 (.look 1 (.look 4 (.look 5 (.act 2 (.act 3 (.act 6 (.act 7 (.look 8 (.look 9 .done)) .stop) .stop) (.act 6 (.act 3 (.act 7 (.look 8 (.look 9 .done)) .stop) .stop) .stop)) (.act 6 (.act 2 (.act 3 (.act 7 (.look 8 (.look 9 .done)) .stop) .stop) .stop) .stop)))))) (by kernel_rfl) fun w170 u171 => ?_
   have zu171 := u171.size
   refine go ?_
   refine s_or ?_ ?_
   ·
    refine go ?_
    refine x_l fun bk173 w174 ebk173 sbk173 B175 u176 => ?_
    refine go ?_
    refine s_or ?_ ?_
    ·
     refine go ?_
     have D178 := ((hdm.keep u171 (fun _ h => h)).keep u176 (fun _ h => h))
     refine t_append (z := .agg #[.int .i64 0, .int .i64 0, .int .i64 0, .int .i64 0]) (bytes := 32) (k := 4) (base := bk68) (wkD (itK l (⟨x0, x1, x2, x3⟩ : Hul) r1.s kk)) underlying75 (by kernel_rfl) rfl (by decide) (fun _ => rfl) (by intro x; simp [encDty, Value.oneCell']) rfl rfl rfl rfl D178 B175 (by omega) (by omega) (by decide) (fun ao179 gb180 cp181 w182 A183 u184 gegb180 lngb180 => ?_)
     have zu184 := u184.size
     have lt_gb180 := A183.lt
     refine go ?_
     refine x_l fun bk186 w187 ebk186 sbk186 B188 u189 => ?_
     refine go ?_
     have D191 := (((((((((((hbr.keep u104 (fun _ h => h)).keep u107 (fun hb => show ¬ (gb = bk101) by first | omega | assumption)).keep u130 (fun _ h => h)).keep u133 (fun hb => show ¬ (gb = bk127) by first | omega | assumption)).keep u140 (fun _ h => h)).keep u143 (fun hb => show ¬ (gb = bk137) by first | omega | assumption)).keep u152 (fun hb => show ¬ ((gb = gd ∧ bk68 ≤ gb)) by first | omega | assumption)).keep u171 (fun _ h => h)).keep u176 (fun _ h => h)).keep u184 (fun hb => show ¬ ((gb = gm ∧ bk68 ≤ gb)) by first | omega | assumption)).keep u189 (fun _ h => h))
     refine t_append (z := .agg #[.int .i64 0, .int .i64 0, .int .i64 0, .int .i64 0]) (bytes := 32) (k := 4) (base := bk73) (wkD (itK l (⟨x0, x1, x2, x3⟩ : Hul) r1.s kk)) underlying75 (by kernel_rfl) rfl (by decide) (fun _ => rfl) (by intro x; simp [encDty, Value.oneCell']) rfl rfl rfl rfl D191 B188 (by omega) (by omega) (by decide) (fun ao192 gb193 cp194 w195 A196 u197 gegb193 lngb193 => ?_)
     have zu197 := u197.size
     have lt_gb193 := A196.lt
     refine go ?_
     refine c_drawnM follows (fun _ => False) (OTl [0, 2, 4, 6, 8, 10, 12, 14, 16, 18, 20, 22, 24]) (by kernel_rfl) fun w199 u200 => ?_
     have zu200 := u200.size
     refine go ?_
     have hs1 : FD (itL l (⟨x0, x1, x2, x3⟩ : Hul) r1.s (kk + 1)) = FD (itL l (⟨x0, x1, x2, x3⟩ : Hul) r1.s kk) ++ mvD (itK l (⟨x0, x1, x2, x3⟩ : Hul) r1.s kk) ++ [wkD (itK l (⟨x0, x1, x2, x3⟩ : Hul) r1.s kk)] := by rw [itL_succ, FD_snoc]
     have hs2 : BD (itL l (⟨x0, x1, x2, x3⟩ : Hul) r1.s (kk + 1)) = BD (itL l (⟨x0, x1, x2, x3⟩ : Hul) r1.s kk) ++ [wkD (itK l (⟨x0, x1, x2, x3⟩ : Hul) r1.s kk)] := by rw [itL_succ, BD_snoc]
     have D202 := (((A183.keep u189 (fun _ h => h)).keep u197 (fun hb => show ¬ ((gb180 = gb ∧ bk73 ≤ gb180)) by first | omega | assumption)).keep u200 (fun _ h => h))
     have D203 := (A196.keep u200 (fun _ h => h))
     exact hK81 (kk + 1, ao179, gb180, cp181, ao192, gb193, cp194) _ _ (by show r1.s.length - (kk + 1) < r1.s.length - kk; omega) ⟨rfl, rfl, rfl, (by rw [hs1]; rfl), (by rw [hs2]; rfl), rfl, rfl, (by rw [itL_succ, smI_snoc]; rfl), rfl, trivial⟩ ⟨(((((((((((((u83.nx u104).next u107 (fun i hi (h : i = bk101) => show i = bk68 ∨ i = bk73 ∨ w74.heap.size ≤ i by first | omega | assumption)).nx u130).next u133 (fun i hi (h : i = bk127) => show i = bk68 ∨ i = bk73 ∨ w74.heap.size ≤ i by first | omega | assumption)).nx u140).next u143 (fun i hi (h : i = bk137) => show i = bk68 ∨ i = bk73 ∨ w74.heap.size ≤ i by first | omega | assumption)).next u152 (fun i hi (h : (i = gd ∧ bk68 ≤ i)) => show i = bk68 ∨ i = bk73 ∨ w74.heap.size ≤ i by first | omega | assumption)).nx u171).nx u176).next u184 (fun i hi (h : (i = gm ∧ bk68 ≤ i)) => show i = bk68 ∨ i = bk73 ∨ w74.heap.size ≤ i by first | omega | assumption)).nx u189).next u197 (fun i hi (h : (i = gb ∧ bk73 ≤ i)) => show i = bk68 ∨ i = bk73 ∨ w74.heap.size ≤ i by first | omega | assumption)).nx u200), (by omega), (by rw [hs1]; exact D202), (by rw [hs2]; exact D203), (by show (gb180 = bk68 ∨ w74.heap.size ≤ gb180) ∧ (gb193 = bk73 ∨ w74.heap.size ≤ gb193) ∧ gb180 ≠ gb193; omega), (fun j hj => by
       rw [itL_succ] at hj
       rcases List.mem_append.1 hj with q9 | q9
       · exact hall j q9
       · rw [List.mem_singleton.1 q9]; exact ⟨hir.1, hir.2.1, hir.2.2.1, by show (nth l (nth r1.s kk).toNat).e ≤ 20160; omega⟩)⟩
    refine go ?_
    refine x_l fun bk204 w205 ebk204 sbk204 B206 u207 => ?_
    refine go ?_
    have D209 := (((hdm.keep u171 (fun _ h => h)).keep u176 (fun _ h => h)).keep u207 (fun _ h => h))
    have B210 := (B175.kx u207)
    refine t_append (z := .agg #[.int .i64 0, .int .i64 0, .int .i64 0, .int .i64 0]) (bytes := 32) (k := 4) (base := bk68) (wkD (itK l (⟨x0, x1, x2, x3⟩ : Hul) r1.s kk)) underlying75 (by kernel_rfl) rfl (by decide) (fun _ => rfl) (by intro x; simp [encDty, Value.oneCell']) rfl rfl rfl rfl D209 B210 (by omega) (by omega) (by decide) (fun ao211 gb212 cp213 w214 A215 u216 gegb212 lngb212 => ?_)
    have zu216 := u216.size
    have lt_gb212 := A215.lt
    refine go ?_
    have D218 := (((((((((((hbr.keep u104 (fun _ h => h)).keep u107 (fun hb => show ¬ (gb = bk101) by first | omega | assumption)).keep u130 (fun _ h => h)).keep u133 (fun hb => show ¬ (gb = bk127) by first | omega | assumption)).keep u140 (fun _ h => h)).keep u143 (fun hb => show ¬ (gb = bk137) by first | omega | assumption)).keep u152 (fun hb => show ¬ ((gb = gd ∧ bk68 ≤ gb)) by first | omega | assumption)).keep u171 (fun _ h => h)).keep u176 (fun _ h => h)).keep u207 (fun _ h => h)).keep u216 (fun hb => show ¬ ((gb = gm ∧ bk68 ≤ gb)) by first | omega | assumption))
    have B219 := (B206.keep u216 (by omega))
    refine t_append (z := .agg #[.int .i64 0, .int .i64 0, .int .i64 0, .int .i64 0]) (bytes := 32) (k := 4) (base := bk73) (wkD (itK l (⟨x0, x1, x2, x3⟩ : Hul) r1.s kk)) underlying75 (by kernel_rfl) rfl (by decide) (fun _ => rfl) (by intro x; simp [encDty, Value.oneCell']) rfl rfl rfl rfl D218 B219 (by omega) (by omega) (by decide) (fun ao220 gb221 cp222 w223 A224 u225 gegb221 lngb221 => ?_)
    have zu225 := u225.size
    have lt_gb221 := A224.lt
    refine go ?_
    refine c_drawnM follows (fun _ => False) (OTl [0, 2, 4, 6, 8, 10, 12, 14, 16, 18, 20, 22, 24]) (by kernel_rfl) fun w227 u228 => ?_
    have zu228 := u228.size
    refine go ?_
    have hs1 : FD (itL l (⟨x0, x1, x2, x3⟩ : Hul) r1.s (kk + 1)) = FD (itL l (⟨x0, x1, x2, x3⟩ : Hul) r1.s kk) ++ mvD (itK l (⟨x0, x1, x2, x3⟩ : Hul) r1.s kk) ++ [wkD (itK l (⟨x0, x1, x2, x3⟩ : Hul) r1.s kk)] := by rw [itL_succ, FD_snoc]
    have hs2 : BD (itL l (⟨x0, x1, x2, x3⟩ : Hul) r1.s (kk + 1)) = BD (itL l (⟨x0, x1, x2, x3⟩ : Hul) r1.s kk) ++ [wkD (itK l (⟨x0, x1, x2, x3⟩ : Hul) r1.s kk)] := by rw [itL_succ, BD_snoc]
    have D230 := ((A215.keep u225 (fun hb => show ¬ ((gb212 = gb ∧ bk73 ≤ gb212)) by first | omega | assumption)).keep u228 (fun _ h => h))
    have D231 := (A224.keep u228 (fun _ h => h))
    exact hK81 (kk + 1, ao211, gb212, cp213, ao220, gb221, cp222) _ _ (by show r1.s.length - (kk + 1) < r1.s.length - kk; omega) ⟨rfl, rfl, rfl, (by rw [hs1]; rfl), (by rw [hs2]; rfl), rfl, rfl, (by rw [itL_succ, smI_snoc]; rfl), rfl, trivial⟩ ⟨(((((((((((((u83.nx u104).next u107 (fun i hi (h : i = bk101) => show i = bk68 ∨ i = bk73 ∨ w74.heap.size ≤ i by first | omega | assumption)).nx u130).next u133 (fun i hi (h : i = bk127) => show i = bk68 ∨ i = bk73 ∨ w74.heap.size ≤ i by first | omega | assumption)).nx u140).next u143 (fun i hi (h : i = bk137) => show i = bk68 ∨ i = bk73 ∨ w74.heap.size ≤ i by first | omega | assumption)).next u152 (fun i hi (h : (i = gd ∧ bk68 ≤ i)) => show i = bk68 ∨ i = bk73 ∨ w74.heap.size ≤ i by first | omega | assumption)).nx u171).nx u176).nx u207).next u216 (fun i hi (h : (i = gm ∧ bk68 ≤ i)) => show i = bk68 ∨ i = bk73 ∨ w74.heap.size ≤ i by first | omega | assumption)).next u225 (fun i hi (h : (i = gb ∧ bk73 ≤ i)) => show i = bk68 ∨ i = bk73 ∨ w74.heap.size ≤ i by first | omega | assumption)).nx u228), (by omega), (by rw [hs1]; exact D230), (by rw [hs2]; exact D231), (by show (gb212 = bk68 ∨ w74.heap.size ≤ gb212) ∧ (gb221 = bk73 ∨ w74.heap.size ≤ gb221) ∧ gb212 ≠ gb221; omega), (fun j hj => by
      rw [itL_succ] at hj
      rcases List.mem_append.1 hj with q9 | q9
      · exact hall j q9
      · rw [List.mem_singleton.1 q9]; exact ⟨hir.1, hir.2.1, hir.2.2.1, by show (nth l (nth r1.s kk).toNat).e ≤ 20160; omega⟩)⟩
   refine go ?_
   refine x_l fun bk232 w233 ebk232 sbk232 B234 u235 => ?_
   refine go ?_
   refine x_l fun bk237 w238 ebk237 sbk237 B239 u240 => ?_
   refine go ?_
   have D242 := (((hdm.keep u171 (fun _ h => h)).keep u235 (fun _ h => h)).keep u240 (fun _ h => h))
   refine t_append (z := .agg #[.int .i64 0, .int .i64 0, .int .i64 0, .int .i64 0]) (bytes := 32) (k := 4) (base := bk68) (wkD (itK l (⟨x0, x1, x2, x3⟩ : Hul) r1.s kk)) underlying75 (by kernel_rfl) rfl (by decide) (fun _ => rfl) (by intro x; simp [encDty, Value.oneCell']) rfl rfl rfl rfl D242 B239 (by omega) (by omega) (by decide) (fun ao243 gb244 cp245 w246 A247 u248 gegb244 lngb244 => ?_)
   have zu248 := u248.size
   have lt_gb244 := A247.lt
   refine go ?_
   have D250 := (((((((((((hbr.keep u104 (fun _ h => h)).keep u107 (fun hb => show ¬ (gb = bk101) by first | omega | assumption)).keep u130 (fun _ h => h)).keep u133 (fun hb => show ¬ (gb = bk127) by first | omega | assumption)).keep u140 (fun _ h => h)).keep u143 (fun hb => show ¬ (gb = bk137) by first | omega | assumption)).keep u152 (fun hb => show ¬ ((gb = gd ∧ bk68 ≤ gb)) by first | omega | assumption)).keep u171 (fun _ h => h)).keep u235 (fun _ h => h)).keep u240 (fun _ h => h)).keep u248 (fun hb => show ¬ ((gb = gm ∧ bk68 ≤ gb)) by first | omega | assumption))
   have B251 := ((B234.kx u240).keep u248 (by omega))
   refine t_append (z := .agg #[.int .i64 0, .int .i64 0, .int .i64 0, .int .i64 0]) (bytes := 32) (k := 4) (base := bk73) (wkD (itK l (⟨x0, x1, x2, x3⟩ : Hul) r1.s kk)) underlying75 (by kernel_rfl) rfl (by decide) (fun _ => rfl) (by intro x; simp [encDty, Value.oneCell']) rfl rfl rfl rfl D250 B251 (by omega) (by omega) (by decide) (fun ao252 gb253 cp254 w255 A256 u257 gegb253 lngb253 => ?_)
   have zu257 := u257.size
   have lt_gb253 := A256.lt
   refine go ?_
   refine c_drawnM follows (fun _ => False) (OTl [0, 2, 4, 6, 8, 10, 12, 14, 16, 18, 20, 22, 24]) (by kernel_rfl) fun w259 u260 => ?_
   have zu260 := u260.size
   refine go ?_
   have hs1 : FD (itL l (⟨x0, x1, x2, x3⟩ : Hul) r1.s (kk + 1)) = FD (itL l (⟨x0, x1, x2, x3⟩ : Hul) r1.s kk) ++ mvD (itK l (⟨x0, x1, x2, x3⟩ : Hul) r1.s kk) ++ [wkD (itK l (⟨x0, x1, x2, x3⟩ : Hul) r1.s kk)] := by rw [itL_succ, FD_snoc]
   have hs2 : BD (itL l (⟨x0, x1, x2, x3⟩ : Hul) r1.s (kk + 1)) = BD (itL l (⟨x0, x1, x2, x3⟩ : Hul) r1.s kk) ++ [wkD (itK l (⟨x0, x1, x2, x3⟩ : Hul) r1.s kk)] := by rw [itL_succ, BD_snoc]
   have D262 := ((A247.keep u257 (fun hb => show ¬ ((gb244 = gb ∧ bk73 ≤ gb244)) by first | omega | assumption)).keep u260 (fun _ h => h))
   have D263 := (A256.keep u260 (fun _ h => h))
   exact hK81 (kk + 1, ao243, gb244, cp245, ao252, gb253, cp254) _ _ (by show r1.s.length - (kk + 1) < r1.s.length - kk; omega) ⟨rfl, rfl, rfl, (by rw [hs1]; rfl), (by rw [hs2]; rfl), rfl, rfl, (by rw [itL_succ, smI_snoc]; rfl), rfl, trivial⟩ ⟨(((((((((((((u83.nx u104).next u107 (fun i hi (h : i = bk101) => show i = bk68 ∨ i = bk73 ∨ w74.heap.size ≤ i by first | omega | assumption)).nx u130).next u133 (fun i hi (h : i = bk127) => show i = bk68 ∨ i = bk73 ∨ w74.heap.size ≤ i by first | omega | assumption)).nx u140).next u143 (fun i hi (h : i = bk137) => show i = bk68 ∨ i = bk73 ∨ w74.heap.size ≤ i by first | omega | assumption)).next u152 (fun i hi (h : (i = gd ∧ bk68 ≤ i)) => show i = bk68 ∨ i = bk73 ∨ w74.heap.size ≤ i by first | omega | assumption)).nx u171).nx u235).nx u240).next u248 (fun i hi (h : (i = gm ∧ bk68 ≤ i)) => show i = bk68 ∨ i = bk73 ∨ w74.heap.size ≤ i by first | omega | assumption)).next u257 (fun i hi (h : (i = gb ∧ bk73 ≤ i)) => show i = bk68 ∨ i = bk73 ∨ w74.heap.size ≤ i by first | omega | assumption)).nx u260), (by omega), (by rw [hs1]; exact D262), (by rw [hs2]; exact D263), (by show (gb244 = bk68 ∨ w74.heap.size ≤ gb244) ∧ (gb253 = bk73 ∨ w74.heap.size ≤ gb253) ∧ gb244 ≠ gb253; omega), (fun j hj => by
     rw [itL_succ] at hj
     rcases List.mem_append.1 hj with q9 | q9
     · exact hall j q9
     · rw [List.mem_singleton.1 q9]; exact ⟨hir.1, hir.2.1, hir.2.2.1, by show (nth l (nth r1.s kk).toNat).e ≤ 20160; omega⟩)⟩
  have hii : kk = r1.s.length := by omega
  obtain ⟨hchn, _⟩ := chn_K hok hhu hfe kk hi
  obtain ⟨hfx0, hfL⟩ := chn_lin hchn
  obtain ⟨hbx0, hbL⟩ := chn_linB hchn
  have hfx : ∀ x ∈ fS (itL l (⟨x0, x1, x2, x3⟩ : Hul) r1.s kk), 0 ≤ x.b ∧ x.b ≤ x.e := fun x hx => by have h9 := hfx0 x hx; have h8 : x1 ≤ x.b := h9.1; omega
  have hbx : ∀ x ∈ bS (itL l (⟨x0, x1, x2, x3⟩ : Hul) r1.s kk), 0 ≤ x.b ∧ x.b ≤ x.e := fun x hx => by have h9 := hbx0 x hx; have h8 : x1 ≤ x.b := h9.1; omega
  refine go ?_
  refine q_p (fun g181 => ?_) fun g181 => ?_
  ·
   refine go ?_
   refine x_c func23 rfl rfl (knownCrew_c _) ?_
   rintro _ w268 ⟨rfl, u269⟩ zu269
   refine go ?_
   refine x_c func24 rfl rfl (knownOffers_c _ (by omega)) ?_
   rintro _ w273 ⟨rfl, u274⟩ zu274
   refine go ?_
   refine f_1 results6 ?_
   exact ⟨rfl, u_d⟩
  have hck2 : chkRD (⟨600, 840, 600, 2880, 1000⟩ : Rul) (BD (itL l (⟨x0, x1, x2, x3⟩ : Hul) r1.s kk)) = 0 := chk_0 (by decide) (by omega) (FD_ok hall).2
  refine go ?_
  refine x_c func25 rfl rfl (haulRest_c _) ?_
  rintro _ w279 ⟨rfl, u280⟩ zu280
  refine x_l fun bk283 w284 ebk283 sbk283 B285 u286 => ?_
  refine go ?_
  have D288 := ((hdt.keep u280 (fun _ h => h)).keep u286 (fun _ h => h))
  refine t_copy (enc := encDty) (z := .agg #[.int .i64 0, .int .i64 0, .int .i64 0, .int .i64 0]) (bytes := 32) (k := 4) (ys := (FD (itL l (⟨x0, x1, x2, x3⟩ : Hul) r1.s kk))) underlying75 (by kernel_rfl) rfl (by decide) (fun _ => rfl) (by intro x; simp [encDty, Value.oneCell']) rfl rfl rfl rfl B285 (D288.sl (fun _ => rfl)) (by omega) (by decide) (fun ao289 gb290 cp291 w292 A293 u294 gegb290 => ?_)
  have zu294 := u294.size
  have lt_gb290 := A293.lt
  refine x_c func21 rfl rfl (Rested_c (⟨600, 840, 600, 2880, 1000⟩ : Rul) (FD (itL l (⟨x0, x1, x2, x3⟩ : Hul) r1.s kk)) ao289 gb290 0 cp291 _ (A293.sl (fun _ => rfl)) (by omega) (by omega)) ?_
  rintro _ w297 ⟨⟨at9, ru9, po9, er9, rfl, hR9⟩, u298⟩ zu298
  obtain ⟨hck1, rfl, hru1⟩ := rule_no1 (by decide) (by omega) (FD_ok hall).1 (by rw [FD_map]; exact hfx) (by rw [FD_map]; exact hfL) hR9
  refine go ?_
  refine x_c func25 rfl rfl (haulRest_c _) ?_
  rintro _ w303 ⟨rfl, u304⟩ zu304
  refine go ?_
  have D307 := (((D288.keep u294 (fun hb => show ¬ ((gd = bk283 ∧ bk283 ≤ gd)) by first | omega | assumption)).keep u298 (fun _ h => h)).keep u304 (fun _ h => h))
  refine x_c func26 rfl rfl (Shifts_c (⟨600, 840, 600, 2880, 1000⟩ : Rul) (FD (itL l (⟨x0, x1, x2, x3⟩ : Hul) r1.s kk)) ad gd 0 cd _ (D307.sl (fun _ => rfl)) (by omega) (by omega)) ?_
  rintro _ w309 ⟨⟨as1, gs1, cs1, sh1, es1, rfl, hS1, hC1⟩, u310⟩ zu310
  obtain ⟨_, rfl, hq1⟩ := hC1.resolve_left (fun h => h.1 hck1)
  rw [FD_map, srt_lin (fun x hx => (hfx x hx).2) hfL] at hq1
  have hsl1 : sh1.length ≤ 40 := by
    have h9 := shifts_len9 (⟨600, 840, 600, 2880, 1000⟩ : Rul) (fS (itL l (⟨x0, x1, x2, x3⟩ : Hul) r1.s kk))
    rw [← hq1, ← FD_map, List.length_map] at h9
    omega
  refine go ?_
  refine x_c func25 rfl rfl (haulRest_c _) ?_
  rintro _ w315 ⟨rfl, u316⟩ zu316
  refine go ?_
  have D319 := (((((((hbr.keep u280 (fun _ h => h)).keep u286 (fun _ h => h)).keep u294 (fun hb => show ¬ ((gb = bk283 ∧ bk283 ≤ gb)) by first | omega | assumption)).keep u298 (fun _ h => h)).keep u304 (fun _ h => h)).keep u310 (fun _ h => h)).keep u316 (fun _ h => h))
  refine x_c func26 rfl rfl (Shifts_c (⟨600, 840, 600, 2880, 1000⟩ : Rul) (BD (itL l (⟨x0, x1, x2, x3⟩ : Hul) r1.s kk)) ab gb 0 cb _ (D319.sl (fun _ => rfl)) (by omega) (by omega)) ?_
  rintro _ w321 ⟨⟨as2, gs2, cs2, sh2, es2, rfl, hS2, hC2⟩, u322⟩ zu322
  obtain ⟨_, rfl, hq2⟩ := hC2.resolve_left (fun h => h.1 hck2)
  rw [BD_map, srt_lin (fun x hx => (hbx x hx).2) hbL] at hq2
  obtain ⟨hn1, hn2, htw, hmx⟩ := shifts_K (r := (⟨600, 840, 600, 2880, 1000⟩ : Rul)) (by decide) (by omega) hchn
  rw [← hq1] at hn1 htw hmx
  rw [← hq2] at hn2 hmx
  have hsl2 : sh2.length ≤ 40 := by
    have h9 := shifts_len9 (⟨600, 840, 600, 2880, 1000⟩ : Rul) (bS (itL l (⟨x0, x1, x2, x3⟩ : Hul) r1.s kk))
    rw [← hq2, ← BD_map, List.length_map] at h9
    omega
  iterate 23 refine st1 ?_
  refine t_same 220 (v := .bool false) rfl (congrArg Value.bool (decide_eq_false (hru1))) ?_
  refine go ?_
  refine x_l1 (fun _ => False) [21, 23, 26] (fun (q : Nat) => [(12, .int .i64 (smI (itL l (⟨x0, x1, x2, x3⟩ : Hul) r1.s kk) - smW sh1 q)), (25, .int .i64 (mxW sh1 q)), (27, .int .i64 (q : Int))]) (fun q w => (q ≤ sh1.length)) (fun q => sh1.length - q) 0 (Nat.zero_le _) ?_ (h0 := by exact ⟨(congrArg (fun z => some (Value.int .i64 z)) (Int.sub_zero _).symm), rfl, rfl, rfl, rfl, rfl, trivial⟩)
  rintro q w331 hq u332 zu332 K330 hK330
  refine go ?_
  refine q_p (fun g225 => ?_) fun g225 => ?_
  ·
   have hw1 := hn1 _ (nth_mem (xs := sh1) (i := q) (by omega))
   have hb1 : 0 ≤ smW sh1 q ∧ smW sh1 q ≤ totW sh1 := (totW_rng hn1).2 q
   have hb2 : 0 ≤ smW sh1 (q + 1) ∧ smW sh1 (q + 1) ≤ totW sh1 := (totW_rng hn1).2 (q + 1)
   rw [smW_succ (by omega)] at hb2
   have hsmT := smI_rng hall
   rw [itL_len] at hsmT
   refine go ?_
   refine c_drawnM follows (fun _ => False) (OTl [0, 2, 4, 6, 8, 10, 12, 14, 16, 18, 20, 22, 24, 26, 28, 30]) (by kernel_rfl) fun w337 u338 => ?_
   have zu338 := u338.size
   refine go ?_
   have D340 := ((((hS1.keep u316 (fun _ h => h)).keep u322 (fun _ h => h)).keep u332 (fun _ h => h)).keep u338 (fun _ h => h))
   refine y_i q D340 (fun _ => ?_)
   refine go ?_
   refine y_i q D340 (fun _ => ?_)
   refine go ?_
   refine y_max rfl rfl rfl rfl ?_
   refine go ?_
   have hs33 : smI (itL l (⟨x0, x1, x2, x3⟩ : Hul) r1.s kk) - smW sh1 q - (nth sh1 q).w = smI (itL l (⟨x0, x1, x2, x3⟩ : Hul) r1.s kk) - smW sh1 (q + 1) := by rw [smW_succ (by omega)]; omega
   exact hK330 (q + 1) (by omega) (hs := by exact ⟨(by rw [← hs33]; rfl), (by rw [mxW_succ (l := sh1) (k := q) (by omega)]; rfl), rfl, rfl, rfl, rfl, trivial⟩)
  have hqq : q = sh1.length := by omega
  have hfin : smW sh1 q = totW sh1 := by unfold smW; rw [hqq, List.take_length]
  refine go ?_
  refine x_l1 (fun _ => False) [12, 23, 25] (fun (p : Nat) => [(26, .int .i64 (mxW sh2 p)), (28, .int .i64 (p : Int))]) (fun p w => (p ≤ sh2.length)) (fun p => sh2.length - p) 0 (Nat.zero_le _) ?_
  rintro p w346 hp u347 zu347 K345 hK345
  refine go ?_
  refine q_p (fun g245 => ?_) fun g245 => ?_
  ·
   refine go ?_
   have D352 := ((hS2.keep u332 (fun _ h => h)).keep u347 (fun _ h => h))
   refine g_i p D352 (fun _ => ?_)
   refine go ?_
   refine t_max rfl rfl rfl rfl ?_
   refine go ?_
   exact hK345 (p + 1) (by omega) (hs := by exact ⟨(by rw [mxW_succ (l := sh2) (k := p) (by omega)]; rfl), rfl, rfl, rfl, rfl, trivial⟩)
  have hpp : p = sh2.length := by omega
  have hmx2 : mxW sh2 p ≤ mxW sh1 q := by rw [hpp, hqq]; exact hmx
  iterate 10 refine st1 ?_
  refine t_same 256 (v := .bool true) rfl (congrArg Value.bool (decide_eq_true (by omega))) ?_
  iterate 4 refine st1 ?_
  refine t_same 260 (v := .bool true) rfl (congrArg Value.bool (decide_eq_true (hmx2))) ?_
  refine go ?_
  refine x_c func23 rfl rfl (knownCrew_c _) ?_
  rintro _ w356 ⟨rfl, u357⟩ zu357
  refine go ?_
  refine x_c func24 rfl rfl (knownOffers_c _ (by omega)) ?_
  rintro _ w361 ⟨rfl, u362⟩ zu362
  refine go ?_
  refine f_1 results6 ?_
  exact ⟨rfl, u_d⟩
 refine go ?_
 refine x_l fun bk365 w366 ebk365 sbk365 B367 u368 => ?_
 refine go ?_
 refine x_l fun bk370 w371 ebk370 sbk370 B372 u373 => ?_
 refine go ?_
 have B377 := (B367.kx u373)
 refine q_loop (γ := Nat × Option Addr × Nat × Nat × Option Addr × Nat × Nat) (fun gg => [(0, .slice al l.length cl), (3, .pointer (some ⟨bk2, 0, none⟩)), (5, .slice a1 (List.length r1.s) c1), (8, .slice gg.2.1 ((FD (itL l (⟨x0, x1, x2, x3⟩ : Hul) r1.s gg.1)).length) gg.2.2.2.1), (9, .slice gg.2.2.2.2.1 ((BD (itL l (⟨x0, x1, x2, x3⟩ : Hul) r1.s gg.1)).length) gg.2.2.2.2.2.2), (10, .int .i64 ((hsK l (⟨x0, x1, x2, x3⟩ : Hul) r1.s gg.1).p)), (11, .int .i64 ((hsK l (⟨x0, x1, x2, x3⟩ : Hul) r1.s gg.1).m)), (12, .int .i64 (smI (itL l (⟨x0, x1, x2, x3⟩ : Hul) r1.s gg.1))), (13, .int .i64 (gg.1 : Int))]) (fun gg w => Upd (fun i => i = bk370 ∨ i = bk365 ∨ w371.heap.size ≤ i) w371 w ∧ (gg.1 ≤ r1.s.length) ∧ (Acc encDty 4 77 bk370 w gg.2.1 gg.2.2.1 gg.2.2.2.1 (FD (itL l (⟨x0, x1, x2, x3⟩ : Hul) r1.s gg.1))) ∧ (Acc encDty 4 77 bk365 w gg.2.2.2.2.1 gg.2.2.2.2.2.1 gg.2.2.2.2.2.2 (BD (itL l (⟨x0, x1, x2, x3⟩ : Hul) r1.s gg.1))) ∧ ((gg.2.2.1 = bk370 ∨ w371.heap.size ≤ gg.2.2.1) ∧ (gg.2.2.2.2.2.1 = bk365 ∨ w371.heap.size ≤ gg.2.2.2.2.2.1) ∧ gg.2.2.1 ≠ gg.2.2.2.2.2.1) ∧ (∀ j ∈ (itL l (⟨x0, x1, x2, x3⟩ : Hul) r1.s gg.1), 0 ≤ j.lv ∧ j.lv ≤ j.b ∧ j.b ≤ j.e ∧ j.e ≤ 20160)) (fun gg => r1.s.length - gg.1) (0, some ⟨bk370, 0, none⟩, bk370, 0, some ⟨bk365, 0, none⟩, bk365, 0) ⟨rfl, rfl, rfl, rfl, rfl, rfl, rfl, rfl, rfl, trivial⟩ ⟨Upd.refl _ _, (Nat.zero_le _), (Acc.lit encDty 4 B372 (Nat.le_refl _)), (Acc.lit encDty 4 B377 (Nat.le_refl _)), (by show (bk370 = bk370 ∨ _) ∧ (bk365 = bk365 ∨ _) ∧ bk370 ≠ bk365; omega), (fun j hj => by cases hj)⟩ ?_
 intro gg w379 hW K378 hK378
 obtain ⟨kk, ad, gd, cd, ab, gb, cb⟩ := gg
 change WC _ _ _ _ _ _ [(0, .slice al l.length cl), (3, .pointer (some ⟨bk2, 0, none⟩)), (5, .slice a1 (List.length r1.s) c1), (8, .slice ad ((FD (itL l (⟨x0, x1, x2, x3⟩ : Hul) r1.s kk)).length) cd), (9, .slice ab ((BD (itL l (⟨x0, x1, x2, x3⟩ : Hul) r1.s kk)).length) cb), (10, .int .i64 ((hsK l (⟨x0, x1, x2, x3⟩ : Hul) r1.s kk).p)), (11, .int .i64 ((hsK l (⟨x0, x1, x2, x3⟩ : Hul) r1.s kk).m)), (12, .int .i64 (smI (itL l (⟨x0, x1, x2, x3⟩ : Hul) r1.s kk))), (13, .int .i64 (kk : Int))] _
 change Upd (fun i => i = bk370 ∨ i = bk365 ∨ w371.heap.size ≤ i) w371 w379 ∧ (kk ≤ r1.s.length) ∧ (Acc encDty 4 77 bk370 w379 ad gd cd (FD (itL l (⟨x0, x1, x2, x3⟩ : Hul) r1.s kk))) ∧ (Acc encDty 4 77 bk365 w379 ab gb cb (BD (itL l (⟨x0, x1, x2, x3⟩ : Hul) r1.s kk))) ∧ ((gd = bk370 ∨ w371.heap.size ≤ gd) ∧ (gb = bk365 ∨ w371.heap.size ≤ gb) ∧ gd ≠ gb) ∧ (∀ j ∈ (itL l (⟨x0, x1, x2, x3⟩ : Hul) r1.s kk), 0 ≤ j.lv ∧ j.lv ≤ j.b ∧ j.b ≤ j.e ∧ j.e ≤ 20160) at hW
 obtain ⟨u380, I381, I382, I383, I384, I385⟩ := hW
 have zu380 := u380.size
 have hi := I381; clear I381
 have hdt := I382; clear I382
 have hbr := I383; clear I383
 have hne := I384; clear I384
 have hall := I385; clear I385
 have lt_gd := hdt.lt
 have lt_gb := hbr.lt
 have hfl9 := FD_len (itL l (⟨x0, x1, x2, x3⟩ : Hul) r1.s kk)
 rw [itL_len] at hfl9
 have hbl9 := BD_len (itL l (⟨x0, x1, x2, x3⟩ : Hul) r1.s kk)
 rw [itL_len] at hbl9
 have hsm9 := smI_rng hall
 rw [itL_len] at hsm9
 have hkk9 := hsK_ok hok hhu hfe kk hi
 have hkp9 := hkk9.1
 have hkm9 := hkk9.2.1
 refine go ?_
 refine q_p (fun g80 => ?_) fun g80 => ?_
 ·
  have hia := it_at hfe (k := kk) (by omega)
  have hir := it_rng hok hhu hfe (k := kk) (by omega)
  have hi1 := hia.1
  have hi2 : (hsK l (⟨x0, x1, x2, x3⟩ : Hul) r1.s kk).m ≤ (itK l (⟨x0, x1, x2, x3⟩ : Hul) r1.s kk).lv := hia.2
  have hi3 : (nth l (nth r1.s kk).toNat).b ≤ (nth l (nth r1.s kk).toNat).e ∧ (nth l (nth r1.s kk).toNat).e ≤ 100000 ∧ 0 ≤ (nth l (nth r1.s kk).toNat).b ∧ 0 ≤ (itK l (⟨x0, x1, x2, x3⟩ : Hul) r1.s kk).lv ∧ (itK l (⟨x0, x1, x2, x3⟩ : Hul) r1.s kk).lv ≤ (nth l (nth r1.s kk).toNat).b := ⟨hir.2.2.1, hir.2.2.2.1, Int.le_trans hir.1 hir.2.1, hir.1, hir.2.1⟩
  obtain ⟨hi4, hi5⟩ := hir.2.2.2.2
  have hi5b : 0 ≤ (farH (hsK l (⟨x0, x1, x2, x3⟩ : Hul) r1.s kk) (nth l (nth r1.s kk).toNat)) * x2 ∧ (farH (hsK l (⟨x0, x1, x2, x3⟩ : Hul) r1.s kk) (nth l (nth r1.s kk).toNat)) * x2 ≤ 100000000 := hi5
  have hof9 := hok _ (nth_mem (xs := l) (i := (nth r1.s kk).toNat) (by omega))
  unfold okOff at hof9
  rw [decide_eq_true_eq] at hof9
  refine go ?_
  have D392 := ((((hA1.keep u66 (fun _ h => h)).keep u368 (fun _ h => h)).keep u373 (fun _ h => h)).keep u380 (fun h9 => show ¬ (g1 = bk370 ∨ g1 = bk365 ∨ w371.heap.size ≤ g1) by have := hA1.lt h9; omega))
  refine g_i kk D392 (fun _ => ?_)
  iterate 2 refine st1 ?_
  refine t_same 87 (v := .bool false) rfl (congrArg Value.bool (decide_eq_false (by omega))) ?_
  refine go ?_
  refine g_i kk D392 (fun _ => ?_)
  iterate 4 refine st1 ?_
  refine t_same 95 (v := .bool false) rfl (congrArg Value.bool (decide_eq_false (by omega))) ?_
  refine go ?_
  refine g_i kk D392 (fun _ => ?_)
  refine go ?_
  refine g_i ((nth r1.s kk).toNat) (hl.keep (((E67.u.nx u368).nx u373).next u380 (fun i hi (h : i = bk370 ∨ i = bk365 ∨ w371.heap.size ≤ i) => show False by first | omega | assumption)) (fun _ h => h)) (fun _ => ?_) (hj := (by omega))
  refine go ?_
  refine x_n fun bk398 w399 ebk398 sbk398 B400 u401 => ?_
  refine x_s fun w403 sw403 B405 u404 => ?_
  refine go ?_
  refine t_max rfl rfl rfl rfl (t_same 114 (v := .int .i64 (farH (hsK l (⟨x0, x1, x2, x3⟩ : Hul) r1.s kk) (nth l (nth r1.s kk).toNat))) rfl rfl (t_indexArr (j := 2) (2) underlying95 sizeOf3 rfl rfl rfl rfl rfl (by decide) rfl ?_))
  iterate 3 refine st1 ?_
  refine t_same 118 (v := .int .i64 ((itK l (⟨x0, x1, x2, x3⟩ : Hul) r1.s kk).lv)) rfl rfl ?_
  iterate 9 refine st1 ?_
  refine t_same 121 (v := .bool false) rfl (congrArg Value.bool (decide_eq_false (by omega))) ?_
  iterate 6 refine st1 ?_
  refine t_same 127 (v := .bool false) rfl (congrArg Value.bool (decide_eq_false (by omega))) ?_
  refine go ?_
  refine q_p (fun g131 => ?_) fun g131 => ?_
  ·
   refine go ?_
   refine x_c func23 rfl rfl (knownCrew_c _) ?_
   rintro _ w414 ⟨rfl, u415⟩ zu415
   refine go ?_
   refine x_c func24 rfl rfl (knownOffers_c _ (by omega)) ?_
   rintro _ w419 ⟨rfl, u420⟩ zu420
   refine go ?_
   refine f_1 results6 ?_
   exact ⟨rfl, u_d⟩
  refine go ?_
  refine x_n fun bk424 w425 ebk424 sbk424 B426 u427 => ?_
  refine x_s fun w429 sw429 B431 u430 => ?_
  refine go ?_
  refine x_n fun bk434 w435 ebk434 sbk434 B436 u437 => ?_
  refine x_s fun w439 sw439 B441 u440 => ?_
  iterate 2 refine st1 ?_
  refine x_k3 (fun i => (i = gd ∧ bk370 ≤ i)) [0, 3, 5, 9, 12, 13, 14, 15, 16] (fun (am : Option Addr) (gm : Nat) (cm : Nat) => [(8, .slice am ((FD (itL l (⟨x0, x1, x2, x3⟩ : Hul) r1.s kk) ++ mvD (itK l (⟨x0, x1, x2, x3⟩ : Hul) r1.s kk)).length) cm)]) (fun am gm cm w => (Acc encDty 4 77 bk370 w am gm cm (FD (itL l (⟨x0, x1, x2, x3⟩ : Hul) r1.s kk) ++ mvD (itK l (⟨x0, x1, x2, x3⟩ : Hul) r1.s kk))) ∧ ((gm = gd ∨ w439.heap.size ≤ gm))) (fun K447 hK447 => ?_) ?_
  ·
   refine go ?_
   refine q_p (fun g156 => ?_) fun g156 => ?_
   ·
    refine go ?_
    refine x_l fun bk451 w452 ebk451 sbk451 B453 u454 => ?_
    have D456 := (((((((hdt.keep u401 (fun _ h => h)).keep u404 (fun hb => show ¬ (gd = bk398) by first | omega | assumption)).keep u427 (fun _ h => h)).keep u430 (fun hb => show ¬ (gd = bk424) by first | omega | assumption)).keep u437 (fun _ h => h)).keep u440 (fun hb => show ¬ (gd = bk434) by first | omega | assumption)).keep u454 (fun _ h => h))
    refine t_append (z := .agg #[.int .i64 0, .int .i64 0, .int .i64 0, .int .i64 0]) (bytes := 32) (k := 4) (base := bk370) (⟨(itK l (⟨x0, x1, x2, x3⟩ : Hul) r1.s kk).lv, (itK l (⟨x0, x1, x2, x3⟩ : Hul) r1.s kk).lv, (itK l (⟨x0, x1, x2, x3⟩ : Hul) r1.s kk).b, (itK l (⟨x0, x1, x2, x3⟩ : Hul) r1.s kk).b⟩ : Dty) underlying75 (by kernel_rfl) rfl (by decide) (fun _ => rfl) (by intro x; simp [encDty, Value.oneCell']) rfl rfl rfl rfl D456 B453 (by omega) (by omega) (by decide) (fun ao457 gb458 cp459 w460 A461 u462 gegb458 lngb458 => ?_)
    have zu462 := u462.size
    have lt_gb458 := A461.lt
    refine go ?_
    have hmv9 : mvD (itK l (⟨x0, x1, x2, x3⟩ : Hul) r1.s kk) = [(⟨(itK l (⟨x0, x1, x2, x3⟩ : Hul) r1.s kk).lv, (itK l (⟨x0, x1, x2, x3⟩ : Hul) r1.s kk).lv, (itK l (⟨x0, x1, x2, x3⟩ : Hul) r1.s kk).b, (itK l (⟨x0, x1, x2, x3⟩ : Hul) r1.s kk).b⟩ : Dty)] := if_pos g156
    exact hK447 ao457 gb458 cp459 ⟨(by rw [hmv9]; first | exact A461 | (rw [List.append_nil]; exact A461)), (by show gb458 = gd ∨ _; omega)⟩ (hs := by exact ⟨(by rw [hmv9]; first | rfl | (rw [List.append_nil]; rfl)), rfl, rfl, rfl, rfl, rfl, rfl, rfl, rfl, rfl, trivial⟩)
   refine go ?_
   have hmv9 : mvD (itK l (⟨x0, x1, x2, x3⟩ : Hul) r1.s kk) = [] := if_neg g156
   have D464 := ((((((hdt.keep u401 (fun _ h => h)).keep u404 (fun hb => show ¬ (gd = bk398) by first | omega | assumption)).keep u427 (fun _ h => h)).keep u430 (fun hb => show ¬ (gd = bk424) by first | omega | assumption)).keep u437 (fun _ h => h)).keep u440 (fun hb => show ¬ (gd = bk434) by first | omega | assumption))
   exact hK447 ad gd cd ⟨(by rw [hmv9]; first | exact D464 | (rw [List.append_nil]; exact D464)), (by show gd = gd ∨ _; omega)⟩ (hs := by exact ⟨(by rw [hmv9]; first | rfl | (rw [List.append_nil]; rfl)), rfl, rfl, rfl, rfl, rfl, rfl, rfl, rfl, rfl, trivial⟩)
  rintro am gm cm w448 ⟨hdm, hgm⟩ u449 zu449
  have lt_gm := hdm.lt
  have hxl9 : (FD (itL l (⟨x0, x1, x2, x3⟩ : Hul) r1.s kk) ++ mvD (itK l (⟨x0, x1, x2, x3⟩ : Hul) r1.s kk)).length ≤ 2 * kk + 1 := by
    rw [List.length_append]
    have : (mvD (itK l (⟨x0, x1, x2, x3⟩ : Hul) r1.s kk)).length ≤ 1 := by unfold mvD; split <;> simp
    omega
  refine go ?_
  refine c_drawnM follows (fun i => (i = gm ∧ bk370 ≤ i) ∨ (i = gb ∧ bk365 ≤ i)) (.look 0 (.look 1 (.look 4 (.look 5 (.act 2 (.act 3 (.act 6 (.act 7 (.look 8 (.look 9 .done)) .stop) .stop) (.act 6 (.act 3 (.act 7 (.look 8 (.look 9 .done)) .stop) .stop) .stop)) (.act 6 (.act 2 (.act 3 (.act 7 (.look 8 (.look 9 .done)) .stop) .stop) .stop) .stop)))))) (by kernel_rfl) fun w467 u468 => ?_
  have zu468 := u468.size
  refine go ?_
  refine s_or ?_ ?_
  ·
   refine go ?_
   refine x_l fun bk470 w471 ebk470 sbk470 B472 u473 => ?_
   refine go ?_
   refine s_or ?_ ?_
   ·
    refine go ?_
    have D475 := ((hdm.keep u468 (fun _ h => h)).keep u473 (fun _ h => h))
    refine t_append (z := .agg #[.int .i64 0, .int .i64 0, .int .i64 0, .int .i64 0]) (bytes := 32) (k := 4) (base := bk370) (wkD (itK l (⟨x0, x1, x2, x3⟩ : Hul) r1.s kk)) underlying75 (by kernel_rfl) rfl (by decide) (fun _ => rfl) (by intro x; simp [encDty, Value.oneCell']) rfl rfl rfl rfl D475 B472 (by omega) (by omega) (by decide) (fun ao476 gb477 cp478 w479 A480 u481 gegb477 lngb477 => ?_)
    have zu481 := u481.size
    have lt_gb477 := A480.lt
    refine go ?_
    refine x_l fun bk483 w484 ebk483 sbk483 B485 u486 => ?_
    refine go ?_
    have D488 := (((((((((((hbr.keep u401 (fun _ h => h)).keep u404 (fun hb => show ¬ (gb = bk398) by first | omega | assumption)).keep u427 (fun _ h => h)).keep u430 (fun hb => show ¬ (gb = bk424) by first | omega | assumption)).keep u437 (fun _ h => h)).keep u440 (fun hb => show ¬ (gb = bk434) by first | omega | assumption)).keep u449 (fun hb => show ¬ ((gb = gd ∧ bk370 ≤ gb)) by first | omega | assumption)).keep u468 (fun _ h => h)).keep u473 (fun _ h => h)).keep u481 (fun hb => show ¬ ((gb = gm ∧ bk370 ≤ gb)) by first | omega | assumption)).keep u486 (fun _ h => h))
    refine t_append (z := .agg #[.int .i64 0, .int .i64 0, .int .i64 0, .int .i64 0]) (bytes := 32) (k := 4) (base := bk365) (wkD (itK l (⟨x0, x1, x2, x3⟩ : Hul) r1.s kk)) underlying75 (by kernel_rfl) rfl (by decide) (fun _ => rfl) (by intro x; simp [encDty, Value.oneCell']) rfl rfl rfl rfl D488 B485 (by omega) (by omega) (by decide) (fun ao489 gb490 cp491 w492 A493 u494 gegb490 lngb490 => ?_)
    have zu494 := u494.size
    have lt_gb490 := A493.lt
    refine go ?_
    refine c_drawnM follows (fun _ => False) (OTl [0, 2, 4, 6, 8, 10, 12, 14, 16, 18, 20, 22, 24]) (by kernel_rfl) fun w496 u497 => ?_
    have zu497 := u497.size
    refine go ?_
    have hs1 : FD (itL l (⟨x0, x1, x2, x3⟩ : Hul) r1.s (kk + 1)) = FD (itL l (⟨x0, x1, x2, x3⟩ : Hul) r1.s kk) ++ mvD (itK l (⟨x0, x1, x2, x3⟩ : Hul) r1.s kk) ++ [wkD (itK l (⟨x0, x1, x2, x3⟩ : Hul) r1.s kk)] := by rw [itL_succ, FD_snoc]
    have hs2 : BD (itL l (⟨x0, x1, x2, x3⟩ : Hul) r1.s (kk + 1)) = BD (itL l (⟨x0, x1, x2, x3⟩ : Hul) r1.s kk) ++ [wkD (itK l (⟨x0, x1, x2, x3⟩ : Hul) r1.s kk)] := by rw [itL_succ, BD_snoc]
    have D499 := (((A480.keep u486 (fun _ h => h)).keep u494 (fun hb => show ¬ ((gb477 = gb ∧ bk365 ≤ gb477)) by first | omega | assumption)).keep u497 (fun _ h => h))
    have D500 := (A493.keep u497 (fun _ h => h))
    exact hK378 (kk + 1, ao476, gb477, cp478, ao489, gb490, cp491) _ _ (by show r1.s.length - (kk + 1) < r1.s.length - kk; omega) ⟨rfl, rfl, rfl, (by rw [hs1]; rfl), (by rw [hs2]; rfl), rfl, rfl, (by rw [itL_succ, smI_snoc]; rfl), rfl, trivial⟩ ⟨(((((((((((((u380.nx u401).next u404 (fun i hi (h : i = bk398) => show i = bk370 ∨ i = bk365 ∨ w371.heap.size ≤ i by first | omega | assumption)).nx u427).next u430 (fun i hi (h : i = bk424) => show i = bk370 ∨ i = bk365 ∨ w371.heap.size ≤ i by first | omega | assumption)).nx u437).next u440 (fun i hi (h : i = bk434) => show i = bk370 ∨ i = bk365 ∨ w371.heap.size ≤ i by first | omega | assumption)).next u449 (fun i hi (h : (i = gd ∧ bk370 ≤ i)) => show i = bk370 ∨ i = bk365 ∨ w371.heap.size ≤ i by first | omega | assumption)).nx u468).nx u473).next u481 (fun i hi (h : (i = gm ∧ bk370 ≤ i)) => show i = bk370 ∨ i = bk365 ∨ w371.heap.size ≤ i by first | omega | assumption)).nx u486).next u494 (fun i hi (h : (i = gb ∧ bk365 ≤ i)) => show i = bk370 ∨ i = bk365 ∨ w371.heap.size ≤ i by first | omega | assumption)).nx u497), (by omega), (by rw [hs1]; exact D499), (by rw [hs2]; exact D500), (by show (gb477 = bk370 ∨ w371.heap.size ≤ gb477) ∧ (gb490 = bk365 ∨ w371.heap.size ≤ gb490) ∧ gb477 ≠ gb490; omega), (fun j hj => by
      rw [itL_succ] at hj
      rcases List.mem_append.1 hj with q9 | q9
      · exact hall j q9
      · rw [List.mem_singleton.1 q9]; exact ⟨hir.1, hir.2.1, hir.2.2.1, by show (nth l (nth r1.s kk).toNat).e ≤ 20160; omega⟩)⟩
   refine go ?_
   refine x_l fun bk501 w502 ebk501 sbk501 B503 u504 => ?_
   refine go ?_
   have D506 := (((hdm.keep u468 (fun _ h => h)).keep u473 (fun _ h => h)).keep u504 (fun _ h => h))
   have B507 := (B472.kx u504)
   refine t_append (z := .agg #[.int .i64 0, .int .i64 0, .int .i64 0, .int .i64 0]) (bytes := 32) (k := 4) (base := bk370) (wkD (itK l (⟨x0, x1, x2, x3⟩ : Hul) r1.s kk)) underlying75 (by kernel_rfl) rfl (by decide) (fun _ => rfl) (by intro x; simp [encDty, Value.oneCell']) rfl rfl rfl rfl D506 B507 (by omega) (by omega) (by decide) (fun ao508 gb509 cp510 w511 A512 u513 gegb509 lngb509 => ?_)
   have zu513 := u513.size
   have lt_gb509 := A512.lt
   refine go ?_
   have D515 := (((((((((((hbr.keep u401 (fun _ h => h)).keep u404 (fun hb => show ¬ (gb = bk398) by first | omega | assumption)).keep u427 (fun _ h => h)).keep u430 (fun hb => show ¬ (gb = bk424) by first | omega | assumption)).keep u437 (fun _ h => h)).keep u440 (fun hb => show ¬ (gb = bk434) by first | omega | assumption)).keep u449 (fun hb => show ¬ ((gb = gd ∧ bk370 ≤ gb)) by first | omega | assumption)).keep u468 (fun _ h => h)).keep u473 (fun _ h => h)).keep u504 (fun _ h => h)).keep u513 (fun hb => show ¬ ((gb = gm ∧ bk370 ≤ gb)) by first | omega | assumption))
   have B516 := (B503.keep u513 (by omega))
   refine t_append (z := .agg #[.int .i64 0, .int .i64 0, .int .i64 0, .int .i64 0]) (bytes := 32) (k := 4) (base := bk365) (wkD (itK l (⟨x0, x1, x2, x3⟩ : Hul) r1.s kk)) underlying75 (by kernel_rfl) rfl (by decide) (fun _ => rfl) (by intro x; simp [encDty, Value.oneCell']) rfl rfl rfl rfl D515 B516 (by omega) (by omega) (by decide) (fun ao517 gb518 cp519 w520 A521 u522 gegb518 lngb518 => ?_)
   have zu522 := u522.size
   have lt_gb518 := A521.lt
   refine go ?_
   refine c_drawnM follows (fun _ => False) (OTl [0, 2, 4, 6, 8, 10, 12, 14, 16, 18, 20, 22, 24]) (by kernel_rfl) fun w524 u525 => ?_
   have zu525 := u525.size
   refine go ?_
   have hs1 : FD (itL l (⟨x0, x1, x2, x3⟩ : Hul) r1.s (kk + 1)) = FD (itL l (⟨x0, x1, x2, x3⟩ : Hul) r1.s kk) ++ mvD (itK l (⟨x0, x1, x2, x3⟩ : Hul) r1.s kk) ++ [wkD (itK l (⟨x0, x1, x2, x3⟩ : Hul) r1.s kk)] := by rw [itL_succ, FD_snoc]
   have hs2 : BD (itL l (⟨x0, x1, x2, x3⟩ : Hul) r1.s (kk + 1)) = BD (itL l (⟨x0, x1, x2, x3⟩ : Hul) r1.s kk) ++ [wkD (itK l (⟨x0, x1, x2, x3⟩ : Hul) r1.s kk)] := by rw [itL_succ, BD_snoc]
   have D527 := ((A512.keep u522 (fun hb => show ¬ ((gb509 = gb ∧ bk365 ≤ gb509)) by first | omega | assumption)).keep u525 (fun _ h => h))
   have D528 := (A521.keep u525 (fun _ h => h))
   exact hK378 (kk + 1, ao508, gb509, cp510, ao517, gb518, cp519) _ _ (by show r1.s.length - (kk + 1) < r1.s.length - kk; omega) ⟨rfl, rfl, rfl, (by rw [hs1]; rfl), (by rw [hs2]; rfl), rfl, rfl, (by rw [itL_succ, smI_snoc]; rfl), rfl, trivial⟩ ⟨(((((((((((((u380.nx u401).next u404 (fun i hi (h : i = bk398) => show i = bk370 ∨ i = bk365 ∨ w371.heap.size ≤ i by first | omega | assumption)).nx u427).next u430 (fun i hi (h : i = bk424) => show i = bk370 ∨ i = bk365 ∨ w371.heap.size ≤ i by first | omega | assumption)).nx u437).next u440 (fun i hi (h : i = bk434) => show i = bk370 ∨ i = bk365 ∨ w371.heap.size ≤ i by first | omega | assumption)).next u449 (fun i hi (h : (i = gd ∧ bk370 ≤ i)) => show i = bk370 ∨ i = bk365 ∨ w371.heap.size ≤ i by first | omega | assumption)).nx u468).nx u473).nx u504).next u513 (fun i hi (h : (i = gm ∧ bk370 ≤ i)) => show i = bk370 ∨ i = bk365 ∨ w371.heap.size ≤ i by first | omega | assumption)).next u522 (fun i hi (h : (i = gb ∧ bk365 ≤ i)) => show i = bk370 ∨ i = bk365 ∨ w371.heap.size ≤ i by first | omega | assumption)).nx u525), (by omega), (by rw [hs1]; exact D527), (by rw [hs2]; exact D528), (by show (gb509 = bk370 ∨ w371.heap.size ≤ gb509) ∧ (gb518 = bk365 ∨ w371.heap.size ≤ gb518) ∧ gb509 ≠ gb518; omega), (fun j hj => by
     rw [itL_succ] at hj
     rcases List.mem_append.1 hj with q9 | q9
     · exact hall j q9
     · rw [List.mem_singleton.1 q9]; exact ⟨hir.1, hir.2.1, hir.2.2.1, by show (nth l (nth r1.s kk).toNat).e ≤ 20160; omega⟩)⟩
  refine go ?_
  refine x_l fun bk529 w530 ebk529 sbk529 B531 u532 => ?_
  refine go ?_
  refine x_l fun bk534 w535 ebk534 sbk534 B536 u537 => ?_
  refine go ?_
  have D539 := (((hdm.keep u468 (fun _ h => h)).keep u532 (fun _ h => h)).keep u537 (fun _ h => h))
  refine t_append (z := .agg #[.int .i64 0, .int .i64 0, .int .i64 0, .int .i64 0]) (bytes := 32) (k := 4) (base := bk370) (wkD (itK l (⟨x0, x1, x2, x3⟩ : Hul) r1.s kk)) underlying75 (by kernel_rfl) rfl (by decide) (fun _ => rfl) (by intro x; simp [encDty, Value.oneCell']) rfl rfl rfl rfl D539 B536 (by omega) (by omega) (by decide) (fun ao540 gb541 cp542 w543 A544 u545 gegb541 lngb541 => ?_)
  have zu545 := u545.size
  have lt_gb541 := A544.lt
  refine go ?_
  have D547 := (((((((((((hbr.keep u401 (fun _ h => h)).keep u404 (fun hb => show ¬ (gb = bk398) by first | omega | assumption)).keep u427 (fun _ h => h)).keep u430 (fun hb => show ¬ (gb = bk424) by first | omega | assumption)).keep u437 (fun _ h => h)).keep u440 (fun hb => show ¬ (gb = bk434) by first | omega | assumption)).keep u449 (fun hb => show ¬ ((gb = gd ∧ bk370 ≤ gb)) by first | omega | assumption)).keep u468 (fun _ h => h)).keep u532 (fun _ h => h)).keep u537 (fun _ h => h)).keep u545 (fun hb => show ¬ ((gb = gm ∧ bk370 ≤ gb)) by first | omega | assumption))
  have B548 := ((B531.kx u537).keep u545 (by omega))
  refine t_append (z := .agg #[.int .i64 0, .int .i64 0, .int .i64 0, .int .i64 0]) (bytes := 32) (k := 4) (base := bk365) (wkD (itK l (⟨x0, x1, x2, x3⟩ : Hul) r1.s kk)) underlying75 (by kernel_rfl) rfl (by decide) (fun _ => rfl) (by intro x; simp [encDty, Value.oneCell']) rfl rfl rfl rfl D547 B548 (by omega) (by omega) (by decide) (fun ao549 gb550 cp551 w552 A553 u554 gegb550 lngb550 => ?_)
  have zu554 := u554.size
  have lt_gb550 := A553.lt
  refine go ?_
  refine c_drawnM follows (fun _ => False) (OTl [0, 2, 4, 6, 8, 10, 12, 14, 16, 18, 20, 22, 24]) (by kernel_rfl) fun w556 u557 => ?_
  have zu557 := u557.size
  refine go ?_
  have hs1 : FD (itL l (⟨x0, x1, x2, x3⟩ : Hul) r1.s (kk + 1)) = FD (itL l (⟨x0, x1, x2, x3⟩ : Hul) r1.s kk) ++ mvD (itK l (⟨x0, x1, x2, x3⟩ : Hul) r1.s kk) ++ [wkD (itK l (⟨x0, x1, x2, x3⟩ : Hul) r1.s kk)] := by rw [itL_succ, FD_snoc]
  have hs2 : BD (itL l (⟨x0, x1, x2, x3⟩ : Hul) r1.s (kk + 1)) = BD (itL l (⟨x0, x1, x2, x3⟩ : Hul) r1.s kk) ++ [wkD (itK l (⟨x0, x1, x2, x3⟩ : Hul) r1.s kk)] := by rw [itL_succ, BD_snoc]
  have D559 := ((A544.keep u554 (fun hb => show ¬ ((gb541 = gb ∧ bk365 ≤ gb541)) by first | omega | assumption)).keep u557 (fun _ h => h))
  have D560 := (A553.keep u557 (fun _ h => h))
  exact hK378 (kk + 1, ao540, gb541, cp542, ao549, gb550, cp551) _ _ (by show r1.s.length - (kk + 1) < r1.s.length - kk; omega) ⟨rfl, rfl, rfl, (by rw [hs1]; rfl), (by rw [hs2]; rfl), rfl, rfl, (by rw [itL_succ, smI_snoc]; rfl), rfl, trivial⟩ ⟨(((((((((((((u380.nx u401).next u404 (fun i hi (h : i = bk398) => show i = bk370 ∨ i = bk365 ∨ w371.heap.size ≤ i by first | omega | assumption)).nx u427).next u430 (fun i hi (h : i = bk424) => show i = bk370 ∨ i = bk365 ∨ w371.heap.size ≤ i by first | omega | assumption)).nx u437).next u440 (fun i hi (h : i = bk434) => show i = bk370 ∨ i = bk365 ∨ w371.heap.size ≤ i by first | omega | assumption)).next u449 (fun i hi (h : (i = gd ∧ bk370 ≤ i)) => show i = bk370 ∨ i = bk365 ∨ w371.heap.size ≤ i by first | omega | assumption)).nx u468).nx u532).nx u537).next u545 (fun i hi (h : (i = gm ∧ bk370 ≤ i)) => show i = bk370 ∨ i = bk365 ∨ w371.heap.size ≤ i by first | omega | assumption)).next u554 (fun i hi (h : (i = gb ∧ bk365 ≤ i)) => show i = bk370 ∨ i = bk365 ∨ w371.heap.size ≤ i by first | omega | assumption)).nx u557), (by omega), (by rw [hs1]; exact D559), (by rw [hs2]; exact D560), (by show (gb541 = bk370 ∨ w371.heap.size ≤ gb541) ∧ (gb550 = bk365 ∨ w371.heap.size ≤ gb550) ∧ gb541 ≠ gb550; omega), (fun j hj => by
    rw [itL_succ] at hj
    rcases List.mem_append.1 hj with q9 | q9
    · exact hall j q9
    · rw [List.mem_singleton.1 q9]; exact ⟨hir.1, hir.2.1, hir.2.2.1, by show (nth l (nth r1.s kk).toNat).e ≤ 20160; omega⟩)⟩
 have hii : kk = r1.s.length := by omega
 obtain ⟨hchn, _⟩ := chn_K hok hhu hfe kk hi
 obtain ⟨hfx0, hfL⟩ := chn_lin hchn
 obtain ⟨hbx0, hbL⟩ := chn_linB hchn
 have hfx : ∀ x ∈ fS (itL l (⟨x0, x1, x2, x3⟩ : Hul) r1.s kk), 0 ≤ x.b ∧ x.b ≤ x.e := fun x hx => by have h9 := hfx0 x hx; have h8 : x1 ≤ x.b := h9.1; omega
 have hbx : ∀ x ∈ bS (itL l (⟨x0, x1, x2, x3⟩ : Hul) r1.s kk), 0 ≤ x.b ∧ x.b ≤ x.e := fun x hx => by have h9 := hbx0 x hx; have h8 : x1 ≤ x.b := h9.1; omega
 refine go ?_
 refine q_p (fun g181 => ?_) fun g181 => ?_
 ·
  refine go ?_
  refine x_c func23 rfl rfl (knownCrew_c _) ?_
  rintro _ w565 ⟨rfl, u566⟩ zu566
  refine go ?_
  refine x_c func24 rfl rfl (knownOffers_c _ (by omega)) ?_
  rintro _ w570 ⟨rfl, u571⟩ zu571
  refine go ?_
  refine f_1 results6 ?_
  exact ⟨rfl, u_d⟩
 have hck2 : chkRD (⟨600, 840, 600, 2880, 1000⟩ : Rul) (BD (itL l (⟨x0, x1, x2, x3⟩ : Hul) r1.s kk)) = 0 := chk_0 (by decide) (by omega) (FD_ok hall).2
 refine go ?_
 refine x_c func25 rfl rfl (haulRest_c _) ?_
 rintro _ w576 ⟨rfl, u577⟩ zu577
 refine x_l fun bk580 w581 ebk580 sbk580 B582 u583 => ?_
 refine go ?_
 have D585 := ((hdt.keep u577 (fun _ h => h)).keep u583 (fun _ h => h))
 refine t_copy (enc := encDty) (z := .agg #[.int .i64 0, .int .i64 0, .int .i64 0, .int .i64 0]) (bytes := 32) (k := 4) (ys := (FD (itL l (⟨x0, x1, x2, x3⟩ : Hul) r1.s kk))) underlying75 (by kernel_rfl) rfl (by decide) (fun _ => rfl) (by intro x; simp [encDty, Value.oneCell']) rfl rfl rfl rfl B582 (D585.sl (fun _ => rfl)) (by omega) (by decide) (fun ao586 gb587 cp588 w589 A590 u591 gegb587 => ?_)
 have zu591 := u591.size
 have lt_gb587 := A590.lt
 refine x_c func21 rfl rfl (Rested_c (⟨600, 840, 600, 2880, 1000⟩ : Rul) (FD (itL l (⟨x0, x1, x2, x3⟩ : Hul) r1.s kk)) ao586 gb587 0 cp588 _ (A590.sl (fun _ => rfl)) (by omega) (by omega)) ?_
 rintro _ w594 ⟨⟨at9, ru9, po9, er9, rfl, hR9⟩, u595⟩ zu595
 obtain ⟨hck1, rfl, hru1⟩ := rule_no1 (by decide) (by omega) (FD_ok hall).1 (by rw [FD_map]; exact hfx) (by rw [FD_map]; exact hfL) hR9
 refine go ?_
 refine x_c func25 rfl rfl (haulRest_c _) ?_
 rintro _ w600 ⟨rfl, u601⟩ zu601
 refine go ?_
 have D604 := (((D585.keep u591 (fun hb => show ¬ ((gd = bk580 ∧ bk580 ≤ gd)) by first | omega | assumption)).keep u595 (fun _ h => h)).keep u601 (fun _ h => h))
 refine x_c func26 rfl rfl (Shifts_c (⟨600, 840, 600, 2880, 1000⟩ : Rul) (FD (itL l (⟨x0, x1, x2, x3⟩ : Hul) r1.s kk)) ad gd 0 cd _ (D604.sl (fun _ => rfl)) (by omega) (by omega)) ?_
 rintro _ w606 ⟨⟨as1, gs1, cs1, sh1, es1, rfl, hS1, hC1⟩, u607⟩ zu607
 obtain ⟨_, rfl, hq1⟩ := hC1.resolve_left (fun h => h.1 hck1)
 rw [FD_map, srt_lin (fun x hx => (hfx x hx).2) hfL] at hq1
 have hsl1 : sh1.length ≤ 40 := by
   have h9 := shifts_len9 (⟨600, 840, 600, 2880, 1000⟩ : Rul) (fS (itL l (⟨x0, x1, x2, x3⟩ : Hul) r1.s kk))
   rw [← hq1, ← FD_map, List.length_map] at h9
   omega
 refine go ?_
 refine x_c func25 rfl rfl (haulRest_c _) ?_
 rintro _ w612 ⟨rfl, u613⟩ zu613
 refine go ?_
 have D616 := (((((((hbr.keep u577 (fun _ h => h)).keep u583 (fun _ h => h)).keep u591 (fun hb => show ¬ ((gb = bk580 ∧ bk580 ≤ gb)) by first | omega | assumption)).keep u595 (fun _ h => h)).keep u601 (fun _ h => h)).keep u607 (fun _ h => h)).keep u613 (fun _ h => h))
 refine x_c func26 rfl rfl (Shifts_c (⟨600, 840, 600, 2880, 1000⟩ : Rul) (BD (itL l (⟨x0, x1, x2, x3⟩ : Hul) r1.s kk)) ab gb 0 cb _ (D616.sl (fun _ => rfl)) (by omega) (by omega)) ?_
 rintro _ w618 ⟨⟨as2, gs2, cs2, sh2, es2, rfl, hS2, hC2⟩, u619⟩ zu619
 obtain ⟨_, rfl, hq2⟩ := hC2.resolve_left (fun h => h.1 hck2)
 rw [BD_map, srt_lin (fun x hx => (hbx x hx).2) hbL] at hq2
 obtain ⟨hn1, hn2, htw, hmx⟩ := shifts_K (r := (⟨600, 840, 600, 2880, 1000⟩ : Rul)) (by decide) (by omega) hchn
 rw [← hq1] at hn1 htw hmx
 rw [← hq2] at hn2 hmx
 have hsl2 : sh2.length ≤ 40 := by
   have h9 := shifts_len9 (⟨600, 840, 600, 2880, 1000⟩ : Rul) (bS (itL l (⟨x0, x1, x2, x3⟩ : Hul) r1.s kk))
   rw [← hq2, ← BD_map, List.length_map] at h9
   omega
 iterate 23 refine st1 ?_
 refine t_same 220 (v := .bool false) rfl (congrArg Value.bool (decide_eq_false (hru1))) ?_
 refine go ?_
 refine x_l1 (fun _ => False) [21, 23, 26] (fun (q : Nat) => [(12, .int .i64 (smI (itL l (⟨x0, x1, x2, x3⟩ : Hul) r1.s kk) - smW sh1 q)), (25, .int .i64 (mxW sh1 q)), (27, .int .i64 (q : Int))]) (fun q w => (q ≤ sh1.length)) (fun q => sh1.length - q) 0 (Nat.zero_le _) ?_ (h0 := by exact ⟨(congrArg (fun z => some (Value.int .i64 z)) (Int.sub_zero _).symm), rfl, rfl, rfl, rfl, rfl, trivial⟩)
 rintro q w628 hq u629 zu629 K627 hK627
 refine go ?_
 refine q_p (fun g225 => ?_) fun g225 => ?_
 ·
  have hw1 := hn1 _ (nth_mem (xs := sh1) (i := q) (by omega))
  have hb1 : 0 ≤ smW sh1 q ∧ smW sh1 q ≤ totW sh1 := (totW_rng hn1).2 q
  have hb2 : 0 ≤ smW sh1 (q + 1) ∧ smW sh1 (q + 1) ≤ totW sh1 := (totW_rng hn1).2 (q + 1)
  rw [smW_succ (by omega)] at hb2
  have hsmT := smI_rng hall
  rw [itL_len] at hsmT
  refine go ?_
  refine c_drawnM follows (fun _ => False) (OTl [0, 2, 4, 6, 8, 10, 12, 14, 16, 18, 20, 22, 24, 26, 28, 30]) (by kernel_rfl) fun w634 u635 => ?_
  have zu635 := u635.size
  refine go ?_
  have D637 := ((((hS1.keep u613 (fun _ h => h)).keep u619 (fun _ h => h)).keep u629 (fun _ h => h)).keep u635 (fun _ h => h))
  refine y_i q D637 (fun _ => ?_)
  refine go ?_
  refine y_i q D637 (fun _ => ?_)
  refine go ?_
  refine y_max rfl rfl rfl rfl ?_
  refine go ?_
  have hs33 : smI (itL l (⟨x0, x1, x2, x3⟩ : Hul) r1.s kk) - smW sh1 q - (nth sh1 q).w = smI (itL l (⟨x0, x1, x2, x3⟩ : Hul) r1.s kk) - smW sh1 (q + 1) := by rw [smW_succ (by omega)]; omega
  exact hK627 (q + 1) (by omega) (hs := by exact ⟨(by rw [← hs33]; rfl), (by rw [mxW_succ (l := sh1) (k := q) (by omega)]; rfl), rfl, rfl, rfl, rfl, trivial⟩)
 have hqq : q = sh1.length := by omega
 have hfin : smW sh1 q = totW sh1 := by unfold smW; rw [hqq, List.take_length]
 refine go ?_
 refine x_l1 (fun _ => False) [12, 23, 25] (fun (p : Nat) => [(26, .int .i64 (mxW sh2 p)), (28, .int .i64 (p : Int))]) (fun p w => (p ≤ sh2.length)) (fun p => sh2.length - p) 0 (Nat.zero_le _) ?_
 rintro p w643 hp u644 zu644 K642 hK642
 refine go ?_
 refine q_p (fun g245 => ?_) fun g245 => ?_
 ·
  refine go ?_
  have D649 := ((hS2.keep u629 (fun _ h => h)).keep u644 (fun _ h => h))
  refine g_i p D649 (fun _ => ?_)
  refine go ?_
  refine t_max rfl rfl rfl rfl ?_
  refine go ?_
  exact hK642 (p + 1) (by omega) (hs := by exact ⟨(by rw [mxW_succ (l := sh2) (k := p) (by omega)]; rfl), rfl, rfl, rfl, rfl, trivial⟩)
 have hpp : p = sh2.length := by omega
 have hmx2 : mxW sh2 p ≤ mxW sh1 q := by rw [hpp, hqq]; exact hmx
 iterate 10 refine st1 ?_
 refine t_same 256 (v := .bool true) rfl (congrArg Value.bool (decide_eq_true (by omega))) ?_
 iterate 4 refine st1 ?_
 refine t_same 260 (v := .bool true) rfl (congrArg Value.bool (decide_eq_true (hmx2))) ?_
 refine go ?_
 refine x_c func23 rfl rfl (knownCrew_c _) ?_
 rintro _ w653 ⟨rfl, u654⟩ zu654
 refine go ?_
 refine x_c func24 rfl rfl (knownOffers_c _ (by omega)) ?_
 rintro _ w658 ⟨rfl, u659⟩ zu659
 refine go ?_
 refine f_1 results6 ?_
 exact ⟨rfl, u_d⟩

end Go.Proofs.YtclinbbghnebaaaGreat
