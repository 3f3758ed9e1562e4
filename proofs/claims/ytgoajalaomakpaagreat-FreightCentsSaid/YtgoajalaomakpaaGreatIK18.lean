/-
  Part 18 of the proof: contracts and plain laws. Conditions: none.
-/
import Derived.Test.YtgoajalaomakpaaGreatIK17
namespace Go.Proofs.YtgoajalaomakpaaGreat
open Go Go.RowKit Go.Proofs.Tryz
set_option maxHeartbeats 4000000 in
theorem FreightCents_c (cls : List HCl) (al : Option Addr) (bl ol cl : Nat) (fs : List T2) (af : Option Addr) (bf of_ cf : Nat) (w0 : World) (hc : Sl encHCl 14 w0 al bl ol cls) (hcl : cls.length ≤ 9223372036854775807) (hclw : ∀ h ∈ cls, Sl encU2 2 w0 h.ao h.g h.o h.ss ∧ h.ss.length ≤ 9223372036854775807 ∧ okCll h.v ∧ ∀ y ∈ h.ss, okU2 y) (hf : Sl encX2 2 w0 af bf of_ fs) (hfl : fs.length ≤ 9223372036854775807) (hfs : ∀ x ∈ fs, okX2 x) :
    CallsV Tryz.prog 5 [.slice al cls.length cl, .slice af fs.length cf] w0 (fun v w' => v = .bool true ∧ Ext w0 w') := by
 have hxs : OkXS (clX cls) (clS cls) (min cls.length 3) := fun j hj => ⟨(hclw _ (nth_mem (by omega))).2.2.1, (hclw _ (nth_mem (by omega))).2.2.2⟩
 have hfc := spL_chk hfs
 have hfn := (spL_ok hfs).1
 refine f_n func5 ?_
 refine go ?_
 refine x_c func20 rfl rfl (calls_c cls al bl ol cl false _ hc hcl hclw) ?_
 rintro _ w5 ⟨⟨hsQ3, ahQ3, ghQ3, chQ3, amQ3, gmQ3, cmQ3, rfl, hHQ3, hMQ3, hdQ3, hgoQ3, hggQ3, hszQ3⟩, u6⟩ zu6
 have E8 := Sc.mk ((Upd.refl (fun _ => False) w0).nx u6)
 have lt_ghQ3 := hHQ3.lt
 have lt_gmQ3 := hMQ3.lt
 have hhlQ3 := hdQ3.1
 have hmlQ3 := rpC_len (cor := false) (X := (clX cls)) (S := (clS cls)) (min cls.length 3)
 have hltQ3 : ∀ i, i < (min cls.length 3) → 0 < (nth hsQ3 i).ws.length → (nth hsQ3 i).g < w5.heap.size := fun i hi h9 => (hdQ3.2 i hi).2.2.lt h9
 refine go ?_
 refine x_c func21 rfl rfl (spans_c fs af bf of_ cf _ (hf.keep E8.u (fun _ h => h)) (by omega) hfs) ?_
 rintro _ w12 ⟨⟨aF10, gF10, cF10, rfl, hF10, hgF10, hzF10⟩, u13⟩ zu13
 have hlF10 := hF10.lt
 refine go ?_
 have D18 := (hdQ3.keep u13 (fun _ _ _ h => h))
 have hmdH17 := D18
 have D19 := (hHQ3.keep u13 (fun _ h => h))
 refine x_c func23 rfl rfl (charters_c hsQ3 ahQ3 ghQ3 0 chQ3 _ (D19.sl (fun _ => rfl)) (by omega) hmdH17.rows (by omega)) ?_
 rintro _ w21 ⟨⟨csH17, aH17, gH17, cH17, rfl, hH17, hcpH17⟩, u22⟩ zu22
 have lt_gH17 := hH17.lt
 have hkH17 := hmdH17.copy hcpH17
 have hklH17 := hkH17.1
 refine go ?_
 have D26 := (hF10.keep u22 (fun _ h => h))
 refine x_c func24 rfl rfl (times_c (spL fs) aF10 gF10 0 cF10 _ D26 (by omega) (by omega)) ?_
 rintro _ w28 ⟨⟨aT25, gT25, cT25, rfl, hT25⟩, u29⟩ zu29
 have lt_gT25 := hT25.lt
 refine go ?_
 have D33 := (((hMQ3.keep u13 (fun _ h => h)).keep u22 (fun _ h => h)).keep u29 (fun _ h => h))
 refine x_c func25 rfl rfl (messages_c (rpC false (clX cls) (clS cls) (min cls.length 3)) amQ3 gmQ3 0 cmQ3 _ (D33.sl (fun _ => rfl)) (by omega) (by omega)) ?_
 rintro _ w35 ⟨⟨aM32, gM32, cM32, rfl, hM32⟩, u36⟩ zu36
 have lt_gM32 := hM32.lt
 have D40 := ((hkH17.keep u29 (fun _ _ _ h => h)).keep u36 (fun _ _ _ h => h))
 have hmB39 := D40
 have D41 := ((hH17.keep u29 (fun _ h => h)).keep u36 (fun _ h => h))
 have D42 := (hT25.keep u36 (fun _ h => h))
 refine x_c func22 rfl rfl (Balance_c csH17 aH17 gH17 0 cH17 (spL fs) aT25 gT25 0 cT25 (rpC false (clX cls) (clS cls) (min cls.length 3)) aM32 gM32 0 cM32 _ (D41.sl (fun _ => rfl)) (by omega) hmB39.rows (D42.sl (fun _ => rfl)) (by omega) (hM32.sl (fun _ => rfl)) (by omega) (by omega)) ?_
 rintro _ w44 ⟨⟨bB39, eB39, aB39, gB39, cB39, rfl, ⟨hSB39, hGB39⟩, hRB39⟩, u45⟩ zu45
 obtain ⟨rfl, rfl⟩ := BalR.val hRB39 (rpC_cov (cor := false)) (by omega) hxs (by omega) hklH17 (fun k hk => ⟨(hmB39.2 k hk).1, (hmB39.2 k hk).2.1⟩) hfc
 have hblB39 := baP_len (p := (fun _ => true)) (X := (clX cls)) (S := (clS cls)) (fr := (spL fs)) (min cls.length 3)
 have hlbB39 := hSB39.lt (by omega)
 have hgbB39 := hGB39 (by omega)
 iterate 23 refine st1 ?_
 refine t_same 55 (v := .bool false) rfl (congrArg Value.bool (decide_eq_false (fun h => h (by rw [baP_len]; rfl)))) ?_
 refine go ?_
 refine t_build (ps := []) (v := .agg ((List.replicate 100 (0 : Int)).map (Value.int .i64)).toArray) rfl rfl ⟨rfl, rfl⟩ (fun w => by kernel_rfl) (t_alloc (cs := ((List.replicate 100 (0 : Int)).map (Value.int .i64))) zeroValue63 (by kernel_rfl) rfl rfl (fun bk53 w54 ebk53 sbk53 B55 u56 => ?_))
 refine go ?_
 refine t_st (vs := ((List.replicate 100 (0 : Int)).map (Value.int .i64))) sizeOf63 rfl rfl rfl B55 rfl (by kernel_rfl) (by kernel_rfl) (by kernel_rfl) (fun w58 sw58 B60 u59 => ?_)
 have B62 : Blk w58 bk53 63 ((List.replicate 100 (0 : Int)).map (Value.int .i64)) := by
   have e : lay ((List.replicate 100 (0 : Int)).map (Value.int .i64)) 0 ((List.replicate 100 (0 : Int)).map (Value.int .i64)) = ((List.replicate 100 (0 : Int)).map (Value.int .i64)) := by kernel_rfl
   rw [← e]; exact B60
 refine go ?_
 refine x_l1 (fun _ => False) [0, 5, 7, 8, 11] (fun (k : Nat) => [(10, .int .i64 (smK (baP (fun _ => true) (clX cls) (clS cls) (spL fs) (min cls.length 3)) k)), (12, .int .i64 (k : Int))]) (fun k w => (k ≤ 100)) (fun k => 100 - k) 0 (by omega) ?_
 rintro k w66 hk u67 zu67 K65 hK65
 refine go ?_
 refine q_p (fun g60 => ?_) fun g60 => ?_
 ·
  have hsm := smK_bd (b := (baP (fun _ => true) (clX cls) (clS cls) (spL fs) (min cls.length 3))) (B := 1200000000000000) (fun j hj => by have := baP_bd (p := (fun _ => true)) (fr := spL fs) hj hxs; omega) (k := k) (by omega)
  have hbj := baP_bd (p := (fun _ => true)) (fr := spL fs) (j := k) (by omega) hxs
  refine go ?_
  have D72 := (((hSB39.keep u56 (fun _ h => h)).keep u59 (fun _ => show ¬ (gB39 = bk53) by omega)).keep u67 (fun _ h => h))
  refine g_i k D72 (fun _ => ?_)
  refine go ?_
  exact hK65 (k + 1) (by omega)
 refine c_same 10 (v := .int .i64 0) rfl (congrArg (Value.int .i64) (by rw [show k = 100 by omega]; exact baP_sum hxs)) ?_
 refine go ?_
 have B76 := (B62.kx u67)
 refine x_l1 (fun i => i = bk53 ∨ w66.heap.size ≤ i) [0, 5, 7, 8, 10, 11] (fun (i : Nat) => [(13, .int .i64 (i : Int))]) (fun i w => Blk w bk53 63 ((baP (fun _ => true) (clX cls) (clS cls) (spL fs) i).map (Value.int .i64)) ∧ (i ≤ (min cls.length 3))) (fun i => (min cls.length 3) - i) 0 ⟨B76, (by omega)⟩ ?_
 rintro i w78 ⟨I80, hi⟩ u79 zu79 K77 hK77
 have E81 := Sc.mk (((((((((E8.u.nx u13).nx u22).nx u29).nx u36).nx u45).nx u56).next u59 (fun i hi h => by omega)).nx u67).next u79 (fun i hi (h : i = bk53 ∨ w66.heap.size ≤ i) => show False by first | omega | assumption))
 refine go ?_
 refine q_p (fun g72 => ?_) fun g72 => ?_
 ·
  have D84 := ((((((((D18.keep u22 (fun _ _ _ h => h)).keep u29 (fun _ _ _ h => h)).keep u36 (fun _ _ _ h => h)).keep u45 (fun _ _ _ h => h)).keep u56 (fun _ _ _ h => h)).keep u59 (fun i hi h9 => show ¬ ((nth hsQ3 i).g = bk53) by have := hgoQ3 i hi h9; have := hltQ3 i hi h9; omega)).keep u67 (fun _ _ _ h => h)).keep u79 (fun i hi h9 => show ¬ ((nth hsQ3 i).g = bk53 ∨ w66.heap.size ≤ (nth hsQ3 i).g) by have := hgoQ3 i hi h9; have := hltQ3 i hi h9; omega))
  have hi9 : i < (min cls.length 3) := by omega
  have hv8 := D84.2 i hi9
  have hv9 : (nth hsQ3 i).v = tmC (clX cls i) ∧ (nth hsQ3 i).ws = tmW (clX cls i) := ⟨hv8.1, hv8.2.1⟩
  obtain ⟨hx9, hs9⟩ := hxs i hi9
  have hcc := hclw (nth cls i) (nth_mem (by omega))
  have hp9 := hc.lt (by omega)
  have hok := blC_ok (fr := spL fs) hx9 hs9
  obtain ⟨ho1, ⟨hob1, hob2, hob3, hob4⟩, ho3, ho4, ho5, ho6, ho7, ho8⟩ := hok
  have hlb := ltP_bd (fr := spL fs) hx9 hs9
  have hvr : ((0 ≤ (nth hsQ3 i).v.s ∧ (nth hsQ3 i).v.s ≤ 4) ∧ (0 ≤ (nth hsQ3 i).v.c ∧ (nth hsQ3 i).v.c ≤ 4) ∧ (0 ≤ (nth hsQ3 i).v.k ∧ (nth hsQ3 i).v.k ≤ 4)) ∧ (nth hsQ3 i).v.r * (nth hsQ3 i).v.n ≤ ((blC (clX cls i) (clS cls i) (spL fs))).f ∧ 0 ≤ (nth hsQ3 i).v.r * (nth hsQ3 i).v.n := by
    rw [hv9.1]
    refine ⟨?_, ho6, ho7⟩
    unfold okCll at hx9
    simp only [tmC]
    omega
  have hR0 : (List.replicate 100 (0 : Int)).length = 100 := List.length_replicate ..
  have hb0 : BdB 0 (List.replicate 100 (0 : Int)) := fun j hj => by rw [nth_zero]; omega
  have hbt := blC_bd (fr := spL fs) hx9 hs9
  have q1 := hb0 (nth hsQ3 i).v.s.toNat (by omega)
  have s1 := hb0.set (i := (nth hsQ3 i).v.s.toNat) (v := nth (List.replicate 100 (0 : Int)) (nth hsQ3 i).v.s.toNat - (blC (clX cls i) (clS cls i) (spL fs)).t) (C := 100000000000000) (by omega) (by omega)
  have hl1 : ((List.replicate 100 (0 : Int)).set (nth hsQ3 i).v.s.toNat (nth (List.replicate 100 (0 : Int)) (nth hsQ3 i).v.s.toNat - (blC (clX cls i) (clS cls i) (spL fs)).t)).length = 100 := by rw [List.length_set]; exact hR0
  have q2 := s1 (nth hsQ3 i).v.c.toNat (by omega)
  have s2 := s1.set (i := (nth hsQ3 i).v.c.toNat) (v := (nth ((List.replicate 100 (0 : Int)).set (nth hsQ3 i).v.s.toNat (nth (List.replicate 100 (0 : Int)) (nth hsQ3 i).v.s.toNat - (blC (clX cls i) (clS cls i) (spL fs)).t)) (nth hsQ3 i).v.c.toNat + ((blC (clX cls i) (clS cls i) (spL fs)).t - (blC (clX cls i) (clS cls i) (spL fs)).c))) (C := 300000000000000) (by omega) (by omega)
  have hl2 : (((List.replicate 100 (0 : Int)).set (nth hsQ3 i).v.s.toNat (nth (List.replicate 100 (0 : Int)) (nth hsQ3 i).v.s.toNat - (blC (clX cls i) (clS cls i) (spL fs)).t)).set (nth hsQ3 i).v.c.toNat (nth ((List.replicate 100 (0 : Int)).set (nth hsQ3 i).v.s.toNat (nth (List.replicate 100 (0 : Int)) (nth hsQ3 i).v.s.toNat - (blC (clX cls i) (clS cls i) (spL fs)).t)) (nth hsQ3 i).v.c.toNat + ((blC (clX cls i) (clS cls i) (spL fs)).t - (blC (clX cls i) (clS cls i) (spL fs)).c))).length = 100 := by rw [List.length_set]; exact hl1
  have q3 := s2 (nth hsQ3 i).v.k.toNat (by omega)
  refine go ?_
  refine g_i i (hc.keep E81.u (fun _ h => h)) (fun _ => ?_)
  refine go ?_
  refine x_c func26 rfl rfl (report_c (nth cls i).v (nth cls i).ss (nth cls i).ao (nth cls i).g (nth cls i).o (nth cls i).cp (i : Int) false _ hcc.2.2.1 ((hclw (nth cls i) (nth_mem (by omega))).1.keep E81.u (fun _ h => h)) hcc.2.1 hcc.2.2.2 (by omega)) ?_
  rintro _ w89 ⟨⟨aR, gR, cR, rfl, hR, hgR, hzR⟩, u90⟩ zu90
  have hrl9 := rpP_len (c := (i : Int)) (cor := false) (x := clX cls i) (ss := clS cls i)
  have hlR := hR.lt
  refine go ?_
  have D95 := (D84.keep u90 (fun _ _ _ h => h))
  have hmdH94 := D95
  have D96 := (((((((((D19.keep u22 (fun _ h => h)).keep u29 (fun _ h => h)).keep u36 (fun _ h => h)).keep u45 (fun _ h => h)).keep u56 (fun _ h => h)).keep u59 (fun hb => show ¬ (ghQ3 = bk53) by first | omega | assumption)).keep u67 (fun _ h => h)).keep u79 (fun hb => show ¬ (ghQ3 = bk53 ∨ w66.heap.size ≤ ghQ3) by first | omega | assumption)).keep u90 (fun _ h => h))
  refine x_c func23 rfl rfl (charters_c hsQ3 ahQ3 ghQ3 0 chQ3 _ (D96.sl (fun _ => rfl)) (by omega) hmdH94.rows (by omega)) ?_
  rintro _ w98 ⟨⟨csH94, aH94, gH94, cH94, rfl, hH94, hcpH94⟩, u99⟩ zu99
  have lt_gH94 := hH94.lt
  have hkH94 := hmdH94.copy hcpH94
  have hklH94 := hkH94.1
  refine go ?_
  have D103 := (((((((((D26.keep u29 (fun _ h => h)).keep u36 (fun _ h => h)).keep u45 (fun _ h => h)).keep u56 (fun _ h => h)).keep u59 (fun h9 => show ¬ (gF10 = bk53) by have := hlF10 h9; have := hgF10 h9; omega)).keep u67 (fun _ h => h)).keep u79 (fun h9 => show ¬ (gF10 = bk53 ∨ w66.heap.size ≤ gF10) by have := hlF10 h9; have := hgF10 h9; omega)).keep u90 (fun _ h => h)).keep u99 (fun _ h => h))
  refine x_c func24 rfl rfl (times_c (spL fs) aF10 gF10 0 cF10 _ D103 (by omega) (by omega)) ?_
  rintro _ w105 ⟨⟨aT102, gT102, cT102, rfl, hT102⟩, u106⟩ zu106
  have lt_gT102 := hT102.lt
  refine go ?_
  have D110 := ((hR.keep u99 (fun _ h => h)).keep u106 (fun _ h => h))
  refine x_c func25 rfl rfl (messages_c (rpP (i : Int) false (clX cls i) (clS cls i)) aR gR 0 cR _ D110 (by omega) (by omega)) ?_
  rintro _ w112 ⟨⟨aM109, gM109, cM109, rfl, hM109⟩, u113⟩ zu113
  have lt_gM109 := hM109.lt
  have D117 := ((hkH94.keep u106 (fun _ _ _ h => h)).keep u113 (fun _ _ _ h => h))
  have hmB116 := D117
  have D118 := ((hH94.keep u106 (fun _ h => h)).keep u113 (fun _ h => h))
  have D119 := (hT102.keep u113 (fun _ h => h))
  refine x_c func22 rfl rfl (Balance_c csH94 aH94 gH94 0 cH94 (spL fs) aT102 gT102 0 cT102 (rpP (i : Int) false (clX cls i) (clS cls i)) aM109 gM109 0 cM109 _ (D118.sl (fun _ => rfl)) (by omega) hmB116.rows (D119.sl (fun _ => rfl)) (by omega) (hM109.sl (fun _ => rfl)) (by omega) (by omega)) ?_
  rintro _ w121 ⟨⟨bB116, eB116, aB116, gB116, cB116, rfl, ⟨hSB116, hGB116⟩, hRB116⟩, u122⟩ zu122
  obtain ⟨rfl, rfl⟩ := BalR.val hRB116 (rpP_cov (cor := false) (X := (clX cls)) (S := (clS cls)) (n := (min cls.length 3)) (i := i) (by omega)) (by omega) hxs (by omega) hklH94 (fun k hk => ⟨(hmB116.2 k hk).1, (hmB116.2 k hk).2.1⟩) hfc
  have hblB116 := baP_len (p := (fun j => decide (j = i))) (X := (clX cls)) (S := (clS cls)) (fr := (spL fs)) (min cls.length 3)
  have hlbB116 := hSB116.lt (by omega)
  have hgbB116 := hGB116 (by omega)
  refine go ?_
  have D126 := ((((D96.keep u99 (fun _ h => h)).keep u106 (fun _ h => h)).keep u113 (fun _ h => h)).keep u122 (fun _ h => h))
  refine g_i i (D126.sl (fun _ => rfl)) (fun _ => ?_)
  refine go ?_
  have D128 := ((((D95.keep u99 (fun _ _ _ h => h)).keep u106 (fun _ _ _ h => h)).keep u113 (fun _ _ _ h => h)).keep u122 (fun _ _ _ h => h))
  refine x_c func28 rfl rfl (own_cc (nth hsQ3 i).v (nth hsQ3 i).ws (nth hsQ3 i).ao (nth hsQ3 i).g (nth hsQ3 i).o (nth hsQ3 i).cp _ (D128.2 i (by omega)).2.2 (by rw [hv9.2]; show 2 ≤ _; decide) (by omega)) ?_
  rintro _ w131 ⟨⟨aO129, gO129, cO129, rfl, hO129⟩, u132⟩ zu132
  have lt_gO129 := hO129.lt
  refine go ?_
  have D136 := ((((D103.keep u106 (fun _ h => h)).keep u113 (fun _ h => h)).keep u122 (fun _ h => h)).keep u132 (fun _ h => h))
  refine x_c func24 rfl rfl (times_c (spL fs) aF10 gF10 0 cF10 _ D136 (by omega) (by omega)) ?_
  rintro _ w138 ⟨⟨aT135, gT135, cT135, rfl, hT135⟩, u139⟩ zu139
  have lt_gT135 := hT135.lt
  refine go ?_
  have D143 := ((((D110.keep u113 (fun _ h => h)).keep u122 (fun _ h => h)).keep u132 (fun _ h => h)).keep u139 (fun _ h => h))
  refine x_c func25 rfl rfl (messages_c (rpP (i : Int) false (clX cls i) (clS cls i)) aR gR 0 cR _ D143 (by omega) (by omega)) ?_
  rintro _ w145 ⟨⟨aM142, gM142, cM142, rfl, hM142⟩, u146⟩ zu146
  have lt_gM142 := hM142.lt
  have D150 := ((hO129.keep u139 (fun _ h => h)).keep u146 (fun _ h => h))
  have D151 := (hT135.keep u146 (fun _ h => h))
  refine x_c func27 rfl rfl (Bill_c (nth hsQ3 i).v (nth hsQ3 i).ws aO129 gO129 0 cO129 (spL fs) aT135 gT135 0 cT135 (rpP (i : Int) false (clX cls i) (clS cls i)) aM142 gM142 0 cM142 _ (D150.sl (fun _ => rfl)) (by rw [hv9.2]; show 2 ≤ _; decide) (D151.sl (fun _ => rfl)) (by omega) (hM142.sl (fun _ => rfl)) (by omega) (by omega)) ?_
  rintro _ w153 ⟨⟨rL149, eL149, rfl, hL149⟩, u154⟩ zu154
  rw [hv9.1, hv9.2] at hL149
  obtain ⟨rfl, rfl⟩ := Cov.bi (X := (clX cls)) (S := (clS cls)) (n := (min cls.length 3)) (i := i) (rpP_cov (cor := false) (X := (clX cls)) (S := (clS cls)) (n := (min cls.length 3)) (i := i) (by omega)) hxs (by omega) hi9 (by omega) hfc hL149
  refine go ?_
  refine x_n fun bk157 w158 ebk157 sbk157 B159 u160 => ?_
  refine x_s fun w162 sw162 B164 u163 => ?_
  refine go ?_
  have D167 := ((((((D126.keep u132 (fun _ h => h)).keep u139 (fun _ h => h)).keep u146 (fun _ h => h)).keep u154 (fun _ h => h)).keep u160 (fun _ h => h)).keep u163 (fun hb => show ¬ (ghQ3 = bk157) by first | omega | assumption))
  refine g_i i (D167.sl (fun _ => rfl)) (fun _ => ?_)
  refine go ?_
  have D169 := ((((((D128.keep u132 (fun _ _ _ h => h)).keep u139 (fun _ _ _ h => h)).keep u146 (fun _ _ _ h => h)).keep u154 (fun _ _ _ h => h)).keep u160 (fun _ _ _ h => h)).keep u163 (fun i hi h9 => show ¬ ((nth hsQ3 i).g = bk157) by have := hgoQ3 i hi h9; have := hltQ3 i hi h9; omega))
  refine x_c func28 rfl rfl (own_cc (nth hsQ3 i).v (nth hsQ3 i).ws (nth hsQ3 i).ao (nth hsQ3 i).g (nth hsQ3 i).o (nth hsQ3 i).cp _ (D169.2 i (by omega)).2.2 (by rw [hv9.2]; show 2 ≤ _; decide) (by omega)) ?_
  rintro _ w172 ⟨⟨aO170, gO170, cO170, rfl, hO170⟩, u173⟩ zu173
  have lt_gO170 := hO170.lt
  refine go ?_
  have D177 := ((((((D136.keep u139 (fun _ h => h)).keep u146 (fun _ h => h)).keep u154 (fun _ h => h)).keep u160 (fun _ h => h)).keep u163 (fun h9 => show ¬ (gF10 = bk157) by have := hlF10 h9; have := hgF10 h9; omega)).keep u173 (fun _ h => h))
  refine x_c func24 rfl rfl (times_c (spL fs) aF10 gF10 0 cF10 _ D177 (by omega) (by omega)) ?_
  rintro _ w179 ⟨⟨aT176, gT176, cT176, rfl, hT176⟩, u180⟩ zu180
  have lt_gT176 := hT176.lt
  refine go ?_
  have D184 := (hO170.keep u180 (fun _ h => h))
  have D185 := ((((((D143.keep u146 (fun _ h => h)).keep u154 (fun _ h => h)).keep u160 (fun _ h => h)).keep u163 (fun h9 => show ¬ (gR = bk157) by have := hlR h9; omega)).keep u173 (fun _ h => h)).keep u180 (fun _ h => h))
  refine x_c func29 rfl rfl (Laytime_c (nth hsQ3 i).v (nth hsQ3 i).ws aO170 gO170 0 cO170 (spL fs) aT176 gT176 0 cT176 (rpP (i : Int) false (clX cls i) (clS cls i)) aR gR 0 cR _ (D184.sl (fun _ => rfl)) (by rw [hv9.2]; show 2 ≤ _; decide) (hT176.sl (fun _ => rfl)) (by omega) D185 (by omega) (by omega)) ?_
  rintro _ w187 ⟨⟨rL183, eL183, rfl, hL183⟩, u188⟩ zu188
  rw [hv9.1, hv9.2] at hL183
  obtain ⟨rfl, rfl⟩ := Cov.lt (X := (clX cls)) (S := (clS cls)) (n := (min cls.length 3)) (i := i) (rpP_cov (cor := false) (X := (clX cls)) (S := (clS cls)) (n := (min cls.length 3)) (i := i) (by omega)) hxs (by omega) hi9 (by omega) hfc hL183
  refine go ?_
  refine x_n fun bk191 w192 ebk191 sbk191 B193 u194 => ?_
  refine x_s fun w196 sw196 B198 u197 => ?_
  iterate 4 refine st1 ?_
  refine x_k1 (fun _ => False) [0, 5, 7, 8, 10, 11, 13, 15, 17] (fun (u20 : Unit) => [(207, .bool false)]) (fun u20 w => True) (fun K205 hK205 => ?_) ?_
  ·
   refine c_drawnM follows (fun _ => False) (OTl [0, 2, 4, 6, 8, 10, 12, 14, 16, 18, 20, 22, 24, 26, 28, 30, 32, 34, 36, 38, 40, 42, 44, 46, 48, 50, 52, 54, 56, 58, 60, 62, 64, 66, 68, 70, 72, 74, 76, 78, 80, 82, 84, 86, 88, 90, 92, 94, 96, 98, 100, 102, 104, 106, 108, 110, 112, 114, 116, 118, 120, 122, 124, 126, 128, 130, 132, 134, 136, 138, 140, 142, 144, 146, 148, 150, 152, 154, 156, 158, 160, 162, 164, 166, 168, 170, 172, 174, 176, 178, 180, 182]) (by kernel_rfl) fun w208 u209 => ?_
   have zu209 := u209.size
   iterate 14 refine st1 ?_
   refine y_same 129 (v := .bool false) rfl (congrArg Value.bool (decide_eq_false (fun h => h (by rw [baP_len]; rfl)))) ?_
   iterate 16 refine st1 ?_
   refine y_same 145 (v := .bool false) rfl (congrArg Value.bool (decide_eq_false (fun h => h ho1))) ?_
   refine go ?_
   refine y_splitp 151 rfl (fun g151 => ?_) (fun g151 => ?_)
   ·
    iterate 3 refine st1 ?_
    refine y_same 154 (v := .bool false) rfl (congrArg Value.bool (decide_eq_false (by omega))) ?_
    iterate 6 refine st1 ?_
    refine y_same 160 (v := .bool false) rfl (congrArg Value.bool (decide_eq_false (by omega))) ?_
    iterate 10 refine st1 ?_
    refine y_same 170 (v := .bool true) rfl (congrArg Value.bool (decide_eq_true (by omega))) ?_
    iterate 4 refine st1 ?_
    refine y_same 174 (v := .bool false) rfl (congrArg Value.bool (decide_eq_false (fun h => h (ho5 (by omega))))) ?_
    refine go ?_
    have D211 := ((((((D167.keep u173 (fun _ h => h)).keep u180 (fun _ h => h)).keep u188 (fun _ h => h)).keep u194 (fun _ h => h)).keep u197 (fun hb => show ¬ (ghQ3 = bk191) by first | omega | assumption)).keep u209 (fun _ h => h))
    refine y_i i (D211.sl (fun _ => rfl)) (fun _ => ?_)
    refine go ?_
    refine y_i i (D211.sl (fun _ => rfl)) (fun _ => ?_)
    iterate 4 refine st1 ?_
    refine y_same 191 (v := .bool false) rfl (congrArg Value.bool (decide_eq_false (by omega))) ?_
    iterate 5 refine st1 ?_
    refine y_same 196 (v := .bool false) rfl (congrArg Value.bool (decide_eq_false (by omega))) ?_
    iterate 10 refine st1 ?_
    refine y_same 206 (v := .bool false) rfl (congrArg Value.bool (decide_eq_false (by omega))) ?_
    refine go ?_
    exact hK205 () trivial
   iterate 9 refine st1 ?_
   refine y_same 160 (v := .bool true) rfl (congrArg Value.bool (decide_eq_true (by omega))) ?_
   iterate 4 refine st1 ?_
   refine y_same 164 (v := .bool false) rfl (congrArg Value.bool (decide_eq_false (fun h => h (ho4 (by omega))))) ?_
   iterate 6 refine st1 ?_
   refine y_same 170 (v := .bool (decide ((ltP (clX cls i) (clS cls i) (spL fs)).s = 0))) rfl rfl ?_
   refine go ?_
   refine y_splitp 171 rfl (fun g171 => ?_) (fun g171 => ?_)
   ·
    iterate 3 refine st1 ?_
    refine y_same 174 (v := .bool false) rfl (congrArg Value.bool (decide_eq_false (fun h => h (ho5 (by omega))))) ?_
    refine go ?_
    have D214 := ((((((D167.keep u173 (fun _ h => h)).keep u180 (fun _ h => h)).keep u188 (fun _ h => h)).keep u194 (fun _ h => h)).keep u197 (fun hb => show ¬ (ghQ3 = bk191) by first | omega | assumption)).keep u209 (fun _ h => h))
    refine y_i i (D214.sl (fun _ => rfl)) (fun _ => ?_)
    refine go ?_
    refine y_i i (D214.sl (fun _ => rfl)) (fun _ => ?_)
    iterate 4 refine st1 ?_
    refine y_same 191 (v := .bool false) rfl (congrArg Value.bool (decide_eq_false (by omega))) ?_
    iterate 5 refine st1 ?_
    refine y_same 196 (v := .bool false) rfl (congrArg Value.bool (decide_eq_false (by omega))) ?_
    iterate 10 refine st1 ?_
    refine y_same 206 (v := .bool false) rfl (congrArg Value.bool (decide_eq_false (by omega))) ?_
    refine go ?_
    exact hK205 () trivial
   refine go ?_
   have D217 := ((((((D167.keep u173 (fun _ h => h)).keep u180 (fun _ h => h)).keep u188 (fun _ h => h)).keep u194 (fun _ h => h)).keep u197 (fun hb => show ¬ (ghQ3 = bk191) by first | omega | assumption)).keep u209 (fun _ h => h))
   refine y_i i (D217.sl (fun _ => rfl)) (fun _ => ?_)
   refine go ?_
   refine y_i i (D217.sl (fun _ => rfl)) (fun _ => ?_)
   iterate 4 refine st1 ?_
   refine y_same 191 (v := .bool false) rfl (congrArg Value.bool (decide_eq_false (by omega))) ?_
   iterate 5 refine st1 ?_
   refine y_same 196 (v := .bool false) rfl (congrArg Value.bool (decide_eq_false (by omega))) ?_
   iterate 10 refine st1 ?_
   refine y_same 206 (v := .bool false) rfl (congrArg Value.bool (decide_eq_false (by omega))) ?_
   refine go ?_
   exact hK205 () trivial
  rintro u20 w206 _ u207 zu207
  refine go ?_
  refine t_build (ps := []) (v := .agg ((List.replicate 100 (0 : Int)).map (Value.int .i64)).toArray) rfl rfl ⟨rfl, rfl⟩ (fun w => by kernel_rfl) (t_alloc (cs := ((List.replicate 100 (0 : Int)).map (Value.int .i64))) zeroValue63 (by kernel_rfl) rfl rfl (fun bk222 w223 ebk222 sbk222 B224 u225 => ?_))
  refine t_st (vs := ((List.replicate 100 (0 : Int)).map (Value.int .i64))) sizeOf63 rfl rfl rfl B224 rfl (by kernel_rfl) (by kernel_rfl) (by kernel_rfl) (fun w227 sw227 B229 u228 => ?_)
  have B231 : Blk w227 bk222 63 ((List.replicate 100 (0 : Int)).map (Value.int .i64)) := by
    have e : lay ((List.replicate 100 (0 : Int)).map (Value.int .i64)) 0 ((List.replicate 100 (0 : Int)).map (Value.int .i64)) = ((List.replicate 100 (0 : Int)).map (Value.int .i64)) := by kernel_rfl
    rw [← e]; exact B229
  refine go ?_
  refine c_drawnM follows (fun i => i = bk222) (OTl [0, 2, 4, 6, 8, 10, 14, 16, 13, 18, 20, 23]) (by kernel_rfl) fun w233 u234 => ?_
  have zu234 := u234.size
  refine go ?_
  have D236 := (((((((((D167.keep u173 (fun _ h => h)).keep u180 (fun _ h => h)).keep u188 (fun _ h => h)).keep u194 (fun _ h => h)).keep u197 (fun hb => show ¬ (ghQ3 = bk191) by first | omega | assumption)).keep u207 (fun _ h => h)).keep u225 (fun _ h => h)).keep u228 (fun hb => show ¬ (ghQ3 = bk222) by first | omega | assumption)).keep u234 (fun _ h => h))
  refine y_i i (D236.sl (fun _ => rfl)) (fun _ => ?_)
  refine go ?_
  refine y_indexArr (j := (nth hsQ3 i).v.s.toNat) (0 + ((nth hsQ3 i).v.s.toNat) * 1) underlying63 sizeOf3 rfl rfl rfl rfl (by omega) (by omega) rfl ?_
  refine go ?_
  have B238 := (B231.kx u234)
  refine t_load isAgg3 rfl rfl rfl (((SlI.own B238).at_ ((nth hsQ3 i).v.s.toNat) (by omega)) 0 _ rfl) ?_
  refine go ?_
  refine y_indexArr (j := (nth hsQ3 i).v.s.toNat) (0 + ((nth hsQ3 i).v.s.toNat) * 1) underlying63 sizeOf3 rfl rfl rfl rfl (by omega) (by omega) rfl ?_
  refine go ?_
  refine t_storeI (ls := (List.replicate 100 (0 : Int))) (v := ((nth (List.replicate 100 (0 : Int)) ((nth hsQ3 i).v.s.toNat)) - ((blC (clX cls i) (clS cls i) (spL fs)).t))) ((nth hsQ3 i).v.s.toNat) sizeOf3 rfl rfl rfl B238 (by omega) (fun w239 sw239 B241 u240 => ?_)
  refine go ?_
  refine c_drawnM follows (fun i => i = bk222) (OTl [0, 2, 4, 6, 8, 10, 14, 16, 18, 20, 22, 13, 24, 26, 29]) (by kernel_rfl) fun w244 u245 => ?_
  have zu245 := u245.size
  refine go ?_
  have D247 := ((D236.keep u240 (fun hb => show ¬ (ghQ3 = bk222) by first | omega | assumption)).keep u245 (fun _ h => h))
  refine y_i i (D247.sl (fun _ => rfl)) (fun _ => ?_)
  refine go ?_
  refine y_indexArr (j := (nth hsQ3 i).v.c.toNat) (0 + ((nth hsQ3 i).v.c.toNat) * 1) underlying63 sizeOf3 rfl rfl rfl rfl (by omega) (by omega) rfl ?_
  refine go ?_
  have B249 := (B241.kx u245)
  refine t_load isAgg3 rfl rfl rfl (((SlI.own B249).at_ ((nth hsQ3 i).v.c.toNat) (by omega)) 0 _ rfl) ?_
  refine go ?_
  refine y_indexArr (j := (nth hsQ3 i).v.c.toNat) (0 + ((nth hsQ3 i).v.c.toNat) * 1) underlying63 sizeOf3 rfl rfl rfl rfl (by omega) (by omega) rfl ?_
  refine go ?_
  refine t_storeI (ls := ((List.replicate 100 (0 : Int)).set ((nth hsQ3 i).v.s.toNat) ((nth (List.replicate 100 (0 : Int)) ((nth hsQ3 i).v.s.toNat)) - ((blC (clX cls i) (clS cls i) (spL fs)).t)))) (v := ((nth ((List.replicate 100 (0 : Int)).set ((nth hsQ3 i).v.s.toNat) ((nth (List.replicate 100 (0 : Int)) ((nth hsQ3 i).v.s.toNat)) - ((blC (clX cls i) (clS cls i) (spL fs)).t))) ((nth hsQ3 i).v.c.toNat)) + (((blC (clX cls i) (clS cls i) (spL fs)).t) - ((blC (clX cls i) (clS cls i) (spL fs)).c)))) ((nth hsQ3 i).v.c.toNat) sizeOf3 rfl rfl rfl B249 (by omega) (fun w250 sw250 B252 u251 => ?_)
  refine go ?_
  refine c_drawnM follows (fun i => i = bk222) (OTl [0, 2, 4, 6, 8, 10, 14, 16, 13, 18, 20, 23]) (by kernel_rfl) fun w255 u256 => ?_
  have zu256 := u256.size
  refine go ?_
  have D258 := ((D247.keep u251 (fun hb => show ¬ (ghQ3 = bk222) by first | omega | assumption)).keep u256 (fun _ h => h))
  refine y_i i (D258.sl (fun _ => rfl)) (fun _ => ?_)
  refine go ?_
  refine y_indexArr (j := (nth hsQ3 i).v.k.toNat) (0 + ((nth hsQ3 i).v.k.toNat) * 1) underlying63 sizeOf3 rfl rfl rfl rfl (by omega) (by omega) rfl ?_
  refine go ?_
  have B260 := (B252.kx u256)
  refine t_load isAgg3 rfl rfl rfl (((SlI.own B260).at_ ((nth hsQ3 i).v.k.toNat) (by omega)) 0 _ rfl) ?_
  refine go ?_
  refine y_indexArr (j := (nth hsQ3 i).v.k.toNat) (0 + ((nth hsQ3 i).v.k.toNat) * 1) underlying63 sizeOf3 rfl rfl rfl rfl (by omega) (by omega) rfl ?_
  refine go ?_
  refine t_storeI (ls := (((List.replicate 100 (0 : Int)).set ((nth hsQ3 i).v.s.toNat) ((nth (List.replicate 100 (0 : Int)) ((nth hsQ3 i).v.s.toNat)) - ((blC (clX cls i) (clS cls i) (spL fs)).t))).set ((nth hsQ3 i).v.c.toNat) ((nth ((List.replicate 100 (0 : Int)).set ((nth hsQ3 i).v.s.toNat) ((nth (List.replicate 100 (0 : Int)) ((nth hsQ3 i).v.s.toNat)) - ((blC (clX cls i) (clS cls i) (spL fs)).t))) ((nth hsQ3 i).v.c.toNat)) + (((blC (clX cls i) (clS cls i) (spL fs)).t) - ((blC (clX cls i) (clS cls i) (spL fs)).c))))) (v := ((nth (((List.replicate 100 (0 : Int)).set ((nth hsQ3 i).v.s.toNat) ((nth (List.replicate 100 (0 : Int)) ((nth hsQ3 i).v.s.toNat)) - ((blC (clX cls i) (clS cls i) (spL fs)).t))).set ((nth hsQ3 i).v.c.toNat) ((nth ((List.replicate 100 (0 : Int)).set ((nth hsQ3 i).v.s.toNat) ((nth (List.replicate 100 (0 : Int)) ((nth hsQ3 i).v.s.toNat)) - ((blC (clX cls i) (clS cls i) (spL fs)).t))) ((nth hsQ3 i).v.c.toNat)) + (((blC (clX cls i) (clS cls i) (spL fs)).t) - ((blC (clX cls i) (clS cls i) (spL fs)).c)))) ((nth hsQ3 i).v.k.toNat)) + ((blC (clX cls i) (clS cls i) (spL fs)).c))) ((nth hsQ3 i).v.k.toNat) sizeOf3 rfl rfl rfl B260 (by omega) (fun w261 sw261 B263 u262 => ?_)
  refine go ?_
  have hW : ((((List.replicate 100 (0 : Int)).set ((nth hsQ3 i).v.s.toNat) ((nth (List.replicate 100 (0 : Int)) ((nth hsQ3 i).v.s.toNat)) - ((blC (clX cls i) (clS cls i) (spL fs)).t))).set ((nth hsQ3 i).v.c.toNat) ((nth ((List.replicate 100 (0 : Int)).set ((nth hsQ3 i).v.s.toNat) ((nth (List.replicate 100 (0 : Int)) ((nth hsQ3 i).v.s.toNat)) - ((blC (clX cls i) (clS cls i) (spL fs)).t))) ((nth hsQ3 i).v.c.toNat)) + (((blC (clX cls i) (clS cls i) (spL fs)).t) - ((blC (clX cls i) (clS cls i) (spL fs)).c)))).set ((nth hsQ3 i).v.k.toNat) ((nth (((List.replicate 100 (0 : Int)).set ((nth hsQ3 i).v.s.toNat) ((nth (List.replicate 100 (0 : Int)) ((nth hsQ3 i).v.s.toNat)) - ((blC (clX cls i) (clS cls i) (spL fs)).t))).set ((nth hsQ3 i).v.c.toNat) ((nth ((List.replicate 100 (0 : Int)).set ((nth hsQ3 i).v.s.toNat) ((nth (List.replicate 100 (0 : Int)) ((nth hsQ3 i).v.s.toNat)) - ((blC (clX cls i) (clS cls i) (spL fs)).t))) ((nth hsQ3 i).v.c.toNat)) + (((blC (clX cls i) (clS cls i) (spL fs)).t) - ((blC (clX cls i) (clS cls i) (spL fs)).c)))) ((nth hsQ3 i).v.k.toNat)) + ((blC (clX cls i) (clS cls i) (spL fs)).c))) = (baP (fun j => decide (j = i)) (clX cls) (clS cls) (spL fs) (min cls.length 3)) := by
    rw [baP_one, if_pos hi9, ← hv9.1]; rfl
  have B266 : Blk w261 bk222 63 ((baP (fun j => decide (j = i)) (clX cls) (clS cls) (spL fs) (min cls.length 3)).map (Value.int .i64)) := by
    have e : ((((((List.replicate 100 (0 : Int)).set ((nth hsQ3 i).v.s.toNat) ((nth (List.replicate 100 (0 : Int)) ((nth hsQ3 i).v.s.toNat)) - ((blC (clX cls i) (clS cls i) (spL fs)).t))).set ((nth hsQ3 i).v.c.toNat) ((nth ((List.replicate 100 (0 : Int)).set ((nth hsQ3 i).v.s.toNat) ((nth (List.replicate 100 (0 : Int)) ((nth hsQ3 i).v.s.toNat)) - ((blC (clX cls i) (clS cls i) (spL fs)).t))) ((nth hsQ3 i).v.c.toNat)) + (((blC (clX cls i) (clS cls i) (spL fs)).t) - ((blC (clX cls i) (clS cls i) (spL fs)).c)))).set ((nth hsQ3 i).v.k.toNat) ((nth (((List.replicate 100 (0 : Int)).set ((nth hsQ3 i).v.s.toNat) ((nth (List.replicate 100 (0 : Int)) ((nth hsQ3 i).v.s.toNat)) - ((blC (clX cls i) (clS cls i) (spL fs)).t))).set ((nth hsQ3 i).v.c.toNat) ((nth ((List.replicate 100 (0 : Int)).set ((nth hsQ3 i).v.s.toNat) ((nth (List.replicate 100 (0 : Int)) ((nth hsQ3 i).v.s.toNat)) - ((blC (clX cls i) (clS cls i) (spL fs)).t))) ((nth hsQ3 i).v.c.toNat)) + (((blC (clX cls i) (clS cls i) (spL fs)).t) - ((blC (clX cls i) (clS cls i) (spL fs)).c)))) ((nth hsQ3 i).v.k.toNat)) + ((blC (clX cls i) (clS cls i) (spL fs)).c))).map (Value.int .i64)) : List Value) = ((baP (fun j => decide (j = i)) (clX cls) (clS cls) (spL fs) (min cls.length 3)).map (Value.int .i64)) := (congrArg (List.map (Value.int .i64)) hW)
    rw [← e]; exact B263
  refine go ?_
  have B267 := (((((((((((((((((((((((((I80.kx u90).kx u99).kx u106).kx u113).kx u122).kx u132).kx u139).kx u146).kx u154).kx u160).keep u163 (by omega)).kx u173).kx u180).kx u188).kx u194).keep u197 (by omega)).kx u207).kx u225).keep u228 (by omega)).kx u234).keep u240 (by omega)).kx u245).keep u251 (by omega)).kx u256).keep u262 (by omega))
  refine x_l1 (fun i => i = bk53) [0, 5, 7, 8, 10, 11, 13, 15, 21] (fun (k : Nat) => [(22, .int .i64 (k : Int))]) (fun k w => Blk w bk53 63 ((adK (baP (fun _ => true) (clX cls) (clS cls) (spL fs) i) (baP (fun j => decide (j = i)) (clX cls) (clS cls) (spL fs) (min cls.length 3)) k).map (Value.int .i64)) ∧ (k ≤ 100)) (fun k => 100 - k) 0 ⟨B267, (by omega)⟩ ?_
  rintro k w269 ⟨I271, hk⟩ u270 zu270 K268 hK268
  refine go ?_
  refine q_p (fun g248 => ?_) fun g248 => ?_
  ·
   have hak0 := adK_at (b := (baP (fun _ => true) (clX cls) (clS cls) (spL fs) i)) (y := (baP (fun j => decide (j = i)) (clX cls) (clS cls) (spL fs) (min cls.length 3))) (k := k) (by rw [baP_len]; omega)
   rw [baP_len] at hak0
   have hak1 := hak0.1
   have hak2 := hak0.2 k (by omega)
   rw [if_neg (Nat.lt_irrefl _)] at hak2
   have hab1 := baP_bd (p := (fun _ => true)) (X := (clX cls)) (S := (clS cls)) (fr := spL fs) (j := k) (by omega) (k := i) (fun j hj => hxs j (by omega))
   have hab2 := baP_bd (p := (fun j => decide (j = i))) (fr := spL fs) (j := k) (by omega) hxs
   refine go ?_
   refine c_drawnM follows (fun i => i = bk53) (OTl [0, 2, 6, 8, 10, 12, 5, 14, 16, 19]) (by kernel_rfl) fun w277 u278 => ?_
   have zu278 := u278.size
   refine go ?_
   refine y_indexArr (j := k) (0 + k * 1) underlying63 sizeOf3 rfl rfl rfl rfl rfl (by omega) rfl ?_
   refine go ?_
   have D280 := ((((((((((((((((((((((hSB116.keep u132 (fun _ h => h)).keep u139 (fun _ h => h)).keep u146 (fun _ h => h)).keep u154 (fun _ h => h)).keep u160 (fun _ h => h)).keep u163 (fun _ => show ¬ (gB116 = bk157) by omega)).keep u173 (fun _ h => h)).keep u180 (fun _ h => h)).keep u188 (fun _ h => h)).keep u194 (fun _ h => h)).keep u197 (fun _ => show ¬ (gB116 = bk191) by omega)).keep u207 (fun _ h => h)).keep u225 (fun _ h => h)).keep u228 (fun _ => show ¬ (gB116 = bk222) by omega)).keep u234 (fun _ h => h)).keep u240 (fun _ => show ¬ (gB116 = bk222) by omega)).keep u245 (fun _ h => h)).keep u251 (fun _ => show ¬ (gB116 = bk222) by omega)).keep u256 (fun _ h => h)).keep u262 (fun _ => show ¬ (gB116 = bk222) by omega)).keep u270 (fun _ => show ¬ (gB116 = bk53) by omega)).keep u278 (fun _ h => h))
   refine y_i k D280 (fun _ => ?_)
   refine go ?_
   have B282 := (I271.kx u278)
   refine t_load isAgg3 rfl rfl rfl (((SlI.own B282).at_ k (by omega)) 0 _ rfl) ?_
   refine go ?_
   refine y_indexArr (j := k) (0 + k * 1) underlying63 sizeOf3 rfl rfl rfl rfl rfl (by omega) rfl ?_
   refine go ?_
   refine t_storeI (ls := (adK (baP (fun _ => true) (clX cls) (clS cls) (spL fs) i) (baP (fun j => decide (j = i)) (clX cls) (clS cls) (spL fs) (min cls.length 3)) k)) (v := ((nth (adK (baP (fun _ => true) (clX cls) (clS cls) (spL fs) i) (baP (fun j => decide (j = i)) (clX cls) (clS cls) (spL fs) (min cls.length 3)) k) k) + (nth (baP (fun j => decide (j = i)) (clX cls) (clS cls) (spL fs) (min cls.length 3)) k))) k sizeOf3 rfl rfl rfl B282 (by omega) (fun w283 sw283 B285 u284 => ?_)
   refine go ?_
   refine c_drawnM follows (fun _ => False) (OTl [0, 2, 4, 6, 8, 10, 12, 14]) (by kernel_rfl) fun w288 u289 => ?_
   have zu289 := u289.size
   refine go ?_
   have D291 := ((D280.keep u284 (fun _ => show ¬ (gB116 = bk53) by omega)).keep u289 (fun _ h => h))
   refine y_i k D291 (fun _ => ?_)
   refine go ?_
   refine y_indexArr (j := k) (0 + k * 1) underlying63 sizeOf3 rfl rfl rfl rfl rfl (by omega) rfl ?_
   have B293 := ((((B266.keep u270 (by omega)).kx u278).keep u284 (by omega)).kx u289)
   refine y_load isAgg3 rfl rfl rfl (((SlI.own B293).at_ k (by omega)) 0 _ rfl) (fun h => h) ?_
   refine st1 ?_
   refine y_samehd (v := .bool false) (by simp) ?_
   refine go ?_
   have B294 := (B285.kx u289)
   exact hK268 (k + 1) ⟨B294, (by omega)⟩
  refine go ?_
  exact hK77 (i + 1) ⟨(by have e9 : k = 100 := (by omega); subst e9; rw [← baP_add (n := (min cls.length 3)) (by omega)]; exact I271), (by omega)⟩ (hu := ((((((((((((((((((((((((((u79.nx u90).nx u99).nx u106).nx u113).nx u122).nx u132).nx u139).nx u146).nx u154).nx u160).next u163 (fun i hi (h : i = bk157) => show i = bk53 ∨ w66.heap.size ≤ i by first | omega | assumption)).nx u173).nx u180).nx u188).nx u194).next u197 (fun i hi (h : i = bk191) => show i = bk53 ∨ w66.heap.size ≤ i by first | omega | assumption)).nx u207).nx u225).next u228 (fun i hi (h : i = bk222) => show i = bk53 ∨ w66.heap.size ≤ i by first | omega | assumption)).nx u234).next u240 (fun i hi (h : i = bk222) => show i = bk53 ∨ w66.heap.size ≤ i by first | omega | assumption)).nx u245).next u251 (fun i hi (h : i = bk222) => show i = bk53 ∨ w66.heap.size ≤ i by first | omega | assumption)).nx u256).next u262 (fun i hi (h : i = bk222) => show i = bk53 ∨ w66.heap.size ≤ i by first | omega | assumption)).next u270 (fun i hi (h : i = bk53) => show i = bk53 ∨ w66.heap.size ≤ i by first | omega | assumption)))
 have hin : i = (min cls.length 3) := by omega
 have B295 : Blk w78 bk53 63 ((baP (fun _ => true) (clX cls) (clS cls) (spL fs) (min cls.length 3)).map (Value.int .i64)) := by
   have e : (((baP (fun _ => true) (clX cls) (clS cls) (spL fs) i).map (Value.int .i64)) : List Value) = ((baP (fun _ => true) (clX cls) (clS cls) (spL fs) (min cls.length 3)).map (Value.int .i64)) := (by rw [hin])
   rw [← e]; exact I80
 refine go ?_
 refine x_l1 (fun _ => False) [8, 10, 11] (fun (k : Nat) => [(23, .int .i64 (k : Int))]) (fun k w => (k ≤ 100)) (fun k => 100 - k) 0 (by omega) ?_
 rintro k w299 hk u300 zu300 K298 hK298
 refine go ?_
 refine q_p (fun g271 => ?_) fun g271 => ?_
 ·
  refine go ?_
  refine c_drawnM follows (fun _ => False) (OTl [0, 2, 4, 6, 8, 10, 12, 14]) (by kernel_rfl) fun w306 u307 => ?_
  have zu307 := u307.size
  refine go ?_
  have D309 := ((((((hSB39.keep u56 (fun _ h => h)).keep u59 (fun _ => show ¬ (gB39 = bk53) by omega)).keep u67 (fun _ h => h)).keep u79 (fun _ => show ¬ (gB39 = bk53 ∨ w66.heap.size ≤ gB39) by omega)).keep u300 (fun _ h => h)).keep u307 (fun _ h => h))
  refine y_i k D309 (fun _ => ?_)
  refine go ?_
  refine y_indexArr (j := k) (0 + k * 1) underlying63 sizeOf3 rfl rfl rfl rfl rfl (by omega) rfl ?_
  have B311 := ((B295.kx u300).kx u307)
  refine y_load isAgg3 rfl rfl rfl (((SlI.own B311).at_ k (by omega)) 0 _ rfl) (fun h => h) ?_
  refine st1 ?_
  refine y_samehd (v := .bool false) (by simp) ?_
  refine go ?_
  exact hK298 (k + 1) (by omega)
 refine go ?_
 refine x_c func11 rfl rfl (known_c _ (by omega)) ?_
 rintro _ w314 ⟨rfl, u315⟩ zu315
 refine go ?_
 refine f_1 results5 ?_
 exact ⟨rfl, u_d⟩

end Go.Proofs.YtgoajalaomakpaaGreat
