/-
  Part 19 of the proof: contracts and plain laws. Conditions: none.
-/
import Derived.Test.YtclinbbghnebaaaGreatBK18
namespace Go.Proofs.YtclinbbghnebaaaGreat
open Go Go.RowKit Go.Proofs.Tryz
set_option maxRecDepth 10000
theorem moorCharter_c (x0 x1 x2 x3 x4 : Int) (w0 : World) (hx : okXC ⟨x0, x1, x2, x3, x4⟩) :
    CallsV Tryz.prog 11 [.agg #[.int .u8 x0, .int .u8 x1, .int .u8 x2, .int .u8 x3, .int .u8 x4]] w0 (fun v w' => (∃ g, v = .agg #[.int .i64 1, .int .i64 2, .int .i64 3, .int .i64 (1 + x0), .int .i64 (4 * x1), .int .i64 (4 * x2), .int .i64 x3, .int .i64 (500 * x4), .int .i64 (200 * x4), .int .i64 (x0 % 20), .slice (some ⟨g, 0, none⟩) 2 2] ∧ w0.heap.size ≤ g ∧ Blk w' g 127 [.int .i64 100, .int .i64 30, .int .i64 180, .int .i64 10]) ∧ Ext w0 w') := by
 unfold okXC at hx
 dsimp only at hx
 refine f_n func11 ?_
 refine go ?_
 refine x_b fun bk2 w3 ebk2 sbk2 B4 u5 => ?_
 refine x_n fun bk7 w8 ebk7 sbk7 B9 u10 => ?_
 refine go ?_
 refine t_indexArr (j := 0) (0) underlying22 sizeOf5 rfl rfl rfl rfl rfl (by decide) rfl ?_
 refine go ?_
 refine t_conv underlying5 underlying3 rfl rfl rfl (IntWalk.i64_in _ (by omega)) ?_
 refine go ?_
 refine t_indexArr (j := 1) (1) underlying22 sizeOf5 rfl rfl rfl rfl rfl (by decide) rfl ?_
 refine go ?_
 refine t_conv underlying5 underlying3 rfl rfl rfl (IntWalk.i64_in _ (by omega)) ?_
 refine go ?_
 refine t_indexArr (j := 2) (2) underlying22 sizeOf5 rfl rfl rfl rfl rfl (by decide) rfl ?_
 refine go ?_
 refine t_conv underlying5 underlying3 rfl rfl rfl (IntWalk.i64_in _ (by omega)) ?_
 refine go ?_
 refine t_indexArr (j := 3) (3) underlying22 sizeOf5 rfl rfl rfl rfl rfl (by decide) rfl ?_
 refine go ?_
 refine t_conv underlying5 underlying3 rfl rfl rfl (IntWalk.i64_in _ (by omega)) (t_indexArr (j := 4) (4) underlying22 sizeOf5 rfl rfl rfl rfl rfl (by decide) rfl ?_)
 refine go ?_
 refine t_conv underlying5 underlying3 rfl rfl rfl (IntWalk.i64_in _ (by omega)) ?_
 refine go ?_
 refine t_indexArr (j := 4) (4) underlying22 sizeOf5 rfl rfl rfl rfl rfl (by decide) rfl ?_
 refine go ?_
 refine t_conv underlying5 underlying3 rfl rfl rfl (IntWalk.i64_in _ (by omega)) ?_
 refine go ?_
 refine t_indexArr (j := 0) (0) underlying22 sizeOf5 rfl rfl rfl rfl rfl (by decide) rfl ?_
 refine go ?_
 refine t_conv underlying5 underlying3 rfl rfl rfl (IntWalk.i64_in _ (by omega)) (t_rem rfl rfl rfl rfl (by omega) (by omega) ?_)
 refine go ?_
 refine x_l fun bk13 w14 ebk13 sbk13 B15 u16 => ?_
 refine go ?_
 refine x_s fun w18 sw18 B20 u19 => ?_
 refine go ?_
 refine f_ret1 (v := .agg #[.int .i64 1, .int .i64 2, .int .i64 3, .int .i64 (1 + x0), .int .i64 (4 * x1), .int .i64 (4 * x2), .int .i64 x3, .int .i64 (500 * x4), .int .i64 (200 * x4), .int .i64 (x0 % 20), .slice (some ⟨bk13, 0, none⟩) 2 2]) results11 ⟨_, _, rfl, run_loadVarN (vs := [.int .i64 1, .int .i64 2, .int .i64 3, .int .i64 (1 + x0), .int .i64 (4 * x1), .int .i64 (4 * x2), .int .i64 x3, .int .i64 (500 * x4), .int .i64 (200 * x4), .int .i64 (x0 % 20), .slice (some ⟨bk13, 0, none⟩) 2 2]) isAgg49 sizeOf49 rfl (B20.at.sub 0 11)⟩ ?_
 have B22 := (B15.keep u19 (by omega))
 exact ⟨⟨bk13, rfl, by omega, B22⟩, u_d⟩

set_option maxHeartbeats 4000000 in
theorem TopLateNotice_c (x0 x1 x2 x3 x4 y0 y1 y2 y3 y4 y5 z : Int) (w0 : World) (hx : okXC ⟨x0, x1, x2, x3, x4⟩) (hy : (0 ≤ y0 ∧ y0 ≤ 255) ∧ (0 ≤ y1 ∧ y1 ≤ 255) ∧ (0 ≤ y2 ∧ y2 ≤ 255) ∧ (0 ≤ y3 ∧ y3 ≤ 255) ∧ (0 ≤ y4 ∧ y4 ≤ 255) ∧ (0 ≤ y5 ∧ y5 ≤ 255)) (hz : 0 ≤ z ∧ z ≤ 65535) :
    CallsV Tryz.prog 3 [.agg #[.int .u8 x0, .int .u8 x1, .int .u8 x2, .int .u8 x3, .int .u8 x4], .agg #[.int .u8 y0, .int .u8 y1, .int .u8 y2, .int .u8 y3, .int .u8 y4, .int .u8 y5], .int .u16 z] w0 (fun v w' => v = .bool true ∧ Ext w0 w') := by
 have hx9 := hx
 unfold okXC at hx9
 dsimp only at hx9
 have hya : 0 ≤ y0 ∧ y0 ≤ 255 := hy.1
 have hyb : 0 ≤ y3 ∧ y3 ≤ 255 := hy.2.2.2.1
 have hys : 30 ≤ (30 + (y1 % 60)) ∧ (30 + (y1 % 60)) ≤ 89 := by omega
 have hyr : 30 ≤ (30 + (y4 % 60)) ∧ (30 + (y4 % 60)) ≤ 89 := by omega
 have hyn : 41 ≤ (41 + (y2 % 20)) ∧ (41 + (y2 % 20)) ≤ 60 := by omega
 have hT0 := tak_90 (w := -100) (by decide) hyr
 have hT1 := tak_pos (w := -100) (by decide) hyr.1
 obtain ⟨T9, hT9⟩ : ∃ t, t = tak (-100) (30 + (y4 % 60)) := ⟨_, rfl⟩
 rw [← hT9] at hT0 hT1
 have hCl : (chX ⟨x0, x1, x2, x3, x4⟩).l = 4 * x2 := rfl
 have hCo : (chX ⟨x0, x1, x2, x3, x4⟩).o = x3 := rfl
 have hCd : (chX ⟨x0, x1, x2, x3, x4⟩).d = 500 * x4 := rfl
 have hCe : (chX ⟨x0, x1, x2, x3, x4⟩).e = 200 * x4 := rfl
 refine f_n func3 ?_
 refine go ?_
 refine x_b fun bk2 w3 ebk2 sbk2 B4 u5 => ?_
 refine x_b fun bk7 w8 ebk7 sbk7 B9 u10 => ?_
 refine go ?_
 refine x_l fun bk13 w14 ebk13 sbk13 B15 u16 => ?_
 have hac0 := Acc.lit encHVoy 5 B15 (Nat.le_refl _)
 have hll0 : ([] : List HVoy).length = 0 := rfl
 have lt_bk13 := hac0.lt
 refine go ?_
 refine c_rounds 3 (WR.weak [(2, .int .u16 z), (3, .pointer (some ⟨bk2, 0, none⟩)), (4, .pointer (some ⟨bk7, 0, none⟩)), (7, .slice (some ⟨bk13, 0, none⟩) 0 0), (8, .int .i64 0)] ⟨rfl, rfl, rfl, rfl, rfl, trivial⟩ (r_round fun K20 hK20 => (q_of ?_)))
 iterate 10 refine st1 ?_
 refine x_k4 (fun i => (i = bk13 ∧ bk13 ≤ i)) [2, 3, 4, 8] (fun (ao1 : Option Addr) (gw1 : Nat) (co1 : Nat) (gA : Nat) => [(7, .slice ao1 1 co1)]) (fun ao1 gw1 co1 gA w => (Acc encHVoy 5 34 bk13 w ao1 gw1 co1 [(trA y0 (30 + (y1 % 60)) gA)]) ∧ (Blk w gA 31 [.int .i64 0, .int .i64 100, .int .i64 (30 + (y1 % 60)), .int .i64 (30 + (y1 % 60)), .int .i64 0, .int .i64 0]) ∧ (gA ≠ gw1 ∧ bk13 ≤ gw1)) (fun K27 hK27 => ?_) ?_
 ·
  refine go ?_
  refine c_drawnM follows (fun i => (i = bk13 ∧ bk13 ≤ i)) (OTl [0, 2, 4, 6, 8, 10, 14, 16, 18, 20, 22, 24, 26, 28, 30, 13, 33, 34, 37, 38, 41, 43, 44]) (by kernel_rfl) fun w33 u34 => ?_
  have zu34 := u34.size
  refine go ?_
  refine y_indexArr (j := 0) (0) underlying24 sizeOf23 rfl rfl rfl rfl rfl (by decide) rfl ?_
  refine y_indexArr (j := 0) (0) underlying23 sizeOf5 rfl rfl rfl rfl rfl (by decide) rfl ?_
  refine go ?_
  refine y_conv underlying5 underlying3 rfl rfl rfl (IntWalk.i64_in _ (by omega)) ?_
  refine go ?_
  refine y_indexArr (j := 0) (0) underlying24 sizeOf23 rfl rfl rfl rfl rfl (by decide) rfl ?_
  refine y_indexArr (j := 1) (1) underlying23 sizeOf5 rfl rfl rfl rfl rfl (by decide) rfl ?_
  refine go ?_
  refine y_conv underlying5 underlying3 rfl rfl rfl (IntWalk.i64_in _ (by omega)) (y_rem rfl rfl rfl rfl (by omega) (by omega) ?_)
  refine go ?_
  refine x_c func7 rfl rfl (moorOne_c y0 _) ?_
  rintro _ w37 ⟨rfl, u38⟩ zu38
  refine go ?_
  refine x_c func7 rfl rfl (moorOne_c (30 + (y1 % 60)) _) ?_
  rintro _ w42 ⟨rfl, u43⟩ zu43
  refine go ?_
  refine x_l fun bk46 w47 ebk46 sbk46 B48 u49 => ?_
  refine go ?_
  refine x_l fun bk51 w52 ebk51 sbk51 B53 u54 => ?_
  refine go ?_
  have D56 := (((((hac0.keep u34 (fun _ h => h)).keep u38 (fun _ h => h)).keep u43 (fun _ h => h)).keep u49 (fun _ h => h)).keep u54 (fun _ h => h))
  refine t_append (z := .agg #[.int .i64 0, .int .i64 0, .slice none 0 0, .int .i64 0, .int .i64 0]) (bytes := 56) (k := 5) (base := bk13) (trA y0 (30 + (y1 % 60)) bk46) underlying26 (by kernel_rfl) rfl (by decide) (fun _ => rfl) (by intro x; simp [encHVoy, Value.oneCell']) rfl rfl rfl rfl D56 B53 (by omega) (by omega) (by decide) (fun ao57 gb58 cp59 w60 A61 u62 gegb58 lngb58 => ?_)
  have zu62 := u62.size
  have lt_gb58 := A61.lt
  refine go ?_
  have B64 := ((B48.kx u54).keep u62 (by omega))
  exact hK27 ao57 gb58 cp59 bk46 ⟨A61, B64, (by omega)⟩
 rintro ao1 gw1 co1 gA w28 ⟨hac1, hgA, hne1⟩ u29 zu29
 have lt_gw1 := hac1.lt
 have lt_gA := hgA.lt
 have hll1 : [(trA y0 (30 + (y1 % 60)) gA)].length = 1 := rfl
 refine go ?_
 refine hK20 _ _ (WR.weak [(2, .int .u16 z), (3, .pointer (some ⟨bk2, 0, none⟩)), (4, .pointer (some ⟨bk7, 0, none⟩)), (7, .slice ao1 1 co1), (8, .int .i64 1)] ⟨rfl, rfl, rfl, rfl, rfl, trivial⟩ (r_round fun K66 hK66 => (q_of ?_)))
 iterate 10 refine st1 ?_
 refine x_k4 (fun i => (i = gw1 ∧ bk13 ≤ i)) [2, 3, 4, 8] (fun (ao2 : Option Addr) (gw2 : Nat) (co2 : Nat) (gB : Nat) => [(7, .slice ao2 2 co2)]) (fun ao2 gw2 co2 gB w => (Acc encHVoy 5 34 bk13 w ao2 gw2 co2 [(trA y0 (30 + (y1 % 60)) gA), (trB y3 (30 + (y4 % 60)) gB)]) ∧ (Blk w gB 31 [.int .i64 100, .int .i64 0, .int .i64 (30 + (y4 % 60)), .int .i64 (30 + (y4 % 60)), .int .i64 0, .int .i64 0]) ∧ (gA ≠ gw2 ∧ gB ≠ gw2 ∧ bk13 ≤ gw2)) (fun K73 hK73 => ?_) ?_
 ·
  refine go ?_
  refine c_drawnM follows (fun i => (i = gw1 ∧ bk13 ≤ i)) (OTl [0, 2, 4, 6, 8, 10, 14, 16, 18, 20, 22, 24, 26, 28, 30, 13, 33, 34, 37, 38, 41, 43, 44]) (by kernel_rfl) fun w79 u80 => ?_
  have zu80 := u80.size
  refine go ?_
  refine y_indexArr (j := 1) (3) underlying24 sizeOf23 rfl rfl rfl rfl rfl (by decide) rfl ?_
  refine y_indexArr (j := 0) (3) underlying23 sizeOf5 rfl rfl rfl rfl rfl (by decide) rfl ?_
  refine go ?_
  refine y_conv underlying5 underlying3 rfl rfl rfl (IntWalk.i64_in _ (by omega)) ?_
  refine go ?_
  refine y_indexArr (j := 1) (3) underlying24 sizeOf23 rfl rfl rfl rfl rfl (by decide) rfl ?_
  refine y_indexArr (j := 1) (4) underlying23 sizeOf5 rfl rfl rfl rfl rfl (by decide) rfl ?_
  refine go ?_
  refine y_conv underlying5 underlying3 rfl rfl rfl (IntWalk.i64_in _ (by omega)) (y_rem rfl rfl rfl rfl (by omega) (by omega) ?_)
  refine go ?_
  refine x_c func7 rfl rfl (moorOne_c y3 _) ?_
  rintro _ w83 ⟨rfl, u84⟩ zu84
  refine go ?_
  refine x_c func7 rfl rfl (moorOne_c (30 + (y4 % 60)) _) ?_
  rintro _ w88 ⟨rfl, u89⟩ zu89
  refine go ?_
  refine x_l fun bk92 w93 ebk92 sbk92 B94 u95 => ?_
  refine go ?_
  refine x_l fun bk97 w98 ebk97 sbk97 B99 u100 => ?_
  refine go ?_
  have D102 := (((((hac1.keep u80 (fun _ h => h)).keep u84 (fun _ h => h)).keep u89 (fun _ h => h)).keep u95 (fun _ h => h)).keep u100 (fun _ h => h))
  refine t_append (z := .agg #[.int .i64 0, .int .i64 0, .slice none 0 0, .int .i64 0, .int .i64 0]) (bytes := 56) (k := 5) (base := bk13) (trB y3 (30 + (y4 % 60)) bk92) underlying26 (by kernel_rfl) rfl (by decide) (fun _ => rfl) (by intro x; simp [encHVoy, Value.oneCell']) rfl rfl rfl rfl D102 B99 (by omega) (by omega) (by decide) (fun ao103 gb104 cp105 w106 A107 u108 gegb104 lngb104 => ?_)
  have zu108 := u108.size
  have lt_gb104 := A107.lt
  refine go ?_
  have B110 := ((B94.kx u100).keep u108 (by omega))
  exact hK73 ao103 gb104 cp105 bk92 ⟨A107, B110, (by omega)⟩
 rintro ao2 gw2 co2 gB w74 ⟨hac2, hgB, hne2⟩ u75 zu75
 have lt_gw2 := hac2.lt
 have lt_gB := hgB.lt
 have hll2 : [(trA y0 (30 + (y1 % 60)) gA), (trB y3 (30 + (y4 % 60)) gB)].length = 2 := rfl
 refine go ?_
 refine hK66 _ _ (WR.weak [(2, .int .u16 z), (3, .pointer (some ⟨bk2, 0, none⟩)), (4, .pointer (some ⟨bk7, 0, none⟩)), (7, .slice ao2 2 co2), (8, .int .i64 2)] ⟨rfl, rfl, rfl, rfl, rfl, trivial⟩ (r_round fun K112 hK112 => (q_of ?_)))
 refine go ?_
 refine t_indexArr (j := 0) (0) underlying24 sizeOf23 rfl rfl rfl rfl rfl (by decide) rfl (t_indexArr (j := 2) (2) underlying23 sizeOf5 rfl rfl rfl rfl rfl (by decide) rfl ?_)
 refine go ?_
 refine t_conv underlying5 underlying3 rfl rfl rfl (IntWalk.i64_in _ (by omega)) (t_rem rfl rfl rfl rfl (by omega) (by omega) ?_)
 refine go ?_
 refine x_l fun bk116 w117 ebk116 sbk116 B118 u119 => ?_
 refine go ?_
 have D122 := (hac2.keep u119 (fun _ h => h))
 have B123 := ((hgA.keep u75 (by omega)).kx u119)
 have B124 := (hgB.kx u119)
 refine x_c func8 rfl rfl (HoldsL_c (cap := co2) hya hys hyb hyr hyn (D122.sl (fun _ => rfl)) (Sl.ofBlk (enc := encRun) (xs := (vyA y0 (30 + (y1 % 60))).runs) (fun _ => rfl) B123) (Sl.ofBlk (enc := encRun) (xs := (vyB y3 (30 + (y4 % 60))).runs) (fun _ => rfl) B124) (Sl.ofBlk (enc := encNar) (xs := [nrN (41 + (y2 % 20))]) (fun _ => rfl) B118)) ?_
 rintro _ w126 ⟨⟨gh, hh, rfl, hBh, hHr, hhr⟩, u127⟩ zu127
 have D130 := (D122.keep u127 (fun _ h => h))
 have hne9 := (D130).neBlk hBh (by decide) (by omega)
 have lt_gh := hBh.lt
 refine go ?_
 refine t_index (j := 0) underlying38 sizeOf3 rfl rfl rfl rfl rfl rfl (by omega) ?_
 refine go ?_
 refine t_index (j := 1) underlying38 sizeOf3 rfl rfl rfl rfl rfl rfl (by omega) ?_
 iterate 2 refine st1 ?_
 refine t_same 89 (v := .bool false) rfl (congrArg Value.bool (decide_eq_false (by omega))) ?_
 refine go ?_
 refine g_i 1 (D130.sl (fun _ => rfl)) (fun _ => ?_)
 refine go ?_
 have B135 := (B124.kx u127)
 refine x_c func9 rfl rfl (Arrive_c (vyB y3 (30 + (y4 % 60))) (some ⟨gB, 0, none⟩) gB 0 1 0 _ (Sl.ofBlk (enc := encRun) (xs := (vyB y3 (30 + (y4 % 60))).runs) (fun _ => rfl) B135) (by show (1 : Nat) ≤ 1000000; decide)) ?_
 rintro _ w137 ⟨rfl, u138⟩ zu138
 have har9 := arrB0 (b := y3) (r := (30 + (y4 % 60))) (by omega) hyr
 rw [← hT9] at har9
 iterate 2 refine st1 ?_
 refine t_same 96 (v := .agg #[.int .i64 (y3 + T9), .int .i64 (y3 + T9)]) rfl (congrArg (fun x : Bnd => Value.agg #[.int .i64 x.lo, .int .i64 x.hi]) har9.2) ?_
 refine st1 ?_
 refine t_same 97 (v := .int .i64 0) rfl (congrArg (Value.int .i64) har9.1) ?_
 refine x_n fun bk141 w142 ebk141 sbk141 B143 u144 => ?_
 refine x_s fun w146 sw146 B148 u147 => ?_
 iterate 3 refine st1 ?_
 refine x_k1 (fun i => (i = gw2 ∧ bk13 ≤ i)) [2, 3, 7, 11, 12, 14, 15] (fun (_x : Unit) => []) (fun _x w => (Acc encHVoy 5 34 bk13 w ao2 gw2 co2 [(trA y0 (30 + (y1 % 60)) gA), (trB (y3 + hh) (30 + (y4 % 60)) gB)])) (fun K154 hK154 => ?_) ?_
 ·
  refine c_drawnM follows (fun i => i = gw2) (OTl [0, 2, 4, 6, 8, 12, 14, 16, 11, 18, 21, 22, 24, 27]) (by kernel_rfl) fun w157 u158 => ?_
  have zu158 := u158.size
  refine go ?_
  have D160 := ((((D130.keep u138 (fun _ h => h)).keep u144 (fun _ h => h)).keep u147 (fun hb => show ¬ (gw2 = bk141) by first | omega | assumption)).keep u158 (fun _ h => h))
  refine y_i 1 (D160.sl (fun _ => rfl)) (fun _ => ?_)
  refine go ?_
  refine y_index (j := 1) underlying38 sizeOf3 rfl rfl rfl rfl rfl rfl (by omega) ?_
  iterate 3 refine st1 ?_
  refine t_same 103 (v := .int .i64 y3) rfl rfl ?_
  refine go ?_
  refine x_c func7 rfl rfl (moorOne_c (y3 + hh) _) ?_
  rintro _ w163 ⟨rfl, u164⟩ zu164
  refine go ?_
  have D167 := ((((D130.keep u138 (fun _ h => h)).keep u144 (fun _ h => h)).keep u147 (fun hb => show ¬ (gw2 = bk141) by first | omega | assumption)).keep u158 (fun _ h => h))
  refine y_i 1 (D167.sl (fun _ => rfl)) (fun _ => ?_)
  refine go ?_
  have D169 := (D160.keep u164 (fun _ h => h))
  refine t_storeA (vs := [.int .i64 (y3 + hh), .int .i64 (y3 + hh)]) (j := 1) (o' := 0) (k := 5) (trB (y3 + hh) (30 + (y4 % 60)) gB) (fun _ => rfl) sizeOf28 rfl rfl (by omega) rfl D169 (by omega) rfl rfl (by decide) (by simp [Value.oneCell']) rfl (fun w170 R172 u171 => ?_)
  have zu171 := u171.size
  refine go ?_
  exact hK154 () R172
 rintro _x w155 hac3 u156 zu156
 have lt_gw2 := hac3.lt
 have hll3 : [(trA y0 (30 + (y1 % 60)) gA), (trB (y3 + hh) (30 + (y4 % 60)) gB)].length = 2 := rfl
 refine go ?_
 refine g_i 1 (hac3.sl (fun _ => rfl)) (fun _ => ?_)
 refine go ?_
 have B177 := ((((B135.kx u138).kx u144).keep u147 (by omega)).keep u156 (by omega))
 refine x_c func9 rfl rfl (Arrive_c (vyB (y3 + hh) (30 + (y4 % 60))) (some ⟨gB, 0, none⟩) gB 0 1 0 _ (Sl.ofBlk (enc := encRun) (xs := (vyB (y3 + hh) (30 + (y4 % 60))).runs) (fun _ => rfl) B177) (by show (1 : Nat) ≤ 1000000; decide)) ?_
 rintro _ w179 ⟨rfl, u180⟩ zu180
 have har9 := arrB0 (b := (y3 + hh)) (r := (30 + (y4 % 60))) (by omega) hyr
 rw [← hT9] at har9
 iterate 2 refine st1 ?_
 refine t_same 116 (v := .agg #[.int .i64 ((y3 + hh) + T9), .int .i64 ((y3 + hh) + T9)]) rfl (congrArg (fun x : Bnd => Value.agg #[.int .i64 x.lo, .int .i64 x.hi]) har9.2) ?_
 refine st1 ?_
 refine t_same 117 (v := .int .i64 0) rfl (congrArg (Value.int .i64) har9.1) ?_
 refine x_n fun bk183 w184 ebk183 sbk183 B185 u186 => ?_
 refine x_s fun w188 sw188 B190 u189 => ?_
 refine go ?_
 have D193 := (((hac3.keep u180 (fun _ h => h)).keep u186 (fun _ h => h)).keep u189 (fun hb => show ¬ (gw2 = bk183) by first | omega | assumption))
 have B194 := ((((((((B123.kx u127).kx u138).kx u144).keep u147 (by omega)).keep u156 (by omega)).kx u180).kx u186).keep u189 (by omega))
 have B195 := (((B177.kx u180).kx u186).keep u189 (by omega))
 have B196 := ((((((((B118.kx u127).kx u138).kx u144).keep u147 (by omega)).keep u156 (by omega)).kx u180).kx u186).keep u189 (by omega))
 refine x_c func10 rfl rfl (ConfL_c (cap := co2) hya hys hyb hyr hyn hhr hHr (D193.sl (fun _ => rfl)) (Sl.ofBlk (enc := encRun) (xs := (vyA y0 (30 + (y1 % 60))).runs) (fun _ => rfl) B194) (Sl.ofBlk (enc := encRun) (xs := (vyB y3 (30 + (y4 % 60))).runs) (fun _ => rfl) B195) (Sl.ofBlk (enc := encNar) (xs := [nrN (41 + (y2 % 20))]) (fun _ => rfl) B196)) ?_
 rintro _ w198 ⟨⟨aoC, cpC, rfl⟩, u199⟩ zu199
 iterate 8 refine st1 ?_
 refine x_k1 (fun _ => False) [2, 3, 12, 15, 16] (fun (_x : Unit) => [(156, .bool false)]) (fun _x w => True) (fun K207 hK207 => ?_) ?_
 ·
  refine c_drawnM follows (fun _ => False) (OTl [0, 2, 4, 6, 8, 10, 12, 14, 16, 18, 20, 22, 24, 26, 28, 30, 32, 34, 36, 38, 40, 42, 44, 46, 48, 50, 52, 54, 56, 58, 61, 62, 64]) (by kernel_rfl) fun w210 u211 => ?_
  have zu211 := u211.size
  iterate 21 refine st1 ?_
  refine y_samehd (v := .bool false) (by simp) ?_
  refine go ?_
  refine y_index (j := 1) underlying38 sizeOf3 rfl rfl rfl rfl rfl rfl (by omega) ?_
  refine go ?_
  refine x_c func7 rfl rfl (moorOne_c ((y3 + T9) + hh) _) ?_
  rintro _ w214 ⟨rfl, u215⟩ zu215
  refine go ?_
  refine y_neS (xs := [.int .i64 ((y3 + hh) + T9), .int .i64 ((y3 + hh) + T9)]) (ys := [.int .i64 ((y3 + T9) + hh), .int .i64 ((y3 + T9) + hh)]) (by kernel_rfl) (eqIn28 9998 ((y3 + hh) + T9) ((y3 + hh) + T9) ((y3 + T9) + hh) ((y3 + T9) + hh)) rfl rfl rfl rfl (y_same 155 (v := .bool false) rfl (congrArg Value.bool (by simp; omega)) ?_)
  refine go ?_
  exact hK207 () trivial
 rintro _x w208 _ u209 zu209
 iterate 3 refine st1 ?_
 refine x_k2 (fun _ => False) [12, 15, 16] (fun (b20 : Nat) (gW : Nat) => [(20, .pointer (some ⟨b20, 0, none⟩)), (21, .int .i64 (((y3 + hh) + T9) + (z % 3000)))]) (fun b20 gW w => (Blk w b20 49 [.int .i64 1, .int .i64 2, .int .i64 3, .int .i64 (1 + x0), .int .i64 (4 * x1), .int .i64 (4 * x2), .int .i64 x3, .int .i64 (500 * x4), .int .i64 (200 * x4), .int .i64 (x0 % 20), .slice (some ⟨gW, 0, none⟩) 2 2]) ∧ (Blk w gW 127 [.int .i64 100, .int .i64 30, .int .i64 180, .int .i64 10])) (fun K223 hK223 => ?_) ?_
 ·
  refine c_drawnM follows (fun _ => False) (.look 0 (.look 2 (.look 3 (.look 4 (.look 5 (.look 6 (.look 7 (.act 1 (.act 8 (.act 9 (.look 10 .done) .stop) .stop) (.act 8 (.act 1 (.act 9 (.look 10 .done) .stop) .stop) .stop))))))))) (by kernel_rfl) fun w226 u227 => ?_
  have zu227 := u227.size
  refine go ?_
  refine y_conv underlying25 underlying3 rfl rfl rfl (IntWalk.i64_in _ (by omega)) (y_rem rfl rfl rfl rfl (by omega) (by omega) ?_)
  refine go ?_
  refine s_or ?_ ?_
  ·
   refine go ?_
   refine x_c func11 rfl rfl (moorCharter_c x0 x1 x2 x3 x4 _ hx) ?_
   rintro _ w230 ⟨⟨gW, rfl, hgWl, hW⟩, u231⟩ zu231
   have lt_gW := hW.lt
   refine go ?_
   refine x_n fun bk234 w235 ebk234 sbk234 B236 u237 => ?_
   refine go ?_
   refine x_s fun w239 sw239 B241 u240 => ?_
   refine go ?_
   have B243 := ((hW.kx u237).keep u240 (by omega))
   exact hK223 bk234 gW ⟨B241, B243⟩
  refine go ?_
  refine x_n fun bk244 w245 ebk244 sbk244 B246 u247 => ?_
  refine go ?_
  refine x_c func11 rfl rfl (moorCharter_c x0 x1 x2 x3 x4 _ hx) ?_
  rintro _ w250 ⟨⟨gW, rfl, hgWl, hW⟩, u251⟩ zu251
  have lt_gW := hW.lt
  refine go ?_
  refine x_s fun w254 sw254 B256 u255 => ?_
  refine go ?_
  have B258 := (hW.keep u255 (by omega))
  exact hK223 bk244 gW ⟨B256, B258⟩
 rintro b20 gW w224 ⟨hb20, hgW⟩ u225 zu225
 have lt_b20 := hb20.lt
 have lt_gW := hgW.lt
 refine x_k1 (fun _ => False) [12, 15, 16, 20, 21] (fun (b22 : Nat) => [(14, .int .i64 0), (22, .pointer (some ⟨b22, 0, none⟩))]) (fun b22 w => (Blk w b22 52 [.int .i64 ((lcM (chX ⟨x0, x1, x2, x3, x4⟩).l (((y3 + hh) + T9) + (z % 3000)) ((y3 + T9) + (chX ⟨x0, x1, x2, x3, x4⟩).o) (exc [])).b), .int .i64 ((lcM (chX ⟨x0, x1, x2, x3, x4⟩).l (((y3 + hh) + T9) + (z % 3000)) ((y3 + T9) + (chX ⟨x0, x1, x2, x3, x4⟩).o) (exc [])).u), .int .i64 ((lcM (chX ⟨x0, x1, x2, x3, x4⟩).l (((y3 + hh) + T9) + (z % 3000)) ((y3 + T9) + (chX ⟨x0, x1, x2, x3, x4⟩).o) (exc [])).o), .int .i64 ((lcM (chX ⟨x0, x1, x2, x3, x4⟩).l (((y3 + hh) + T9) + (z % 3000)) ((y3 + T9) + (chX ⟨x0, x1, x2, x3, x4⟩).o) (exc [])).s)])) (fun K264 hK264 => ?_) ?_
 ·
  refine c_drawnM follows (fun _ => False) (.look 0 (.look 1 (.look 2 (.look 3 (.act 4 (.act 5 (.look 6 (.look 7 (.look 8 (.act 9 (.act 10 (.look 11 .done) .stop) .stop)))) (.act 9 (.act 5 (.look 6 (.look 7 (.look 8 (.act 10 (.look 11 .done) .stop)))) .stop) .stop)) (.act 9 (.act 4 (.act 5 (.look 6 (.look 7 (.look 8 (.act 10 (.look 11 .done) .stop)))) .stop) .stop) .stop)))))) (by kernel_rfl) fun w267 u268 => ?_
  have zu268 := u268.size
  refine go ?_
  refine s_or ?_ ?_
  ·
   refine go ?_
   refine x_c func13 rfl rfl (moorCall_c 0 (y3 + T9) (((y3 + hh) + T9) + (z % 3000)) 5 99 _) ?_
   rintro _ w272 ⟨⟨gM270, rfl, hgM270, hM270⟩, u273⟩ zu273
   have hgM270l := hM270.lt (show 0 < 4 by decide)
   refine go ?_
   refine s_or ?_ ?_
   ·
    refine go ?_
    have B277 := ((hgW.kx u268).kx u273)
    refine x_c func12 rfl rfl (Laytime_c (chX ⟨x0, x1, x2, x3, x4⟩) wsX (some ⟨gW, 0, none⟩) gW 0 2 [] none 0 0 0 (mcL 0 (y3 + T9) (((y3 + hh) + T9) + (z % 3000)) 5 99) (some ⟨gM270, 0, none⟩) gM270 0 4 _ (Sl.ofBlk (enc := encLow) (xs := wsX) (fun _ => rfl) B277) (by decide) (Sl.nil _ _ _ _ _ _) (by decide) hM270 (show (4 : Nat) ≤ 1000000 by decide) (by omega)) ?_
    rintro _ w279 ⟨⟨lqq276, eqq276, rfl, hLqq276⟩, u280⟩ zu280
    obtain ⟨rfl, rfl⟩ := mc_lt ⟨by omega, by omega, by decide, by decide⟩ (chX_ok hx) hLqq276
    refine go ?_
    refine x_n fun bk283 w284 ebk283 sbk283 B285 u286 => ?_
    refine go ?_
    refine x_s fun w288 sw288 B290 u289 => ?_
    refine go ?_
    exact hK264 bk283 B290
   refine go ?_
   refine x_n fun bk292 w293 ebk292 sbk292 B294 u295 => ?_
   refine go ?_
   have B298 := (((hgW.kx u268).kx u273).kx u295)
   have D299 := (hM270.keep u295 (fun _ h => h))
   refine x_c func12 rfl rfl (Laytime_c (chX ⟨x0, x1, x2, x3, x4⟩) wsX (some ⟨gW, 0, none⟩) gW 0 2 [] none 0 0 0 (mcL 0 (y3 + T9) (((y3 + hh) + T9) + (z % 3000)) 5 99) (some ⟨gM270, 0, none⟩) gM270 0 4 _ (Sl.ofBlk (enc := encLow) (xs := wsX) (fun _ => rfl) B298) (by decide) (Sl.nil _ _ _ _ _ _) (by decide) D299 (show (4 : Nat) ≤ 1000000 by decide) (by omega)) ?_
   rintro _ w301 ⟨⟨lqq297, eqq297, rfl, hLqq297⟩, u302⟩ zu302
   obtain ⟨rfl, rfl⟩ := mc_lt ⟨by omega, by omega, by decide, by decide⟩ (chX_ok hx) hLqq297
   refine go ?_
   refine x_s fun w305 sw305 B307 u306 => ?_
   refine go ?_
   exact hK264 bk292 B307
  refine go ?_
  refine x_n fun bk309 w310 ebk309 sbk309 B311 u312 => ?_
  refine go ?_
  refine x_c func13 rfl rfl (moorCall_c 0 (y3 + T9) (((y3 + hh) + T9) + (z % 3000)) 5 99 _) ?_
  rintro _ w316 ⟨⟨gM314, rfl, hgM314, hM314⟩, u317⟩ zu317
  have hgM314l := hM314.lt (show 0 < 4 by decide)
  refine go ?_
  have B321 := (((hgW.kx u268).kx u312).kx u317)
  refine x_c func12 rfl rfl (Laytime_c (chX ⟨x0, x1, x2, x3, x4⟩) wsX (some ⟨gW, 0, none⟩) gW 0 2 [] none 0 0 0 (mcL 0 (y3 + T9) (((y3 + hh) + T9) + (z % 3000)) 5 99) (some ⟨gM314, 0, none⟩) gM314 0 4 _ (Sl.ofBlk (enc := encLow) (xs := wsX) (fun _ => rfl) B321) (by decide) (Sl.nil _ _ _ _ _ _) (by decide) hM314 (show (4 : Nat) ≤ 1000000 by decide) (by omega)) ?_
  rintro _ w323 ⟨⟨lqq320, eqq320, rfl, hLqq320⟩, u324⟩ zu324
  obtain ⟨rfl, rfl⟩ := mc_lt ⟨by omega, by omega, by decide, by decide⟩ (chX_ok hx) hLqq320
  refine go ?_
  refine x_s fun w327 sw327 B329 u328 => ?_
  refine go ?_
  exact hK264 bk309 B329
 rintro b22 w265 hb22 u266 zu266
 have lt_b22 := hb22.lt
 refine x_k1 (fun _ => False) [12, 14, 15, 16, 20, 21, 22] (fun (b23 : Nat) => [(17, .int .i64 0), (23, .pointer (some ⟨b23, 0, none⟩))]) (fun b23 w => (Blk w b23 52 [.int .i64 ((lcM (chX ⟨x0, x1, x2, x3, x4⟩).l (((y3 + hh) + T9) + (z % 3000)) (((y3 + hh) + T9) + (chX ⟨x0, x1, x2, x3, x4⟩).o) (exc [])).b), .int .i64 ((lcM (chX ⟨x0, x1, x2, x3, x4⟩).l (((y3 + hh) + T9) + (z % 3000)) (((y3 + hh) + T9) + (chX ⟨x0, x1, x2, x3, x4⟩).o) (exc [])).u), .int .i64 ((lcM (chX ⟨x0, x1, x2, x3, x4⟩).l (((y3 + hh) + T9) + (z % 3000)) (((y3 + hh) + T9) + (chX ⟨x0, x1, x2, x3, x4⟩).o) (exc [])).o), .int .i64 ((lcM (chX ⟨x0, x1, x2, x3, x4⟩).l (((y3 + hh) + T9) + (z % 3000)) (((y3 + hh) + T9) + (chX ⟨x0, x1, x2, x3, x4⟩).o) (exc [])).s)])) (fun K336 hK336 => ?_) ?_
 ·
  refine c_drawnM follows (fun _ => False) (.look 0 (.look 1 (.look 2 (.look 3 (.act 4 (.act 5 (.look 6 (.look 7 (.look 8 (.act 9 (.act 10 (.look 11 .done) .stop) .stop)))) (.act 9 (.act 5 (.look 6 (.look 7 (.look 8 (.act 10 (.look 11 .done) .stop)))) .stop) .stop)) (.act 9 (.act 4 (.act 5 (.look 6 (.look 7 (.look 8 (.act 10 (.look 11 .done) .stop)))) .stop) .stop) .stop)))))) (by kernel_rfl) fun w339 u340 => ?_
  have zu340 := u340.size
  refine go ?_
  refine s_or ?_ ?_
  ·
   refine go ?_
   refine x_c func13 rfl rfl (moorCall_c 0 ((y3 + hh) + T9) (((y3 + hh) + T9) + (z % 3000)) 5 99 _) ?_
   rintro _ w344 ⟨⟨gM342, rfl, hgM342, hM342⟩, u345⟩ zu345
   have hgM342l := hM342.lt (show 0 < 4 by decide)
   refine go ?_
   refine s_or ?_ ?_
   ·
    refine go ?_
    have B349 := (((hgW.kx u266).kx u340).kx u345)
    refine x_c func12 rfl rfl (Laytime_c (chX ⟨x0, x1, x2, x3, x4⟩) wsX (some ⟨gW, 0, none⟩) gW 0 2 [] none 0 0 0 (mcL 0 ((y3 + hh) + T9) (((y3 + hh) + T9) + (z % 3000)) 5 99) (some ⟨gM342, 0, none⟩) gM342 0 4 _ (Sl.ofBlk (enc := encLow) (xs := wsX) (fun _ => rfl) B349) (by decide) (Sl.nil _ _ _ _ _ _) (by decide) hM342 (show (4 : Nat) ≤ 1000000 by decide) (by omega)) ?_
    rintro _ w351 ⟨⟨lqq348, eqq348, rfl, hLqq348⟩, u352⟩ zu352
    obtain ⟨rfl, rfl⟩ := mc_lt ⟨by omega, by omega, by decide, by decide⟩ (chX_ok hx) hLqq348
    refine go ?_
    refine x_n fun bk355 w356 ebk355 sbk355 B357 u358 => ?_
    refine go ?_
    refine x_s fun w360 sw360 B362 u361 => ?_
    refine go ?_
    exact hK336 bk355 B362
   refine go ?_
   refine x_n fun bk364 w365 ebk364 sbk364 B366 u367 => ?_
   refine go ?_
   have B370 := ((((hgW.kx u266).kx u340).kx u345).kx u367)
   have D371 := (hM342.keep u367 (fun _ h => h))
   refine x_c func12 rfl rfl (Laytime_c (chX ⟨x0, x1, x2, x3, x4⟩) wsX (some ⟨gW, 0, none⟩) gW 0 2 [] none 0 0 0 (mcL 0 ((y3 + hh) + T9) (((y3 + hh) + T9) + (z % 3000)) 5 99) (some ⟨gM342, 0, none⟩) gM342 0 4 _ (Sl.ofBlk (enc := encLow) (xs := wsX) (fun _ => rfl) B370) (by decide) (Sl.nil _ _ _ _ _ _) (by decide) D371 (show (4 : Nat) ≤ 1000000 by decide) (by omega)) ?_
   rintro _ w373 ⟨⟨lqq369, eqq369, rfl, hLqq369⟩, u374⟩ zu374
   obtain ⟨rfl, rfl⟩ := mc_lt ⟨by omega, by omega, by decide, by decide⟩ (chX_ok hx) hLqq369
   refine go ?_
   refine x_s fun w377 sw377 B379 u378 => ?_
   refine go ?_
   exact hK336 bk364 B379
  refine go ?_
  refine x_n fun bk381 w382 ebk381 sbk381 B383 u384 => ?_
  refine go ?_
  refine x_c func13 rfl rfl (moorCall_c 0 ((y3 + hh) + T9) (((y3 + hh) + T9) + (z % 3000)) 5 99 _) ?_
  rintro _ w388 ⟨⟨gM386, rfl, hgM386, hM386⟩, u389⟩ zu389
  have hgM386l := hM386.lt (show 0 < 4 by decide)
  refine go ?_
  have B393 := ((((hgW.kx u266).kx u340).kx u384).kx u389)
  refine x_c func12 rfl rfl (Laytime_c (chX ⟨x0, x1, x2, x3, x4⟩) wsX (some ⟨gW, 0, none⟩) gW 0 2 [] none 0 0 0 (mcL 0 ((y3 + hh) + T9) (((y3 + hh) + T9) + (z % 3000)) 5 99) (some ⟨gM386, 0, none⟩) gM386 0 4 _ (Sl.ofBlk (enc := encLow) (xs := wsX) (fun _ => rfl) B393) (by decide) (Sl.nil _ _ _ _ _ _) (by decide) hM386 (show (4 : Nat) ≤ 1000000 by decide) (by omega)) ?_
  rintro _ w395 ⟨⟨lqq392, eqq392, rfl, hLqq392⟩, u396⟩ zu396
  obtain ⟨rfl, rfl⟩ := mc_lt ⟨by omega, by omega, by decide, by decide⟩ (chX_ok hx) hLqq392
  refine go ?_
  refine x_s fun w399 sw399 B401 u400 => ?_
  refine go ?_
  exact hK336 bk381 B401
 rintro b23 w337 hb23 u338 zu338
 have lt_b23 := hb23.lt
 refine x_k1 (fun _ => False) [12, 14, 16, 17, 20, 21, 22, 23] (fun (b24 : Nat) => [(19, .int .i64 0), (24, .pointer (some ⟨b24, 0, none⟩))]) (fun b24 w => (Blk w b24 58 [.int .i64 ((blP (chX ⟨x0, x1, x2, x3, x4⟩) wsX 500 99 (lcM (chX ⟨x0, x1, x2, x3, x4⟩).l (((y3 + hh) + T9) + (z % 3000)) ((y3 + T9) + (chX ⟨x0, x1, x2, x3, x4⟩).o) (exc []))).f), .int .i64 ((blP (chX ⟨x0, x1, x2, x3, x4⟩) wsX 500 99 (lcM (chX ⟨x0, x1, x2, x3, x4⟩).l (((y3 + hh) + T9) + (z % 3000)) ((y3 + T9) + (chX ⟨x0, x1, x2, x3, x4⟩).o) (exc []))).o), .int .i64 ((blP (chX ⟨x0, x1, x2, x3, x4⟩) wsX 500 99 (lcM (chX ⟨x0, x1, x2, x3, x4⟩).l (((y3 + hh) + T9) + (z % 3000)) ((y3 + T9) + (chX ⟨x0, x1, x2, x3, x4⟩).o) (exc []))).d), .int .i64 ((blP (chX ⟨x0, x1, x2, x3, x4⟩) wsX 500 99 (lcM (chX ⟨x0, x1, x2, x3, x4⟩).l (((y3 + hh) + T9) + (z % 3000)) ((y3 + T9) + (chX ⟨x0, x1, x2, x3, x4⟩).o) (exc []))).e), .int .i64 ((blP (chX ⟨x0, x1, x2, x3, x4⟩) wsX 500 99 (lcM (chX ⟨x0, x1, x2, x3, x4⟩).l (((y3 + hh) + T9) + (z % 3000)) ((y3 + T9) + (chX ⟨x0, x1, x2, x3, x4⟩).o) (exc []))).c), .int .i64 ((blP (chX ⟨x0, x1, x2, x3, x4⟩) wsX 500 99 (lcM (chX ⟨x0, x1, x2, x3, x4⟩).l (((y3 + hh) + T9) + (z % 3000)) ((y3 + T9) + (chX ⟨x0, x1, x2, x3, x4⟩).o) (exc []))).t)])) (fun K408 hK408 => ?_) ?_
 ·
  refine c_drawnM follows (fun _ => False) (.look 0 (.look 1 (.look 2 (.look 3 (.act 4 (.act 5 (.look 6 (.look 7 (.look 8 (.act 9 (.act 10 (.look 11 .done) .stop) .stop)))) (.act 9 (.act 5 (.look 6 (.look 7 (.look 8 (.act 10 (.look 11 .done) .stop)))) .stop) .stop)) (.act 9 (.act 4 (.act 5 (.look 6 (.look 7 (.look 8 (.act 10 (.look 11 .done) .stop)))) .stop) .stop) .stop)))))) (by kernel_rfl) fun w411 u412 => ?_
  have zu412 := u412.size
  refine go ?_
  refine s_or ?_ ?_
  ·
   refine go ?_
   refine x_c func13 rfl rfl (moorCall_c 0 (y3 + T9) (((y3 + hh) + T9) + (z % 3000)) 500 99 _) ?_
   rintro _ w416 ⟨⟨gM414, rfl, hgM414, hM414⟩, u417⟩ zu417
   have hgM414l := hM414.lt (show 0 < 4 by decide)
   refine go ?_
   refine s_or ?_ ?_
   ·
    refine go ?_
    have B421 := ((((hgW.kx u266).kx u338).kx u412).kx u417)
    refine x_c func14 rfl rfl (Bill_c (chX ⟨x0, x1, x2, x3, x4⟩) wsX (some ⟨gW, 0, none⟩) gW 0 2 [] none 0 0 0 (mcL 0 (y3 + T9) (((y3 + hh) + T9) + (z % 3000)) 500 99) (some ⟨gM414, 0, none⟩) gM414 0 4 _ (Sl.ofBlk (enc := encLow) (xs := wsX) (fun _ => rfl) B421) (by decide) (Sl.nil _ _ _ _ _ _) (by decide) hM414 (show (4 : Nat) ≤ 1000000 by decide) (by omega)) ?_
    rintro _ w423 ⟨⟨lqq420, eqq420, rfl, hLqq420⟩, u424⟩ zu424
    obtain ⟨rfl, rfl⟩ := mc_bi ⟨by omega, by omega, by decide, by decide⟩ (chX_ok hx) hLqq420
    refine go ?_
    refine x_n fun bk427 w428 ebk427 sbk427 B429 u430 => ?_
    refine go ?_
    refine x_s fun w432 sw432 B434 u433 => ?_
    refine go ?_
    exact hK408 bk427 B434
   refine go ?_
   refine x_n fun bk436 w437 ebk436 sbk436 B438 u439 => ?_
   refine go ?_
   have B442 := (((((hgW.kx u266).kx u338).kx u412).kx u417).kx u439)
   have D443 := (hM414.keep u439 (fun _ h => h))
   refine x_c func14 rfl rfl (Bill_c (chX ⟨x0, x1, x2, x3, x4⟩) wsX (some ⟨gW, 0, none⟩) gW 0 2 [] none 0 0 0 (mcL 0 (y3 + T9) (((y3 + hh) + T9) + (z % 3000)) 500 99) (some ⟨gM414, 0, none⟩) gM414 0 4 _ (Sl.ofBlk (enc := encLow) (xs := wsX) (fun _ => rfl) B442) (by decide) (Sl.nil _ _ _ _ _ _) (by decide) D443 (show (4 : Nat) ≤ 1000000 by decide) (by omega)) ?_
   rintro _ w445 ⟨⟨lqq441, eqq441, rfl, hLqq441⟩, u446⟩ zu446
   obtain ⟨rfl, rfl⟩ := mc_bi ⟨by omega, by omega, by decide, by decide⟩ (chX_ok hx) hLqq441
   refine go ?_
   refine x_s fun w449 sw449 B451 u450 => ?_
   refine go ?_
   exact hK408 bk436 B451
  refine go ?_
  refine x_n fun bk453 w454 ebk453 sbk453 B455 u456 => ?_
  refine go ?_
  refine x_c func13 rfl rfl (moorCall_c 0 (y3 + T9) (((y3 + hh) + T9) + (z % 3000)) 500 99 _) ?_
  rintro _ w460 ⟨⟨gM458, rfl, hgM458, hM458⟩, u461⟩ zu461
  have hgM458l := hM458.lt (show 0 < 4 by decide)
  refine go ?_
  have B465 := (((((hgW.kx u266).kx u338).kx u412).kx u456).kx u461)
  refine x_c func14 rfl rfl (Bill_c (chX ⟨x0, x1, x2, x3, x4⟩) wsX (some ⟨gW, 0, none⟩) gW 0 2 [] none 0 0 0 (mcL 0 (y3 + T9) (((y3 + hh) + T9) + (z % 3000)) 500 99) (some ⟨gM458, 0, none⟩) gM458 0 4 _ (Sl.ofBlk (enc := encLow) (xs := wsX) (fun _ => rfl) B465) (by decide) (Sl.nil _ _ _ _ _ _) (by decide) hM458 (show (4 : Nat) ≤ 1000000 by decide) (by omega)) ?_
  rintro _ w467 ⟨⟨lqq464, eqq464, rfl, hLqq464⟩, u468⟩ zu468
  obtain ⟨rfl, rfl⟩ := mc_bi ⟨by omega, by omega, by decide, by decide⟩ (chX_ok hx) hLqq464
  refine go ?_
  refine x_s fun w471 sw471 B473 u472 => ?_
  refine go ?_
  exact hK408 bk453 B473
 rintro b24 w409 hb24 u410 zu410
 have lt_b24 := hb24.lt
 refine x_k1 (fun _ => False) [12, 14, 17, 19, 22, 23, 24] (fun (b25 : Nat) => [(25, .pointer (some ⟨b25, 0, none⟩)), (26, .int .i64 0)]) (fun b25 w => (Blk w b25 58 [.int .i64 ((blP (chX ⟨x0, x1, x2, x3, x4⟩) wsX 500 99 (lcM (chX ⟨x0, x1, x2, x3, x4⟩).l (((y3 + hh) + T9) + (z % 3000)) (((y3 + hh) + T9) + (chX ⟨x0, x1, x2, x3, x4⟩).o) (exc []))).f), .int .i64 ((blP (chX ⟨x0, x1, x2, x3, x4⟩) wsX 500 99 (lcM (chX ⟨x0, x1, x2, x3, x4⟩).l (((y3 + hh) + T9) + (z % 3000)) (((y3 + hh) + T9) + (chX ⟨x0, x1, x2, x3, x4⟩).o) (exc []))).o), .int .i64 ((blP (chX ⟨x0, x1, x2, x3, x4⟩) wsX 500 99 (lcM (chX ⟨x0, x1, x2, x3, x4⟩).l (((y3 + hh) + T9) + (z % 3000)) (((y3 + hh) + T9) + (chX ⟨x0, x1, x2, x3, x4⟩).o) (exc []))).d), .int .i64 ((blP (chX ⟨x0, x1, x2, x3, x4⟩) wsX 500 99 (lcM (chX ⟨x0, x1, x2, x3, x4⟩).l (((y3 + hh) + T9) + (z % 3000)) (((y3 + hh) + T9) + (chX ⟨x0, x1, x2, x3, x4⟩).o) (exc []))).e), .int .i64 ((blP (chX ⟨x0, x1, x2, x3, x4⟩) wsX 500 99 (lcM (chX ⟨x0, x1, x2, x3, x4⟩).l (((y3 + hh) + T9) + (z % 3000)) (((y3 + hh) + T9) + (chX ⟨x0, x1, x2, x3, x4⟩).o) (exc []))).c), .int .i64 ((blP (chX ⟨x0, x1, x2, x3, x4⟩) wsX 500 99 (lcM (chX ⟨x0, x1, x2, x3, x4⟩).l (((y3 + hh) + T9) + (z % 3000)) (((y3 + hh) + T9) + (chX ⟨x0, x1, x2, x3, x4⟩).o) (exc []))).t)])) (fun K480 hK480 => ?_) ?_
 ·
  refine c_drawnM follows (fun _ => False) (.look 0 (.look 1 (.look 2 (.look 3 (.act 4 (.act 5 (.look 6 (.look 7 (.look 8 (.act 9 (.act 10 (.look 11 .done) .stop) .stop)))) (.act 9 (.act 5 (.look 6 (.look 7 (.look 8 (.act 10 (.look 11 .done) .stop)))) .stop) .stop)) (.act 9 (.act 4 (.act 5 (.look 6 (.look 7 (.look 8 (.act 10 (.look 11 .done) .stop)))) .stop) .stop) .stop)))))) (by kernel_rfl) fun w483 u484 => ?_
  have zu484 := u484.size
  refine go ?_
  refine s_or ?_ ?_
  ·
   refine go ?_
   refine x_c func13 rfl rfl (moorCall_c 0 ((y3 + hh) + T9) (((y3 + hh) + T9) + (z % 3000)) 500 99 _) ?_
   rintro _ w488 ⟨⟨gM486, rfl, hgM486, hM486⟩, u489⟩ zu489
   have hgM486l := hM486.lt (show 0 < 4 by decide)
   refine go ?_
   refine s_or ?_ ?_
   ·
    refine go ?_
    have B493 := (((((hgW.kx u266).kx u338).kx u410).kx u484).kx u489)
    refine x_c func14 rfl rfl (Bill_c (chX ⟨x0, x1, x2, x3, x4⟩) wsX (some ⟨gW, 0, none⟩) gW 0 2 [] none 0 0 0 (mcL 0 ((y3 + hh) + T9) (((y3 + hh) + T9) + (z % 3000)) 500 99) (some ⟨gM486, 0, none⟩) gM486 0 4 _ (Sl.ofBlk (enc := encLow) (xs := wsX) (fun _ => rfl) B493) (by decide) (Sl.nil _ _ _ _ _ _) (by decide) hM486 (show (4 : Nat) ≤ 1000000 by decide) (by omega)) ?_
    rintro _ w495 ⟨⟨lqq492, eqq492, rfl, hLqq492⟩, u496⟩ zu496
    obtain ⟨rfl, rfl⟩ := mc_bi ⟨by omega, by omega, by decide, by decide⟩ (chX_ok hx) hLqq492
    refine go ?_
    refine x_n fun bk499 w500 ebk499 sbk499 B501 u502 => ?_
    refine go ?_
    refine x_s fun w504 sw504 B506 u505 => ?_
    refine go ?_
    exact hK480 bk499 B506
   refine go ?_
   refine x_n fun bk508 w509 ebk508 sbk508 B510 u511 => ?_
   refine go ?_
   have B514 := ((((((hgW.kx u266).kx u338).kx u410).kx u484).kx u489).kx u511)
   have D515 := (hM486.keep u511 (fun _ h => h))
   refine x_c func14 rfl rfl (Bill_c (chX ⟨x0, x1, x2, x3, x4⟩) wsX (some ⟨gW, 0, none⟩) gW 0 2 [] none 0 0 0 (mcL 0 ((y3 + hh) + T9) (((y3 + hh) + T9) + (z % 3000)) 500 99) (some ⟨gM486, 0, none⟩) gM486 0 4 _ (Sl.ofBlk (enc := encLow) (xs := wsX) (fun _ => rfl) B514) (by decide) (Sl.nil _ _ _ _ _ _) (by decide) D515 (show (4 : Nat) ≤ 1000000 by decide) (by omega)) ?_
   rintro _ w517 ⟨⟨lqq513, eqq513, rfl, hLqq513⟩, u518⟩ zu518
   obtain ⟨rfl, rfl⟩ := mc_bi ⟨by omega, by omega, by decide, by decide⟩ (chX_ok hx) hLqq513
   refine go ?_
   refine x_s fun w521 sw521 B523 u522 => ?_
   refine go ?_
   exact hK480 bk508 B523
  refine go ?_
  refine x_n fun bk525 w526 ebk525 sbk525 B527 u528 => ?_
  refine go ?_
  refine x_c func13 rfl rfl (moorCall_c 0 ((y3 + hh) + T9) (((y3 + hh) + T9) + (z % 3000)) 500 99 _) ?_
  rintro _ w532 ⟨⟨gM530, rfl, hgM530, hM530⟩, u533⟩ zu533
  have hgM530l := hM530.lt (show 0 < 4 by decide)
  refine go ?_
  have B537 := ((((((hgW.kx u266).kx u338).kx u410).kx u484).kx u528).kx u533)
  refine x_c func14 rfl rfl (Bill_c (chX ⟨x0, x1, x2, x3, x4⟩) wsX (some ⟨gW, 0, none⟩) gW 0 2 [] none 0 0 0 (mcL 0 ((y3 + hh) + T9) (((y3 + hh) + T9) + (z % 3000)) 500 99) (some ⟨gM530, 0, none⟩) gM530 0 4 _ (Sl.ofBlk (enc := encLow) (xs := wsX) (fun _ => rfl) B537) (by decide) (Sl.nil _ _ _ _ _ _) (by decide) hM530 (show (4 : Nat) ≤ 1000000 by decide) (by omega)) ?_
  rintro _ w539 ⟨⟨lqq536, eqq536, rfl, hLqq536⟩, u540⟩ zu540
  obtain ⟨rfl, rfl⟩ := mc_bi ⟨by omega, by omega, by decide, by decide⟩ (chX_ok hx) hLqq536
  refine go ?_
  refine x_s fun w543 sw543 B545 u544 => ?_
  refine go ?_
  exact hK480 bk525 B545
 rintro b25 w481 hb25 u482 zu482
 have lt_b25 := hb25.lt
 refine go ?_
 have hlc1 := lcM_none (L := (chX ⟨x0, x1, x2, x3, x4⟩).l) (en := (((y3 + hh) + T9) + (z % 3000))) (b := (y3 + T9) + (chX ⟨x0, x1, x2, x3, x4⟩).o) (by omega)
 have hlc2 := lcM_none (L := (chX ⟨x0, x1, x2, x3, x4⟩).l) (en := (((y3 + hh) + T9) + (z % 3000))) (b := ((y3 + hh) + T9) + (chX ⟨x0, x1, x2, x3, x4⟩).o) (by omega)
 refine c_drawnM follows (fun _ => False) (OTl [0, 2, 4, 6, 8, 10, 12, 14, 16, 18, 20, 22, 24, 26, 28, 30, 32, 34, 36, 38, 40, 42, 44, 46, 48]) (by kernel_rfl) fun w550 u551 => ?_
 have zu551 := u551.size
 refine go ?_
 refine y_index (j := 1) underlying38 sizeOf3 rfl rfl rfl rfl rfl rfl (by omega) ?_
 iterate 3 refine st1 ?_
 refine y_same 224 (v := .bool false) rfl (congrArg Value.bool (decide_eq_false (by omega))) ?_
 iterate 26 refine st1 ?_
 refine t_same 238 (v := .bool true) rfl (congrArg Value.bool (decide_eq_true (by omega))) ?_
 refine go ?_
 refine t_index (j := 1) underlying38 sizeOf3 rfl rfl rfl rfl rfl rfl (by omega) ?_
 iterate 2 refine st1 ?_
 refine t_same 244 (v := .bool true) rfl (congrArg Value.bool (decide_eq_true (by omega))) ?_
 iterate 7 refine st1 ?_
 refine t_same 251 (v := .bool true) rfl (congrArg Value.bool (decide_eq_true (rfl))) ?_
 iterate 7 refine st1 ?_
 refine t_same 258 (v := .bool true) rfl (congrArg Value.bool (decide_eq_true (rfl))) ?_
 iterate 7 refine st1 ?_
 refine t_same 265 (v := .bool true) rfl (congrArg Value.bool (decide_eq_true (rfl))) ?_
 iterate 7 refine st1 ?_
 refine t_same 272 (v := .bool true) rfl (congrArg Value.bool (decide_eq_true (bl_later (by omega) (by omega) (by omega) (by omega)))) ?_
 refine go ?_
 refine x_c func15 rfl rfl (moorPays_c _) ?_
 rintro _ w556 ⟨rfl, u557⟩ zu557
 refine go ?_
 refine x_c func16 rfl rfl (moorStops_c _) ?_
 rintro _ w561 ⟨rfl, u562⟩ zu562
 refine go ?_
 refine f_1 results3 ?_
 exact ⟨rfl, u_d⟩

end Go.Proofs.YtclinbbghnebaaaGreat
