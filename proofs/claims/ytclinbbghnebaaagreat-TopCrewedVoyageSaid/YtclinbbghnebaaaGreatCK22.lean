/-
  Part 22 of the proof: contracts and plain laws. Conditions: none.
-/
import Derived.Test.YtclinbbghnebaaaGreatCK21
namespace Go.Proofs.YtclinbbghnebaaaGreat
open Go Go.RowKit Go.Proofs.Tryz
set_option maxRecDepth 10000
set_option maxHeartbeats 4000000 in
theorem TopCrewedVoyage_c (ys : List W3) (ay : Option Addr) (by_ oy cy : Nat) (x0 x1 x2 x3 x4 mb : Int) (w0 : World) (hy : Sl encW3 3 w0 ay by_ oy ys) (hyl : ys.length ≤ 9223372036854775807) (hys : ∀ w ∈ ys, okW3 w) (hx : (0 ≤ x0 ∧ x0 ≤ 255) ∧ (0 ≤ x1 ∧ x1 ≤ 255) ∧ (0 ≤ x2 ∧ x2 ≤ 255) ∧ (0 ≤ x3 ∧ x3 ≤ 255) ∧ (0 ≤ x4 ∧ x4 ≤ 255)) (hmb : 0 ≤ mb ∧ mb ≤ 255) :
    CallsV Tryz.prog 5 [.agg #[.int .u8 x0, .int .u8 x1, .int .u8 x2, .int .u8 x3, .int .u8 x4], .slice ay ys.length cy, .int .u8 mb] w0 (fun v w' => v = .bool true ∧ Ext w0 w') := by
 refine f_n func5 ?_
 refine go ?_
 refine x_b fun bk2 w3 ebk2 sbk2 B4 u5 => ?_
 refine go ?_
 refine t_splitp 46 rfl (fun g46 => ?_) (fun g46 => ?_)
 ·
  refine go ?_
  refine x_c func18 rfl rfl (moorRests_c _) ?_
  rintro _ w11 ⟨rfl, u12⟩ zu12
  refine go ?_
  refine x_c func16 rfl rfl (moorStops_c _) ?_
  rintro _ w16 ⟨rfl, u17⟩ zu17
  refine go ?_
  refine f_1 results5 ?_
  exact ⟨rfl, u_d⟩
 refine go ?_
 refine q_p (fun g50 => ?_) fun g50 => ?_
 ·
  refine go ?_
  refine x_c func18 rfl rfl (moorRests_c _) ?_
  rintro _ w22 ⟨rfl, u23⟩ zu23
  refine go ?_
  refine x_c func16 rfl rfl (moorStops_c _) ?_
  rintro _ w27 ⟨rfl, u28⟩ zu28
  refine go ?_
  refine f_1 results5 ?_
  exact ⟨rfl, u_d⟩
 refine go ?_
 refine t_indexArr (j := 0) (0) underlying22 sizeOf5 rfl rfl rfl rfl rfl (by decide) rfl ?_
 refine go ?_
 refine t_conv underlying5 underlying3 rfl rfl rfl (IntWalk.i64_in _ (by omega)) (t_rem rfl rfl rfl rfl (by omega) (by omega) ?_)
 refine go ?_
 refine t_indexArr (j := 1) (1) underlying22 sizeOf5 rfl rfl rfl rfl rfl (by decide) rfl ?_
 refine go ?_
 refine t_conv underlying5 underlying3 rfl rfl rfl (IntWalk.i64_in _ (by omega)) ?_
 refine go ?_
 refine t_indexArr (j := 2) (2) underlying22 sizeOf5 rfl rfl rfl rfl rfl (by decide) rfl ?_
 refine go ?_
 refine t_conv underlying5 underlying3 rfl rfl rfl (IntWalk.i64_in _ (by omega)) ?_
 refine go ?_
 refine t_indexArr (j := 3) (3) underlying22 sizeOf5 rfl rfl rfl rfl rfl (by decide) rfl ?_
 refine go ?_
 refine t_conv underlying5 underlying3 rfl rfl rfl (IntWalk.i64_in _ (by omega)) ?_
 refine go ?_
 refine x_n fun bk32 w33 ebk32 sbk32 B34 u35 => ?_
 refine x_s fun w37 sw37 B39 u38 => ?_
 refine go ?_
 refine t_indexArr (j := 4) (4) underlying22 sizeOf5 rfl rfl rfl rfl rfl (by decide) rfl ?_
 refine go ?_
 refine t_conv underlying5 underlying3 rfl rfl rfl (IntWalk.i64_in _ (by omega)) (t_rem rfl rfl rfl rfl (by omega) (by omega) (t_indexArr (j := 4) (4) underlying22 sizeOf5 rfl rfl rfl rfl rfl (by decide) rfl ?_))
 refine go ?_
 refine t_conv underlying5 underlying3 rfl rfl rfl (IntWalk.i64_in _ (by omega)) (t_rem rfl rfl rfl rfl (by omega) (by omega) (t_indexArr (j := 0) (0) underlying22 sizeOf5 rfl rfl rfl rfl rfl (by decide) rfl ?_))
 refine go ?_
 refine t_conv underlying5 underlying3 rfl rfl rfl (IntWalk.i64_in _ (by omega)) (t_rem rfl rfl rfl rfl (by omega) (by omega) ?_)
 refine go ?_
 refine x_n fun bk42 w43 ebk42 sbk42 B44 u45 => ?_
 refine x_s fun w47 sw47 B49 u48 => ?_
 refine go ?_
 refine x_n fun bk52 w53 ebk52 sbk52 B54 u55 => ?_
 refine x_s fun w57 sw57 B59 u58 => ?_
 refine go ?_
 refine t_quo rfl rfl rfl rfl (by omega) (by omega) ?_
 refine go ?_
 refine x_c func7 rfl rfl (moorOne_c ((x4 % 50) + ((((x4 % 50) + (x0 % 10)) - (x4 % 50)) / 2)) _) ?_
 rintro _ w63 ⟨rfl, u64⟩ zu64
 refine go ?_
 refine x_s fun w67 sw67 B69 u68 => ?_
 refine go ?_
 have B73 := ((((B49.kx u55).keep u58 (by omega)).kx u64).keep u68 (by omega))
 refine q_loop (γ := Nat × Option Addr × Nat × Nat × Option Addr × Nat × Nat) (fun gg => [(1, .slice ay ys.length cy), (2, .int .u8 mb), (7, .pointer (some ⟨bk32, 0, none⟩)), (8, .pointer (some ⟨bk42, 0, none⟩)), (9, .pointer (some ⟨bk52, 0, none⟩)), (10, .int .i64 (gg.1 : Int))]) (fun gg w => Upd (fun i => i = bk42 ∨ i = bk52 ∨ w67.heap.size ≤ i) w67 w ∧ Blk w bk42 34 [.int .i64 (x4 % 50), .int .i64 ((x4 % 50) + (x0 % 10)), .slice gg.2.1 ((rnL 0 ((ys.take gg.1).map stV)).length) gg.2.2.2.1, .int .i64 90, .int .i64 9] ∧ Blk w bk52 34 [.int .i64 ((x4 % 50) + ((((x4 % 50) + (x0 % 10)) - (x4 % 50)) / 2)), .int .i64 ((x4 % 50) + ((((x4 % 50) + (x0 % 10)) - (x4 % 50)) / 2)), .slice gg.2.2.2.2.1 ((rnL 0 ((ys.take gg.1).map stO)).length) gg.2.2.2.2.2.2, .int .i64 90, .int .i64 9] ∧ (gg.1 ≤ ys.length) ∧ (Acc encRun 6 31 w67.heap.size w gg.2.1 gg.2.2.1 gg.2.2.2.1 (rnL 0 ((ys.take gg.1).map stV))) ∧ (Acc encRun 6 31 w67.heap.size w gg.2.2.2.2.1 gg.2.2.2.2.2.1 gg.2.2.2.2.2.2 (rnL 0 ((ys.take gg.1).map stO))) ∧ (w67.heap.size ≤ gg.2.2.1 → gg.2.2.1 ≠ gg.2.2.2.2.2.1)) (fun gg => ys.length - gg.1) (0, none, 0, 0, none, 0, 0) ⟨rfl, rfl, rfl, rfl, rfl, rfl, trivial⟩ ⟨Upd.refl _ _, B73, B69, (Nat.zero_le _), (Acc.nil encRun 6 31 w67.heap.size _ (by omega) (by omega)), (Acc.nil encRun 6 31 w67.heap.size _ (by omega) (by omega)), (fun h => by have h9 : w67.heap.size ≤ 0 := h; omega)⟩ ?_
 intro gg w75 hW K74 hK74
 obtain ⟨n, av, gv, cv, ao, go_, co⟩ := gg
 change WC _ _ _ _ _ _ [(1, .slice ay ys.length cy), (2, .int .u8 mb), (7, .pointer (some ⟨bk32, 0, none⟩)), (8, .pointer (some ⟨bk42, 0, none⟩)), (9, .pointer (some ⟨bk52, 0, none⟩)), (10, .int .i64 (n : Int))] _
 change Upd (fun i => i = bk42 ∨ i = bk52 ∨ w67.heap.size ≤ i) w67 w75 ∧ Blk w75 bk42 34 [.int .i64 (x4 % 50), .int .i64 ((x4 % 50) + (x0 % 10)), .slice av ((rnL 0 ((ys.take n).map stV)).length) cv, .int .i64 90, .int .i64 9] ∧ Blk w75 bk52 34 [.int .i64 ((x4 % 50) + ((((x4 % 50) + (x0 % 10)) - (x4 % 50)) / 2)), .int .i64 ((x4 % 50) + ((((x4 % 50) + (x0 % 10)) - (x4 % 50)) / 2)), .slice ao ((rnL 0 ((ys.take n).map stO)).length) co, .int .i64 90, .int .i64 9] ∧ (n ≤ ys.length) ∧ (Acc encRun 6 31 w67.heap.size w75 av gv cv (rnL 0 ((ys.take n).map stV))) ∧ (Acc encRun 6 31 w67.heap.size w75 ao go_ co (rnL 0 ((ys.take n).map stO))) ∧ (w67.heap.size ≤ gv → gv ≠ go_) at hW
 obtain ⟨u76, I77, I78, I79, I80, I81, I82⟩ := hW
 have zu76 := u76.size
 have E83 := Sc.mk (((((((((((Upd.refl (fun _ => False) w0).nx u5).nx u35).next u38 (fun i hi h => by omega)).nx u45).next u48 (fun i hi h => by omega)).nx u55).next u58 (fun i hi h => by omega)).nx u64).next u68 (fun i hi h => by omega)).next u76 (fun i hi (h : i = bk42 ∨ i = bk52 ∨ w67.heap.size ≤ i) => show False by first | omega | assumption))
 have hn := I79; clear I79
 have hrv := I80; clear I80
 have hro := I81; clear I81
 have hne := I82; clear I82
 have lt_gv := hrv.lt
 have lt_go_ := hro.lt
 have hrvl := rn_len (f := stV) hn
 have hrol := rn_len (f := stO) hn
 refine go ?_
 refine q_p (fun g109 => ?_) fun g109 => ?_
 ·
  have hby9 := hy.lt (show 0 < ys.length by omega)
  have hw9 := hys _ (nth_mem (xs := ys) (i := n) (by omega))
  unfold okW3 at hw9
  have hst1 := rn_take (f := stV) (ys := ys) (n := n) (by omega)
  have hst2 := rn_take (f := stO) (ys := ys) (n := n) (by omega)
  refine go ?_
  refine g_i n (hy.keep E83.u (fun _ h => h)) (fun _ => ?_)
  refine t_indexArr (j := 0) (oy + n * 3 + 0) underlying23 sizeOf5 rfl rfl rfl rfl rfl (by decide) rfl ?_
  refine go ?_
  refine t_conv underlying5 underlying3 rfl rfl rfl (IntWalk.i64_in _ (by omega)) (t_rem rfl rfl rfl rfl (by omega) (by omega) ?_)
  refine go ?_
  refine g_i n (hy.keep E83.u (fun _ h => h)) (fun _ => ?_)
  refine t_indexArr (j := 1) (oy + n * 3 + 1) underlying23 sizeOf5 rfl rfl rfl rfl rfl (by decide) rfl ?_
  refine go ?_
  refine t_conv underlying5 underlying3 rfl rfl rfl (IntWalk.i64_in _ (by omega)) (t_rem rfl rfl rfl rfl (by omega) (by omega) ?_)
  refine go ?_
  refine c_drawnM follows (fun i => (i = gv ∧ w67.heap.size ≤ i) ∨ i = bk42) (.look 0 (.look 2 (.look 3 (.look 4 (.look 5 (.look 6 (.look 7 (.look 8 (.look 9 (.look 10 (.look 11 (.look 12 (.look 13 (.look 14 (.look 15 (.act 1 (.act 16 (.look 17 (.act 18 (.act 19 (.look 20 (.act 21 .done .stop)) .stop) .stop)) .stop) (.act 16 (.look 17 (.act 1 (.act 18 (.act 19 (.look 20 (.act 21 .done .stop)) .stop) .stop) (.act 18 (.act 1 (.act 19 (.look 20 (.act 21 .done .stop)) .stop) .stop) .stop))) .stop))))))))))))))))) (by kernel_rfl) fun w92 u93 => ?_
  have zu93 := u93.size
  have E94 := Sc.mk (E83.u.nx u93)
  refine go ?_
  refine y_i n (hy.keep E94.u (fun _ h => h)) (fun _ => ?_)
  refine y_indexArr (j := 2) (oy + n * 3 + 2) underlying23 sizeOf5 rfl rfl rfl rfl rfl (by decide) rfl ?_
  refine st1 ?_
  refine y_same 143 (v := .int .u8 ((nth ys n).c)) rfl rfl (y_conv underlying5 underlying3 rfl rfl rfl (IntWalk.i64_in _ (by omega)) (s_or ?_ ?_))
  ·
   refine go ?_
   refine x_c func7 rfl rfl (moorOne_c ((nth ys n).c) _) ?_
   rintro _ w97 ⟨rfl, u98⟩ zu98
   refine go ?_
   refine x_l fun bk101 w102 ebk101 sbk101 B103 u104 => ?_
   refine go ?_
   have D106 := (((hrv.keep u93 (fun _ h => h)).keep u98 (fun _ h => h)).keep u104 (fun _ h => h))
   refine t_append (z := .agg #[.int .i64 0, .int .i64 0, .int .i64 0, .int .i64 0, .int .i64 0, .int .i64 0]) (bytes := 48) (k := 6) (base := w67.heap.size) (rnS n (stV (nth ys n))) underlying32 (by kernel_rfl) rfl (by decide) (fun _ => rfl) (by intro x; simp [encRun, Value.oneCell']) rfl rfl rfl rfl D106 B103 (by omega) (by omega) (by decide) (fun ao107 gb108 cp109 w110 A111 u112 gegb108 lngb108 => ?_)
   have zu112 := u112.size
   have lt_gb108 := A111.lt
   refine go ?_
   refine x_s fun w114 sw114 B116 u115 => ?_
   refine go ?_
   refine c_drawnM follows (fun i => (i = go_ ∧ w67.heap.size ≤ i) ∨ i = bk52) (.look 0 (.look 2 (.look 3 (.look 4 (.look 5 (.look 6 (.look 7 (.look 8 (.look 9 (.look 10 (.look 11 (.look 12 (.look 14 (.look 15 (.look 16 (.look 17 (.look 18 (.look 19 (.act 1 (.act 13 (.act 20 (.look 21 (.act 22 (.act 23 (.look 24 (.act 25 .done .stop)) .stop) .stop)) .stop) .stop) (.act 13 (.act 1 (.act 20 (.look 21 (.act 22 (.act 23 (.look 24 (.act 25 .done .stop)) .stop) .stop)) .stop) (.act 20 (.look 21 (.act 1 (.act 22 (.act 23 (.look 24 (.act 25 .done .stop)) .stop) .stop) (.act 22 (.act 1 (.act 23 (.look 24 (.act 25 .done .stop)) .stop) .stop) .stop))) .stop)) .stop)))))))))))))))))))) (by kernel_rfl) fun w118 u119 => ?_
   have zu119 := u119.size
   refine go ?_
   refine y_quo rfl rfl rfl rfl (by omega) (by omega) ?_
   refine go ?_
   refine y_i n (hy.keep (((((E94.u.nx u98).nx u104).next u112 (fun i hi h => by omega)).next u115 (fun i hi h => by omega)).nx u119) (fun _ h => h)) (fun _ => ?_)
   refine y_indexArr (j := 2) (oy + n * 3 + 2) underlying23 sizeOf5 rfl rfl rfl rfl rfl (by decide) rfl ?_
   refine go ?_
   refine y_conv underlying5 underlying3 rfl rfl rfl (IntWalk.i64_in _ (by omega)) (s_or ?_ ?_)
   ·
    refine go ?_
    refine x_c func7 rfl rfl (moorOne_c ((30 + (((nth ys n).a) % 40)) + ((((30 + (((nth ys n).a) % 40)) + (((nth ys n).b) % 10)) - (30 + (((nth ys n).a) % 40))) / 2)) _) ?_
    rintro _ w123 ⟨rfl, u124⟩ zu124
    refine go ?_
    refine x_c func7 rfl rfl (moorOne_c ((nth ys n).c) _) ?_
    rintro _ w128 ⟨rfl, u129⟩ zu129
    refine go ?_
    refine x_l fun bk132 w133 ebk132 sbk132 B134 u135 => ?_
    refine go ?_
    have D137 := (((((((((hro.keep u93 (fun _ h => h)).keep u98 (fun _ h => h)).keep u104 (fun _ h => h)).keep u112 (fun hb => show ¬ ((go_ = gv ∧ w67.heap.size ≤ go_)) by first | omega | assumption)).keep u115 (fun hb => show ¬ (go_ = bk42) by first | omega | assumption)).keep u119 (fun _ h => h)).keep u124 (fun _ h => h)).keep u129 (fun _ h => h)).keep u135 (fun _ h => h))
    refine t_append (z := .agg #[.int .i64 0, .int .i64 0, .int .i64 0, .int .i64 0, .int .i64 0, .int .i64 0]) (bytes := 48) (k := 6) (base := w67.heap.size) (rnS n (stO (nth ys n))) underlying32 (by kernel_rfl) rfl (by decide) (fun _ => rfl) (by intro x; simp [encRun, Value.oneCell']) rfl rfl rfl rfl D137 B134 (by omega) (by omega) (by decide) (fun ao138 gb139 cp140 w141 A142 u143 gegb139 lngb139 => ?_)
    have zu143 := u143.size
    have lt_gb139 := A142.lt
    refine go ?_
    refine x_s fun w145 sw145 B147 u146 => ?_
    refine go ?_
    have B149 := ((((((B116.kx u119).kx u124).kx u129).kx u135).keep u143 (by omega)).keep u146 (by omega))
    have D150 := (((((((A111.keep u115 (fun hb => show ¬ (gb108 = bk42) by first | omega | assumption)).keep u119 (fun _ h => h)).keep u124 (fun _ h => h)).keep u129 (fun _ h => h)).keep u135 (fun _ h => h)).keep u143 (fun hb => show ¬ ((gb108 = go_ ∧ w67.heap.size ≤ gb108)) by first | omega | assumption)).keep u146 (fun hb => show ¬ (gb108 = bk52) by first | omega | assumption))
    have D151 := (A142.keep u146 (fun hb => show ¬ (gb139 = bk52) by first | omega | assumption))
    exact hK74 (n + 1, ao107, gb108, cp109, ao138, gb139, cp140) _ _ (by show ys.length - (n + 1) < ys.length - n; omega) ⟨rfl, rfl, rfl, rfl, rfl, rfl, trivial⟩ ⟨(((((((((((u76.nx u93).nx u98).nx u104).next u112 (fun i hi (h : (i = gv ∧ w67.heap.size ≤ i)) => show i = bk42 ∨ i = bk52 ∨ w67.heap.size ≤ i by first | omega | assumption)).next u115 (fun i hi (h : i = bk42) => show i = bk42 ∨ i = bk52 ∨ w67.heap.size ≤ i by first | omega | assumption)).nx u119).nx u124).nx u129).nx u135).next u143 (fun i hi (h : (i = go_ ∧ w67.heap.size ≤ i)) => show i = bk42 ∨ i = bk52 ∨ w67.heap.size ≤ i by first | omega | assumption)).next u146 (fun i hi (h : i = bk52) => show i = bk42 ∨ i = bk52 ∨ w67.heap.size ≤ i by first | omega | assumption)), (by rw [hst1]; exact B149), (by rw [hst2]; exact B147), (by omega), (by rw [hst1]; exact D150), (by rw [hst2]; exact D151), (fun h => by have h9 : w67.heap.size ≤ gb108 := h; show gb108 ≠ gb139; omega)⟩
   refine go ?_
   refine x_c func7 rfl rfl (moorOne_c ((30 + (((nth ys n).a) % 40)) + ((((30 + (((nth ys n).a) % 40)) + (((nth ys n).b) % 10)) - (30 + (((nth ys n).a) % 40))) / 2)) _) ?_
   rintro _ w153 ⟨rfl, u154⟩ zu154
   refine go ?_
   refine s_or ?_ ?_
   ·
    refine go ?_
    refine x_c func7 rfl rfl (moorOne_c ((nth ys n).c) _) ?_
    rintro _ w158 ⟨rfl, u159⟩ zu159
    refine go ?_
    refine x_l fun bk162 w163 ebk162 sbk162 B164 u165 => ?_
    refine go ?_
    have D167 := (((((((((hro.keep u93 (fun _ h => h)).keep u98 (fun _ h => h)).keep u104 (fun _ h => h)).keep u112 (fun hb => show ¬ ((go_ = gv ∧ w67.heap.size ≤ go_)) by first | omega | assumption)).keep u115 (fun hb => show ¬ (go_ = bk42) by first | omega | assumption)).keep u119 (fun _ h => h)).keep u154 (fun _ h => h)).keep u159 (fun _ h => h)).keep u165 (fun _ h => h))
    refine t_append (z := .agg #[.int .i64 0, .int .i64 0, .int .i64 0, .int .i64 0, .int .i64 0, .int .i64 0]) (bytes := 48) (k := 6) (base := w67.heap.size) (rnS n (stO (nth ys n))) underlying32 (by kernel_rfl) rfl (by decide) (fun _ => rfl) (by intro x; simp [encRun, Value.oneCell']) rfl rfl rfl rfl D167 B164 (by omega) (by omega) (by decide) (fun ao168 gb169 cp170 w171 A172 u173 gegb169 lngb169 => ?_)
    have zu173 := u173.size
    have lt_gb169 := A172.lt
    refine go ?_
    refine x_s fun w175 sw175 B177 u176 => ?_
    refine go ?_
    have B179 := ((((((B116.kx u119).kx u154).kx u159).kx u165).keep u173 (by omega)).keep u176 (by omega))
    have D180 := (((((((A111.keep u115 (fun hb => show ¬ (gb108 = bk42) by first | omega | assumption)).keep u119 (fun _ h => h)).keep u154 (fun _ h => h)).keep u159 (fun _ h => h)).keep u165 (fun _ h => h)).keep u173 (fun hb => show ¬ ((gb108 = go_ ∧ w67.heap.size ≤ gb108)) by first | omega | assumption)).keep u176 (fun hb => show ¬ (gb108 = bk52) by first | omega | assumption))
    have D181 := (A172.keep u176 (fun hb => show ¬ (gb169 = bk52) by first | omega | assumption))
    exact hK74 (n + 1, ao107, gb108, cp109, ao168, gb169, cp170) _ _ (by show ys.length - (n + 1) < ys.length - n; omega) ⟨rfl, rfl, rfl, rfl, rfl, rfl, trivial⟩ ⟨(((((((((((u76.nx u93).nx u98).nx u104).next u112 (fun i hi (h : (i = gv ∧ w67.heap.size ≤ i)) => show i = bk42 ∨ i = bk52 ∨ w67.heap.size ≤ i by first | omega | assumption)).next u115 (fun i hi (h : i = bk42) => show i = bk42 ∨ i = bk52 ∨ w67.heap.size ≤ i by first | omega | assumption)).nx u119).nx u154).nx u159).nx u165).next u173 (fun i hi (h : (i = go_ ∧ w67.heap.size ≤ i)) => show i = bk42 ∨ i = bk52 ∨ w67.heap.size ≤ i by first | omega | assumption)).next u176 (fun i hi (h : i = bk52) => show i = bk42 ∨ i = bk52 ∨ w67.heap.size ≤ i by first | omega | assumption)), (by rw [hst1]; exact B179), (by rw [hst2]; exact B177), (by omega), (by rw [hst1]; exact D180), (by rw [hst2]; exact D181), (fun h => by have h9 : w67.heap.size ≤ gb108 := h; show gb108 ≠ gb169; omega)⟩
   refine go ?_
   refine x_c func7 rfl rfl (moorOne_c ((nth ys n).c) _) ?_
   rintro _ w183 ⟨rfl, u184⟩ zu184
   refine go ?_
   refine s_or ?_ ?_
   ·
    refine go ?_
    refine x_l fun bk187 w188 ebk187 sbk187 B189 u190 => ?_
    refine go ?_
    have D192 := (((((((((hro.keep u93 (fun _ h => h)).keep u98 (fun _ h => h)).keep u104 (fun _ h => h)).keep u112 (fun hb => show ¬ ((go_ = gv ∧ w67.heap.size ≤ go_)) by first | omega | assumption)).keep u115 (fun hb => show ¬ (go_ = bk42) by first | omega | assumption)).keep u119 (fun _ h => h)).keep u154 (fun _ h => h)).keep u184 (fun _ h => h)).keep u190 (fun _ h => h))
    refine t_append (z := .agg #[.int .i64 0, .int .i64 0, .int .i64 0, .int .i64 0, .int .i64 0, .int .i64 0]) (bytes := 48) (k := 6) (base := w67.heap.size) (rnS n (stO (nth ys n))) underlying32 (by kernel_rfl) rfl (by decide) (fun _ => rfl) (by intro x; simp [encRun, Value.oneCell']) rfl rfl rfl rfl D192 B189 (by omega) (by omega) (by decide) (fun ao193 gb194 cp195 w196 A197 u198 gegb194 lngb194 => ?_)
    have zu198 := u198.size
    have lt_gb194 := A197.lt
    refine go ?_
    refine x_s fun w200 sw200 B202 u201 => ?_
    refine go ?_
    have B204 := ((((((B116.kx u119).kx u154).kx u184).kx u190).keep u198 (by omega)).keep u201 (by omega))
    have D205 := (((((((A111.keep u115 (fun hb => show ¬ (gb108 = bk42) by first | omega | assumption)).keep u119 (fun _ h => h)).keep u154 (fun _ h => h)).keep u184 (fun _ h => h)).keep u190 (fun _ h => h)).keep u198 (fun hb => show ¬ ((gb108 = go_ ∧ w67.heap.size ≤ gb108)) by first | omega | assumption)).keep u201 (fun hb => show ¬ (gb108 = bk52) by first | omega | assumption))
    have D206 := (A197.keep u201 (fun hb => show ¬ (gb194 = bk52) by first | omega | assumption))
    exact hK74 (n + 1, ao107, gb108, cp109, ao193, gb194, cp195) _ _ (by show ys.length - (n + 1) < ys.length - n; omega) ⟨rfl, rfl, rfl, rfl, rfl, rfl, trivial⟩ ⟨(((((((((((u76.nx u93).nx u98).nx u104).next u112 (fun i hi (h : (i = gv ∧ w67.heap.size ≤ i)) => show i = bk42 ∨ i = bk52 ∨ w67.heap.size ≤ i by first | omega | assumption)).next u115 (fun i hi (h : i = bk42) => show i = bk42 ∨ i = bk52 ∨ w67.heap.size ≤ i by first | omega | assumption)).nx u119).nx u154).nx u184).nx u190).next u198 (fun i hi (h : (i = go_ ∧ w67.heap.size ≤ i)) => show i = bk42 ∨ i = bk52 ∨ w67.heap.size ≤ i by first | omega | assumption)).next u201 (fun i hi (h : i = bk52) => show i = bk42 ∨ i = bk52 ∨ w67.heap.size ≤ i by first | omega | assumption)), (by rw [hst1]; exact B204), (by rw [hst2]; exact B202), (by omega), (by rw [hst1]; exact D205), (by rw [hst2]; exact D206), (fun h => by have h9 : w67.heap.size ≤ gb108 := h; show gb108 ≠ gb194; omega)⟩
   refine go ?_
   refine x_l fun bk207 w208 ebk207 sbk207 B209 u210 => ?_
   refine go ?_
   have D212 := (((((((((hro.keep u93 (fun _ h => h)).keep u98 (fun _ h => h)).keep u104 (fun _ h => h)).keep u112 (fun hb => show ¬ ((go_ = gv ∧ w67.heap.size ≤ go_)) by first | omega | assumption)).keep u115 (fun hb => show ¬ (go_ = bk42) by first | omega | assumption)).keep u119 (fun _ h => h)).keep u154 (fun _ h => h)).keep u184 (fun _ h => h)).keep u210 (fun _ h => h))
   refine t_append (z := .agg #[.int .i64 0, .int .i64 0, .int .i64 0, .int .i64 0, .int .i64 0, .int .i64 0]) (bytes := 48) (k := 6) (base := w67.heap.size) (rnS n (stO (nth ys n))) underlying32 (by kernel_rfl) rfl (by decide) (fun _ => rfl) (by intro x; simp [encRun, Value.oneCell']) rfl rfl rfl rfl D212 B209 (by omega) (by omega) (by decide) (fun ao213 gb214 cp215 w216 A217 u218 gegb214 lngb214 => ?_)
   have zu218 := u218.size
   have lt_gb214 := A217.lt
   refine go ?_
   refine x_s fun w220 sw220 B222 u221 => ?_
   refine go ?_
   have B224 := ((((((B116.kx u119).kx u154).kx u184).kx u210).keep u218 (by omega)).keep u221 (by omega))
   have D225 := (((((((A111.keep u115 (fun hb => show ¬ (gb108 = bk42) by first | omega | assumption)).keep u119 (fun _ h => h)).keep u154 (fun _ h => h)).keep u184 (fun _ h => h)).keep u210 (fun _ h => h)).keep u218 (fun hb => show ¬ ((gb108 = go_ ∧ w67.heap.size ≤ gb108)) by first | omega | assumption)).keep u221 (fun hb => show ¬ (gb108 = bk52) by first | omega | assumption))
   have D226 := (A217.keep u221 (fun hb => show ¬ (gb214 = bk52) by first | omega | assumption))
   exact hK74 (n + 1, ao107, gb108, cp109, ao213, gb214, cp215) _ _ (by show ys.length - (n + 1) < ys.length - n; omega) ⟨rfl, rfl, rfl, rfl, rfl, rfl, trivial⟩ ⟨(((((((((((u76.nx u93).nx u98).nx u104).next u112 (fun i hi (h : (i = gv ∧ w67.heap.size ≤ i)) => show i = bk42 ∨ i = bk52 ∨ w67.heap.size ≤ i by first | omega | assumption)).next u115 (fun i hi (h : i = bk42) => show i = bk42 ∨ i = bk52 ∨ w67.heap.size ≤ i by first | omega | assumption)).nx u119).nx u154).nx u184).nx u210).next u218 (fun i hi (h : (i = go_ ∧ w67.heap.size ≤ i)) => show i = bk42 ∨ i = bk52 ∨ w67.heap.size ≤ i by first | omega | assumption)).next u221 (fun i hi (h : i = bk52) => show i = bk42 ∨ i = bk52 ∨ w67.heap.size ≤ i by first | omega | assumption)), (by rw [hst1]; exact B224), (by rw [hst2]; exact B222), (by omega), (by rw [hst1]; exact D225), (by rw [hst2]; exact D226), (fun h => by have h9 : w67.heap.size ≤ gb108 := h; show gb108 ≠ gb214; omega)⟩
  refine go ?_
  refine x_c func7 rfl rfl (moorOne_c ((nth ys n).c) _) ?_
  rintro _ w228 ⟨rfl, u229⟩ zu229
  have E231 := Sc.mk (E94.u.nx u229)
  refine go ?_
  refine s_or ?_ ?_
  ·
   refine go ?_
   refine x_l fun bk232 w233 ebk232 sbk232 B234 u235 => ?_
   refine go ?_
   have D237 := (((hrv.keep u93 (fun _ h => h)).keep u229 (fun _ h => h)).keep u235 (fun _ h => h))
   refine t_append (z := .agg #[.int .i64 0, .int .i64 0, .int .i64 0, .int .i64 0, .int .i64 0, .int .i64 0]) (bytes := 48) (k := 6) (base := w67.heap.size) (rnS n (stV (nth ys n))) underlying32 (by kernel_rfl) rfl (by decide) (fun _ => rfl) (by intro x; simp [encRun, Value.oneCell']) rfl rfl rfl rfl D237 B234 (by omega) (by omega) (by decide) (fun ao238 gb239 cp240 w241 A242 u243 gegb239 lngb239 => ?_)
   have zu243 := u243.size
   have lt_gb239 := A242.lt
   refine go ?_
   refine x_s fun w245 sw245 B247 u246 => ?_
   refine go ?_
   refine c_drawnM follows (fun i => (i = go_ ∧ w67.heap.size ≤ i) ∨ i = bk52) (.look 0 (.look 2 (.look 3 (.look 4 (.look 5 (.look 6 (.look 7 (.look 8 (.look 9 (.look 10 (.look 11 (.look 12 (.look 14 (.look 15 (.look 16 (.look 17 (.look 18 (.look 19 (.act 1 (.act 13 (.act 20 (.look 21 (.act 22 (.act 23 (.look 24 (.act 25 .done .stop)) .stop) .stop)) .stop) .stop) (.act 13 (.act 1 (.act 20 (.look 21 (.act 22 (.act 23 (.look 24 (.act 25 .done .stop)) .stop) .stop)) .stop) (.act 20 (.look 21 (.act 1 (.act 22 (.act 23 (.look 24 (.act 25 .done .stop)) .stop) .stop) (.act 22 (.act 1 (.act 23 (.look 24 (.act 25 .done .stop)) .stop) .stop) .stop))) .stop)) .stop)))))))))))))))))))) (by kernel_rfl) fun w249 u250 => ?_
   have zu250 := u250.size
   refine go ?_
   refine y_quo rfl rfl rfl rfl (by omega) (by omega) ?_
   refine go ?_
   refine y_i n (hy.keep ((((E231.u.nx u235).next u243 (fun i hi h => by omega)).next u246 (fun i hi h => by omega)).nx u250) (fun _ h => h)) (fun _ => ?_)
   refine y_indexArr (j := 2) (oy + n * 3 + 2) underlying23 sizeOf5 rfl rfl rfl rfl rfl (by decide) rfl ?_
   refine go ?_
   refine y_conv underlying5 underlying3 rfl rfl rfl (IntWalk.i64_in _ (by omega)) (s_or ?_ ?_)
   ·
    refine go ?_
    refine x_c func7 rfl rfl (moorOne_c ((30 + (((nth ys n).a) % 40)) + ((((30 + (((nth ys n).a) % 40)) + (((nth ys n).b) % 10)) - (30 + (((nth ys n).a) % 40))) / 2)) _) ?_
    rintro _ w254 ⟨rfl, u255⟩ zu255
    refine go ?_
    refine x_c func7 rfl rfl (moorOne_c ((nth ys n).c) _) ?_
    rintro _ w259 ⟨rfl, u260⟩ zu260
    refine go ?_
    refine x_l fun bk263 w264 ebk263 sbk263 B265 u266 => ?_
    refine go ?_
    have D268 := (((((((((hro.keep u93 (fun _ h => h)).keep u229 (fun _ h => h)).keep u235 (fun _ h => h)).keep u243 (fun hb => show ¬ ((go_ = gv ∧ w67.heap.size ≤ go_)) by first | omega | assumption)).keep u246 (fun hb => show ¬ (go_ = bk42) by first | omega | assumption)).keep u250 (fun _ h => h)).keep u255 (fun _ h => h)).keep u260 (fun _ h => h)).keep u266 (fun _ h => h))
    refine t_append (z := .agg #[.int .i64 0, .int .i64 0, .int .i64 0, .int .i64 0, .int .i64 0, .int .i64 0]) (bytes := 48) (k := 6) (base := w67.heap.size) (rnS n (stO (nth ys n))) underlying32 (by kernel_rfl) rfl (by decide) (fun _ => rfl) (by intro x; simp [encRun, Value.oneCell']) rfl rfl rfl rfl D268 B265 (by omega) (by omega) (by decide) (fun ao269 gb270 cp271 w272 A273 u274 gegb270 lngb270 => ?_)
    have zu274 := u274.size
    have lt_gb270 := A273.lt
    refine go ?_
    refine x_s fun w276 sw276 B278 u277 => ?_
    refine go ?_
    have B280 := ((((((B247.kx u250).kx u255).kx u260).kx u266).keep u274 (by omega)).keep u277 (by omega))
    have D281 := (((((((A242.keep u246 (fun hb => show ¬ (gb239 = bk42) by first | omega | assumption)).keep u250 (fun _ h => h)).keep u255 (fun _ h => h)).keep u260 (fun _ h => h)).keep u266 (fun _ h => h)).keep u274 (fun hb => show ¬ ((gb239 = go_ ∧ w67.heap.size ≤ gb239)) by first | omega | assumption)).keep u277 (fun hb => show ¬ (gb239 = bk52) by first | omega | assumption))
    have D282 := (A273.keep u277 (fun hb => show ¬ (gb270 = bk52) by first | omega | assumption))
    exact hK74 (n + 1, ao238, gb239, cp240, ao269, gb270, cp271) _ _ (by show ys.length - (n + 1) < ys.length - n; omega) ⟨rfl, rfl, rfl, rfl, rfl, rfl, trivial⟩ ⟨(((((((((((u76.nx u93).nx u229).nx u235).next u243 (fun i hi (h : (i = gv ∧ w67.heap.size ≤ i)) => show i = bk42 ∨ i = bk52 ∨ w67.heap.size ≤ i by first | omega | assumption)).next u246 (fun i hi (h : i = bk42) => show i = bk42 ∨ i = bk52 ∨ w67.heap.size ≤ i by first | omega | assumption)).nx u250).nx u255).nx u260).nx u266).next u274 (fun i hi (h : (i = go_ ∧ w67.heap.size ≤ i)) => show i = bk42 ∨ i = bk52 ∨ w67.heap.size ≤ i by first | omega | assumption)).next u277 (fun i hi (h : i = bk52) => show i = bk42 ∨ i = bk52 ∨ w67.heap.size ≤ i by first | omega | assumption)), (by rw [hst1]; exact B280), (by rw [hst2]; exact B278), (by omega), (by rw [hst1]; exact D281), (by rw [hst2]; exact D282), (fun h => by have h9 : w67.heap.size ≤ gb239 := h; show gb239 ≠ gb270; omega)⟩
   refine go ?_
   refine x_c func7 rfl rfl (moorOne_c ((30 + (((nth ys n).a) % 40)) + ((((30 + (((nth ys n).a) % 40)) + (((nth ys n).b) % 10)) - (30 + (((nth ys n).a) % 40))) / 2)) _) ?_
   rintro _ w284 ⟨rfl, u285⟩ zu285
   refine go ?_
   refine s_or ?_ ?_
   ·
    refine go ?_
    refine x_c func7 rfl rfl (moorOne_c ((nth ys n).c) _) ?_
    rintro _ w289 ⟨rfl, u290⟩ zu290
    refine go ?_
    refine x_l fun bk293 w294 ebk293 sbk293 B295 u296 => ?_
    refine go ?_
    have D298 := (((((((((hro.keep u93 (fun _ h => h)).keep u229 (fun _ h => h)).keep u235 (fun _ h => h)).keep u243 (fun hb => show ¬ ((go_ = gv ∧ w67.heap.size ≤ go_)) by first | omega | assumption)).keep u246 (fun hb => show ¬ (go_ = bk42) by first | omega | assumption)).keep u250 (fun _ h => h)).keep u285 (fun _ h => h)).keep u290 (fun _ h => h)).keep u296 (fun _ h => h))
    refine t_append (z := .agg #[.int .i64 0, .int .i64 0, .int .i64 0, .int .i64 0, .int .i64 0, .int .i64 0]) (bytes := 48) (k := 6) (base := w67.heap.size) (rnS n (stO (nth ys n))) underlying32 (by kernel_rfl) rfl (by decide) (fun _ => rfl) (by intro x; simp [encRun, Value.oneCell']) rfl rfl rfl rfl D298 B295 (by omega) (by omega) (by decide) (fun ao299 gb300 cp301 w302 A303 u304 gegb300 lngb300 => ?_)
    have zu304 := u304.size
    have lt_gb300 := A303.lt
    refine go ?_
    refine x_s fun w306 sw306 B308 u307 => ?_
    refine go ?_
    have B310 := ((((((B247.kx u250).kx u285).kx u290).kx u296).keep u304 (by omega)).keep u307 (by omega))
    have D311 := (((((((A242.keep u246 (fun hb => show ¬ (gb239 = bk42) by first | omega | assumption)).keep u250 (fun _ h => h)).keep u285 (fun _ h => h)).keep u290 (fun _ h => h)).keep u296 (fun _ h => h)).keep u304 (fun hb => show ¬ ((gb239 = go_ ∧ w67.heap.size ≤ gb239)) by first | omega | assumption)).keep u307 (fun hb => show ¬ (gb239 = bk52) by first | omega | assumption))
    have D312 := (A303.keep u307 (fun hb => show ¬ (gb300 = bk52) by first | omega | assumption))
    exact hK74 (n + 1, ao238, gb239, cp240, ao299, gb300, cp301) _ _ (by show ys.length - (n + 1) < ys.length - n; omega) ⟨rfl, rfl, rfl, rfl, rfl, rfl, trivial⟩ ⟨(((((((((((u76.nx u93).nx u229).nx u235).next u243 (fun i hi (h : (i = gv ∧ w67.heap.size ≤ i)) => show i = bk42 ∨ i = bk52 ∨ w67.heap.size ≤ i by first | omega | assumption)).next u246 (fun i hi (h : i = bk42) => show i = bk42 ∨ i = bk52 ∨ w67.heap.size ≤ i by first | omega | assumption)).nx u250).nx u285).nx u290).nx u296).next u304 (fun i hi (h : (i = go_ ∧ w67.heap.size ≤ i)) => show i = bk42 ∨ i = bk52 ∨ w67.heap.size ≤ i by first | omega | assumption)).next u307 (fun i hi (h : i = bk52) => show i = bk42 ∨ i = bk52 ∨ w67.heap.size ≤ i by first | omega | assumption)), (by rw [hst1]; exact B310), (by rw [hst2]; exact B308), (by omega), (by rw [hst1]; exact D311), (by rw [hst2]; exact D312), (fun h => by have h9 : w67.heap.size ≤ gb239 := h; show gb239 ≠ gb300; omega)⟩
   refine go ?_
   refine x_c func7 rfl rfl (moorOne_c ((nth ys n).c) _) ?_
   rintro _ w314 ⟨rfl, u315⟩ zu315
   refine go ?_
   refine s_or ?_ ?_
   ·
    refine go ?_
    refine x_l fun bk318 w319 ebk318 sbk318 B320 u321 => ?_
    refine go ?_
    have D323 := (((((((((hro.keep u93 (fun _ h => h)).keep u229 (fun _ h => h)).keep u235 (fun _ h => h)).keep u243 (fun hb => show ¬ ((go_ = gv ∧ w67.heap.size ≤ go_)) by first | omega | assumption)).keep u246 (fun hb => show ¬ (go_ = bk42) by first | omega | assumption)).keep u250 (fun _ h => h)).keep u285 (fun _ h => h)).keep u315 (fun _ h => h)).keep u321 (fun _ h => h))
    refine t_append (z := .agg #[.int .i64 0, .int .i64 0, .int .i64 0, .int .i64 0, .int .i64 0, .int .i64 0]) (bytes := 48) (k := 6) (base := w67.heap.size) (rnS n (stO (nth ys n))) underlying32 (by kernel_rfl) rfl (by decide) (fun _ => rfl) (by intro x; simp [encRun, Value.oneCell']) rfl rfl rfl rfl D323 B320 (by omega) (by omega) (by decide) (fun ao324 gb325 cp326 w327 A328 u329 gegb325 lngb325 => ?_)
    have zu329 := u329.size
    have lt_gb325 := A328.lt
    refine go ?_
    refine x_s fun w331 sw331 B333 u332 => ?_
    refine go ?_
    have B335 := ((((((B247.kx u250).kx u285).kx u315).kx u321).keep u329 (by omega)).keep u332 (by omega))
    have D336 := (((((((A242.keep u246 (fun hb => show ¬ (gb239 = bk42) by first | omega | assumption)).keep u250 (fun _ h => h)).keep u285 (fun _ h => h)).keep u315 (fun _ h => h)).keep u321 (fun _ h => h)).keep u329 (fun hb => show ¬ ((gb239 = go_ ∧ w67.heap.size ≤ gb239)) by first | omega | assumption)).keep u332 (fun hb => show ¬ (gb239 = bk52) by first | omega | assumption))
    have D337 := (A328.keep u332 (fun hb => show ¬ (gb325 = bk52) by first | omega | assumption))
    exact hK74 (n + 1, ao238, gb239, cp240, ao324, gb325, cp326) _ _ (by show ys.length - (n + 1) < ys.length - n; omega) ⟨rfl, rfl, rfl, rfl, rfl, rfl, trivial⟩ ⟨(((((((((((u76.nx u93).nx u229).nx u235).next u243 (fun i hi (h : (i = gv ∧ w67.heap.size ≤ i)) => show i = bk42 ∨ i = bk52 ∨ w67.heap.size ≤ i by first | omega | assumption)).next u246 (fun i hi (h : i = bk42) => show i = bk42 ∨ i = bk52 ∨ w67.heap.size ≤ i by first | omega | assumption)).nx u250).nx u285).nx u315).nx u321).next u329 (fun i hi (h : (i = go_ ∧ w67.heap.size ≤ i)) => show i = bk42 ∨ i = bk52 ∨ w67.heap.size ≤ i by first | omega | assumption)).next u332 (fun i hi (h : i = bk52) => show i = bk42 ∨ i = bk52 ∨ w67.heap.size ≤ i by first | omega | assumption)), (by rw [hst1]; exact B335), (by rw [hst2]; exact B333), (by omega), (by rw [hst1]; exact D336), (by rw [hst2]; exact D337), (fun h => by have h9 : w67.heap.size ≤ gb239 := h; show gb239 ≠ gb325; omega)⟩
   refine go ?_
   refine x_l fun bk338 w339 ebk338 sbk338 B340 u341 => ?_
   refine go ?_
   have D343 := (((((((((hro.keep u93 (fun _ h => h)).keep u229 (fun _ h => h)).keep u235 (fun _ h => h)).keep u243 (fun hb => show ¬ ((go_ = gv ∧ w67.heap.size ≤ go_)) by first | omega | assumption)).keep u246 (fun hb => show ¬ (go_ = bk42) by first | omega | assumption)).keep u250 (fun _ h => h)).keep u285 (fun _ h => h)).keep u315 (fun _ h => h)).keep u341 (fun _ h => h))
   refine t_append (z := .agg #[.int .i64 0, .int .i64 0, .int .i64 0, .int .i64 0, .int .i64 0, .int .i64 0]) (bytes := 48) (k := 6) (base := w67.heap.size) (rnS n (stO (nth ys n))) underlying32 (by kernel_rfl) rfl (by decide) (fun _ => rfl) (by intro x; simp [encRun, Value.oneCell']) rfl rfl rfl rfl D343 B340 (by omega) (by omega) (by decide) (fun ao344 gb345 cp346 w347 A348 u349 gegb345 lngb345 => ?_)
   have zu349 := u349.size
   have lt_gb345 := A348.lt
   refine go ?_
   refine x_s fun w351 sw351 B353 u352 => ?_
   refine go ?_
   have B355 := ((((((B247.kx u250).kx u285).kx u315).kx u341).keep u349 (by omega)).keep u352 (by omega))
   have D356 := (((((((A242.keep u246 (fun hb => show ¬ (gb239 = bk42) by first | omega | assumption)).keep u250 (fun _ h => h)).keep u285 (fun _ h => h)).keep u315 (fun _ h => h)).keep u341 (fun _ h => h)).keep u349 (fun hb => show ¬ ((gb239 = go_ ∧ w67.heap.size ≤ gb239)) by first | omega | assumption)).keep u352 (fun hb => show ¬ (gb239 = bk52) by first | omega | assumption))
   have D357 := (A348.keep u352 (fun hb => show ¬ (gb345 = bk52) by first | omega | assumption))
   exact hK74 (n + 1, ao238, gb239, cp240, ao344, gb345, cp346) _ _ (by show ys.length - (n + 1) < ys.length - n; omega) ⟨rfl, rfl, rfl, rfl, rfl, rfl, trivial⟩ ⟨(((((((((((u76.nx u93).nx u229).nx u235).next u243 (fun i hi (h : (i = gv ∧ w67.heap.size ≤ i)) => show i = bk42 ∨ i = bk52 ∨ w67.heap.size ≤ i by first | omega | assumption)).next u246 (fun i hi (h : i = bk42) => show i = bk42 ∨ i = bk52 ∨ w67.heap.size ≤ i by first | omega | assumption)).nx u250).nx u285).nx u315).nx u341).next u349 (fun i hi (h : (i = go_ ∧ w67.heap.size ≤ i)) => show i = bk42 ∨ i = bk52 ∨ w67.heap.size ≤ i by first | omega | assumption)).next u352 (fun i hi (h : i = bk52) => show i = bk42 ∨ i = bk52 ∨ w67.heap.size ≤ i by first | omega | assumption)), (by rw [hst1]; exact B355), (by rw [hst2]; exact B353), (by omega), (by rw [hst1]; exact D356), (by rw [hst2]; exact D357), (fun h => by have h9 : w67.heap.size ≤ gb239 := h; show gb239 ≠ gb345; omega)⟩
  refine go ?_
  refine x_l fun bk358 w359 ebk358 sbk358 B360 u361 => ?_
  refine go ?_
  have D363 := (((hrv.keep u93 (fun _ h => h)).keep u229 (fun _ h => h)).keep u361 (fun _ h => h))
  refine t_append (z := .agg #[.int .i64 0, .int .i64 0, .int .i64 0, .int .i64 0, .int .i64 0, .int .i64 0]) (bytes := 48) (k := 6) (base := w67.heap.size) (rnS n (stV (nth ys n))) underlying32 (by kernel_rfl) rfl (by decide) (fun _ => rfl) (by intro x; simp [encRun, Value.oneCell']) rfl rfl rfl rfl D363 B360 (by omega) (by omega) (by decide) (fun ao364 gb365 cp366 w367 A368 u369 gegb365 lngb365 => ?_)
  have zu369 := u369.size
  have lt_gb365 := A368.lt
  refine go ?_
  refine x_s fun w371 sw371 B373 u372 => ?_
  refine go ?_
  refine c_drawnM follows (fun i => (i = go_ ∧ w67.heap.size ≤ i) ∨ i = bk52) (.look 0 (.look 2 (.look 3 (.look 4 (.look 5 (.look 6 (.look 7 (.look 8 (.look 9 (.look 10 (.look 11 (.look 12 (.look 14 (.look 15 (.look 16 (.look 17 (.look 18 (.look 19 (.act 1 (.act 13 (.act 20 (.look 21 (.act 22 (.act 23 (.look 24 (.act 25 .done .stop)) .stop) .stop)) .stop) .stop) (.act 13 (.act 1 (.act 20 (.look 21 (.act 22 (.act 23 (.look 24 (.act 25 .done .stop)) .stop) .stop)) .stop) (.act 20 (.look 21 (.act 1 (.act 22 (.act 23 (.look 24 (.act 25 .done .stop)) .stop) .stop) (.act 22 (.act 1 (.act 23 (.look 24 (.act 25 .done .stop)) .stop) .stop) .stop))) .stop)) .stop)))))))))))))))))))) (by kernel_rfl) fun w375 u376 => ?_
  have zu376 := u376.size
  refine go ?_
  refine y_quo rfl rfl rfl rfl (by omega) (by omega) ?_
  refine go ?_
  refine y_i n (hy.keep ((((E231.u.nx u361).next u369 (fun i hi h => by omega)).next u372 (fun i hi h => by omega)).nx u376) (fun _ h => h)) (fun _ => ?_)
  refine y_indexArr (j := 2) (oy + n * 3 + 2) underlying23 sizeOf5 rfl rfl rfl rfl rfl (by decide) rfl ?_
  refine go ?_
  refine y_conv underlying5 underlying3 rfl rfl rfl (IntWalk.i64_in _ (by omega)) (s_or ?_ ?_)
  ·
   refine go ?_
   refine x_c func7 rfl rfl (moorOne_c ((30 + (((nth ys n).a) % 40)) + ((((30 + (((nth ys n).a) % 40)) + (((nth ys n).b) % 10)) - (30 + (((nth ys n).a) % 40))) / 2)) _) ?_
   rintro _ w380 ⟨rfl, u381⟩ zu381
   refine go ?_
   refine x_c func7 rfl rfl (moorOne_c ((nth ys n).c) _) ?_
   rintro _ w385 ⟨rfl, u386⟩ zu386
   refine go ?_
   refine x_l fun bk389 w390 ebk389 sbk389 B391 u392 => ?_
   refine go ?_
   have D394 := (((((((((hro.keep u93 (fun _ h => h)).keep u229 (fun _ h => h)).keep u361 (fun _ h => h)).keep u369 (fun hb => show ¬ ((go_ = gv ∧ w67.heap.size ≤ go_)) by first | omega | assumption)).keep u372 (fun hb => show ¬ (go_ = bk42) by first | omega | assumption)).keep u376 (fun _ h => h)).keep u381 (fun _ h => h)).keep u386 (fun _ h => h)).keep u392 (fun _ h => h))
   refine t_append (z := .agg #[.int .i64 0, .int .i64 0, .int .i64 0, .int .i64 0, .int .i64 0, .int .i64 0]) (bytes := 48) (k := 6) (base := w67.heap.size) (rnS n (stO (nth ys n))) underlying32 (by kernel_rfl) rfl (by decide) (fun _ => rfl) (by intro x; simp [encRun, Value.oneCell']) rfl rfl rfl rfl D394 B391 (by omega) (by omega) (by decide) (fun ao395 gb396 cp397 w398 A399 u400 gegb396 lngb396 => ?_)
   have zu400 := u400.size
   have lt_gb396 := A399.lt
   refine go ?_
   refine x_s fun w402 sw402 B404 u403 => ?_
   refine go ?_
   have B406 := ((((((B373.kx u376).kx u381).kx u386).kx u392).keep u400 (by omega)).keep u403 (by omega))
   have D407 := (((((((A368.keep u372 (fun hb => show ¬ (gb365 = bk42) by first | omega | assumption)).keep u376 (fun _ h => h)).keep u381 (fun _ h => h)).keep u386 (fun _ h => h)).keep u392 (fun _ h => h)).keep u400 (fun hb => show ¬ ((gb365 = go_ ∧ w67.heap.size ≤ gb365)) by first | omega | assumption)).keep u403 (fun hb => show ¬ (gb365 = bk52) by first | omega | assumption))
   have D408 := (A399.keep u403 (fun hb => show ¬ (gb396 = bk52) by first | omega | assumption))
   exact hK74 (n + 1, ao364, gb365, cp366, ao395, gb396, cp397) _ _ (by show ys.length - (n + 1) < ys.length - n; omega) ⟨rfl, rfl, rfl, rfl, rfl, rfl, trivial⟩ ⟨(((((((((((u76.nx u93).nx u229).nx u361).next u369 (fun i hi (h : (i = gv ∧ w67.heap.size ≤ i)) => show i = bk42 ∨ i = bk52 ∨ w67.heap.size ≤ i by first | omega | assumption)).next u372 (fun i hi (h : i = bk42) => show i = bk42 ∨ i = bk52 ∨ w67.heap.size ≤ i by first | omega | assumption)).nx u376).nx u381).nx u386).nx u392).next u400 (fun i hi (h : (i = go_ ∧ w67.heap.size ≤ i)) => show i = bk42 ∨ i = bk52 ∨ w67.heap.size ≤ i by first | omega | assumption)).next u403 (fun i hi (h : i = bk52) => show i = bk42 ∨ i = bk52 ∨ w67.heap.size ≤ i by first | omega | assumption)), (by rw [hst1]; exact B406), (by rw [hst2]; exact B404), (by omega), (by rw [hst1]; exact D407), (by rw [hst2]; exact D408), (fun h => by have h9 : w67.heap.size ≤ gb365 := h; show gb365 ≠ gb396; omega)⟩
  refine go ?_
  refine x_c func7 rfl rfl (moorOne_c ((30 + (((nth ys n).a) % 40)) + ((((30 + (((nth ys n).a) % 40)) + (((nth ys n).b) % 10)) - (30 + (((nth ys n).a) % 40))) / 2)) _) ?_
  rintro _ w410 ⟨rfl, u411⟩ zu411
  refine go ?_
  refine s_or ?_ ?_
  ·
   refine go ?_
   refine x_c func7 rfl rfl (moorOne_c ((nth ys n).c) _) ?_
   rintro _ w415 ⟨rfl, u416⟩ zu416
   refine go ?_
   refine x_l fun bk419 w420 ebk419 sbk419 B421 u422 => ?_
   refine go ?_
   have D424 := (((((((((hro.keep u93 (fun _ h => h)).keep u229 (fun _ h => h)).keep u361 (fun _ h => h)).keep u369 (fun hb => show ¬ ((go_ = gv ∧ w67.heap.size ≤ go_)) by first | omega | assumption)).keep u372 (fun hb => show ¬ (go_ = bk42) by first | omega | assumption)).keep u376 (fun _ h => h)).keep u411 (fun _ h => h)).keep u416 (fun _ h => h)).keep u422 (fun _ h => h))
   refine t_append (z := .agg #[.int .i64 0, .int .i64 0, .int .i64 0, .int .i64 0, .int .i64 0, .int .i64 0]) (bytes := 48) (k := 6) (base := w67.heap.size) (rnS n (stO (nth ys n))) underlying32 (by kernel_rfl) rfl (by decide) (fun _ => rfl) (by intro x; simp [encRun, Value.oneCell']) rfl rfl rfl rfl D424 B421 (by omega) (by omega) (by decide) (fun ao425 gb426 cp427 w428 A429 u430 gegb426 lngb426 => ?_)
   have zu430 := u430.size
   have lt_gb426 := A429.lt
   refine go ?_
   refine x_s fun w432 sw432 B434 u433 => ?_
   refine go ?_
   have B436 := ((((((B373.kx u376).kx u411).kx u416).kx u422).keep u430 (by omega)).keep u433 (by omega))
   have D437 := (((((((A368.keep u372 (fun hb => show ¬ (gb365 = bk42) by first | omega | assumption)).keep u376 (fun _ h => h)).keep u411 (fun _ h => h)).keep u416 (fun _ h => h)).keep u422 (fun _ h => h)).keep u430 (fun hb => show ¬ ((gb365 = go_ ∧ w67.heap.size ≤ gb365)) by first | omega | assumption)).keep u433 (fun hb => show ¬ (gb365 = bk52) by first | omega | assumption))
   have D438 := (A429.keep u433 (fun hb => show ¬ (gb426 = bk52) by first | omega | assumption))
   exact hK74 (n + 1, ao364, gb365, cp366, ao425, gb426, cp427) _ _ (by show ys.length - (n + 1) < ys.length - n; omega) ⟨rfl, rfl, rfl, rfl, rfl, rfl, trivial⟩ ⟨(((((((((((u76.nx u93).nx u229).nx u361).next u369 (fun i hi (h : (i = gv ∧ w67.heap.size ≤ i)) => show i = bk42 ∨ i = bk52 ∨ w67.heap.size ≤ i by first | omega | assumption)).next u372 (fun i hi (h : i = bk42) => show i = bk42 ∨ i = bk52 ∨ w67.heap.size ≤ i by first | omega | assumption)).nx u376).nx u411).nx u416).nx u422).next u430 (fun i hi (h : (i = go_ ∧ w67.heap.size ≤ i)) => show i = bk42 ∨ i = bk52 ∨ w67.heap.size ≤ i by first | omega | assumption)).next u433 (fun i hi (h : i = bk52) => show i = bk42 ∨ i = bk52 ∨ w67.heap.size ≤ i by first | omega | assumption)), (by rw [hst1]; exact B436), (by rw [hst2]; exact B434), (by omega), (by rw [hst1]; exact D437), (by rw [hst2]; exact D438), (fun h => by have h9 : w67.heap.size ≤ gb365 := h; show gb365 ≠ gb426; omega)⟩
  refine go ?_
  refine x_c func7 rfl rfl (moorOne_c ((nth ys n).c) _) ?_
  rintro _ w440 ⟨rfl, u441⟩ zu441
  refine go ?_
  refine s_or ?_ ?_
  ·
   refine go ?_
   refine x_l fun bk444 w445 ebk444 sbk444 B446 u447 => ?_
   refine go ?_
   have D449 := (((((((((hro.keep u93 (fun _ h => h)).keep u229 (fun _ h => h)).keep u361 (fun _ h => h)).keep u369 (fun hb => show ¬ ((go_ = gv ∧ w67.heap.size ≤ go_)) by first | omega | assumption)).keep u372 (fun hb => show ¬ (go_ = bk42) by first | omega | assumption)).keep u376 (fun _ h => h)).keep u411 (fun _ h => h)).keep u441 (fun _ h => h)).keep u447 (fun _ h => h))
   refine t_append (z := .agg #[.int .i64 0, .int .i64 0, .int .i64 0, .int .i64 0, .int .i64 0, .int .i64 0]) (bytes := 48) (k := 6) (base := w67.heap.size) (rnS n (stO (nth ys n))) underlying32 (by kernel_rfl) rfl (by decide) (fun _ => rfl) (by intro x; simp [encRun, Value.oneCell']) rfl rfl rfl rfl D449 B446 (by omega) (by omega) (by decide) (fun ao450 gb451 cp452 w453 A454 u455 gegb451 lngb451 => ?_)
   have zu455 := u455.size
   have lt_gb451 := A454.lt
   refine go ?_
   refine x_s fun w457 sw457 B459 u458 => ?_
   refine go ?_
   have B461 := ((((((B373.kx u376).kx u411).kx u441).kx u447).keep u455 (by omega)).keep u458 (by omega))
   have D462 := (((((((A368.keep u372 (fun hb => show ¬ (gb365 = bk42) by first | omega | assumption)).keep u376 (fun _ h => h)).keep u411 (fun _ h => h)).keep u441 (fun _ h => h)).keep u447 (fun _ h => h)).keep u455 (fun hb => show ¬ ((gb365 = go_ ∧ w67.heap.size ≤ gb365)) by first | omega | assumption)).keep u458 (fun hb => show ¬ (gb365 = bk52) by first | omega | assumption))
   have D463 := (A454.keep u458 (fun hb => show ¬ (gb451 = bk52) by first | omega | assumption))
   exact hK74 (n + 1, ao364, gb365, cp366, ao450, gb451, cp452) _ _ (by show ys.length - (n + 1) < ys.length - n; omega) ⟨rfl, rfl, rfl, rfl, rfl, rfl, trivial⟩ ⟨(((((((((((u76.nx u93).nx u229).nx u361).next u369 (fun i hi (h : (i = gv ∧ w67.heap.size ≤ i)) => show i = bk42 ∨ i = bk52 ∨ w67.heap.size ≤ i by first | omega | assumption)).next u372 (fun i hi (h : i = bk42) => show i = bk42 ∨ i = bk52 ∨ w67.heap.size ≤ i by first | omega | assumption)).nx u376).nx u411).nx u441).nx u447).next u455 (fun i hi (h : (i = go_ ∧ w67.heap.size ≤ i)) => show i = bk42 ∨ i = bk52 ∨ w67.heap.size ≤ i by first | omega | assumption)).next u458 (fun i hi (h : i = bk52) => show i = bk42 ∨ i = bk52 ∨ w67.heap.size ≤ i by first | omega | assumption)), (by rw [hst1]; exact B461), (by rw [hst2]; exact B459), (by omega), (by rw [hst1]; exact D462), (by rw [hst2]; exact D463), (fun h => by have h9 : w67.heap.size ≤ gb365 := h; show gb365 ≠ gb451; omega)⟩
  refine go ?_
  refine x_l fun bk464 w465 ebk464 sbk464 B466 u467 => ?_
  refine go ?_
  have D469 := (((((((((hro.keep u93 (fun _ h => h)).keep u229 (fun _ h => h)).keep u361 (fun _ h => h)).keep u369 (fun hb => show ¬ ((go_ = gv ∧ w67.heap.size ≤ go_)) by first | omega | assumption)).keep u372 (fun hb => show ¬ (go_ = bk42) by first | omega | assumption)).keep u376 (fun _ h => h)).keep u411 (fun _ h => h)).keep u441 (fun _ h => h)).keep u467 (fun _ h => h))
  refine t_append (z := .agg #[.int .i64 0, .int .i64 0, .int .i64 0, .int .i64 0, .int .i64 0, .int .i64 0]) (bytes := 48) (k := 6) (base := w67.heap.size) (rnS n (stO (nth ys n))) underlying32 (by kernel_rfl) rfl (by decide) (fun _ => rfl) (by intro x; simp [encRun, Value.oneCell']) rfl rfl rfl rfl D469 B466 (by omega) (by omega) (by decide) (fun ao470 gb471 cp472 w473 A474 u475 gegb471 lngb471 => ?_)
  have zu475 := u475.size
  have lt_gb471 := A474.lt
  refine go ?_
  refine x_s fun w477 sw477 B479 u478 => ?_
  refine go ?_
  have B481 := ((((((B373.kx u376).kx u411).kx u441).kx u467).keep u475 (by omega)).keep u478 (by omega))
  have D482 := (((((((A368.keep u372 (fun hb => show ¬ (gb365 = bk42) by first | omega | assumption)).keep u376 (fun _ h => h)).keep u411 (fun _ h => h)).keep u441 (fun _ h => h)).keep u467 (fun _ h => h)).keep u475 (fun hb => show ¬ ((gb365 = go_ ∧ w67.heap.size ≤ gb365)) by first | omega | assumption)).keep u478 (fun hb => show ¬ (gb365 = bk52) by first | omega | assumption))
  have D483 := (A474.keep u478 (fun hb => show ¬ (gb471 = bk52) by first | omega | assumption))
  exact hK74 (n + 1, ao364, gb365, cp366, ao470, gb471, cp472) _ _ (by show ys.length - (n + 1) < ys.length - n; omega) ⟨rfl, rfl, rfl, rfl, rfl, rfl, trivial⟩ ⟨(((((((((((u76.nx u93).nx u229).nx u361).next u369 (fun i hi (h : (i = gv ∧ w67.heap.size ≤ i)) => show i = bk42 ∨ i = bk52 ∨ w67.heap.size ≤ i by first | omega | assumption)).next u372 (fun i hi (h : i = bk42) => show i = bk42 ∨ i = bk52 ∨ w67.heap.size ≤ i by first | omega | assumption)).nx u376).nx u411).nx u441).nx u467).next u475 (fun i hi (h : (i = go_ ∧ w67.heap.size ≤ i)) => show i = bk42 ∨ i = bk52 ∨ w67.heap.size ≤ i by first | omega | assumption)).next u478 (fun i hi (h : i = bk52) => show i = bk42 ∨ i = bk52 ∨ w67.heap.size ≤ i by first | omega | assumption)), (by rw [hst1]; exact B481), (by rw [hst2]; exact B479), (by omega), (by rw [hst1]; exact D482), (by rw [hst2]; exact D483), (fun h => by have h9 : w67.heap.size ≤ gb365 := h; show gb365 ≠ gb471; omega)⟩
 have hokV : ∀ s ∈ ((ys.take n).map stV), okStp s := st_all (fun _ h => stV_ok h) hys
 have hokO : ∀ s ∈ ((ys.take n).map stO), okStp s := st_all (fun _ h => stO_ok h) hys
 have hlenV : ((ys.take n).map stV).length = n := by rw [List.length_map, List.length_take]; omega
 have hlenO : ((ys.take n).map stO).length = n := by rw [List.length_map, List.length_take]; omega
 have httV : 0 ≤ (⟨x4 % 50, x4 % 50 + x0 % 10⟩ : Bnd).lo ∧ (⟨x4 % 50, x4 % 50 + x0 % 10⟩ : Bnd).lo ≤ (⟨x4 % 50, x4 % 50 + x0 % 10⟩ : Bnd).hi ∧ (⟨x4 % 50, x4 % 50 + x0 % 10⟩ : Bnd).hi ≤ 1000 := by dsimp only; omega
 have httO : 0 ≤ (⟨((x4 % 50) + ((((x4 % 50) + (x0 % 10)) - (x4 % 50)) / 2)), ((x4 % 50) + ((((x4 % 50) + (x0 % 10)) - (x4 % 50)) / 2))⟩ : Bnd).lo ∧ (⟨((x4 % 50) + ((((x4 % 50) + (x0 % 10)) - (x4 % 50)) / 2)), ((x4 % 50) + ((((x4 % 50) + (x0 % 10)) - (x4 % 50)) / 2))⟩ : Bnd).lo ≤ (⟨((x4 % 50) + ((((x4 % 50) + (x0 % 10)) - (x4 % 50)) / 2)), ((x4 % 50) + ((((x4 % 50) + (x0 % 10)) - (x4 % 50)) / 2))⟩ : Bnd).hi ∧ (⟨((x4 % 50) + ((((x4 % 50) + (x0 % 10)) - (x4 % 50)) / 2)), ((x4 % 50) + ((((x4 % 50) + (x0 % 10)) - (x4 % 50)) / 2))⟩ : Bnd).hi ≤ 1000 := by dsimp only; omega
 have hTr9 := tmB_rng (B := 60) hokV (t := (⟨x4 % 50, x4 % 50 + x0 % 10⟩ : Bnd)) (by dsimp only; omega)
 have hTi9 := tmB_in (l' := ((ys.take n).map stO)) (t' := (⟨((x4 % 50) + ((((x4 % 50) + (x0 % 10)) - (x4 % 50)) / 2)), ((x4 % 50) + ((((x4 % 50) + (x0 % 10)) - (x4 % 50)) / 2))⟩ : Bnd)) (by rw [hlenV, hlenO]) hokV (fun i hi => by rw [hlenV] at hi; rw [st_nth hi hn, st_nth hi hn]; exact stO_in (hys _ (nth_mem (by omega)))) (t := (⟨x4 % 50, x4 % 50 + x0 % 10⟩ : Bnd)) (by dsimp only; omega)
 obtain ⟨TV, hTV⟩ : ∃ f : Nat → Bnd, ∀ k, f k = tmB (⟨x4 % 50, x4 % 50 + x0 % 10⟩ : Bnd) ((ys.take n).map stV) k := ⟨_, fun _ => rfl⟩
 obtain ⟨TO, hTO⟩ : ∃ f : Nat → Bnd, ∀ k, f k = tmB (⟨((x4 % 50) + ((((x4 % 50) + (x0 % 10)) - (x4 % 50)) / 2)), ((x4 % 50) + ((((x4 % 50) + (x0 % 10)) - (x4 % 50)) / 2))⟩ : Bnd) ((ys.take n).map stO) k := ⟨_, fun _ => rfl⟩
 have hTr : ∀ k, k ≤ n → 0 ≤ (TV k).lo ∧ (TV k).lo ≤ (TV k).hi ∧ (TV k).hi ≤ 60 + 455 * (k : Int) := fun k hk => by rw [hTV]; exact hTr9 k (by omega)
 have hTi : ∀ k, k ≤ n → (TV k).lo ≤ (TO k).lo ∧ (TO k).lo = (TO k).hi ∧ (TO k).hi ≤ (TV k).hi := fun k hk => by rw [hTV, hTO]; exact hTi9 k (by omega)
 clear hTr9 hTi9
 refine go ?_
 refine x_l fun bk485 w486 ebk485 sbk485 B487 u488 => ?_
 refine x_l fun bk490 w491 ebk490 sbk490 B492 u493 => ?_
 refine go ?_
 have B497 := (B487.kx u493)
 refine q_loop (γ := Nat × Option Addr × Nat × Nat × Option Addr × Nat × Nat) (fun gg => [(1, .slice ay ys.length cy), (2, .int .u8 mb), (7, .pointer (some ⟨bk32, 0, none⟩)), (8, .pointer (some ⟨bk42, 0, none⟩)), (9, .pointer (some ⟨bk52, 0, none⟩)), (13, .slice gg.2.1 (((List.range gg.1).map (lgF TV ys)).length) gg.2.2.2.1), (14, .slice gg.2.2.2.2.1 (((List.range gg.1).map (dtF TO)).length) gg.2.2.2.2.2.2), (15, .int .i64 (gg.1 : Int))]) (fun gg w => Upd (fun i => i = bk485 ∨ i = bk490 ∨ w491.heap.size ≤ i) w491 w ∧ (gg.1 ≤ ys.length) ∧ (Acc encLeg 7 79 bk485 w gg.2.1 gg.2.2.1 gg.2.2.2.1 ((List.range gg.1).map (lgF TV ys))) ∧ (Acc encDty 4 77 bk490 w gg.2.2.2.2.1 gg.2.2.2.2.2.1 gg.2.2.2.2.2.2 ((List.range gg.1).map (dtF TO))) ∧ ((gg.2.2.1 = bk485 ∨ w491.heap.size ≤ gg.2.2.1) ∧ (gg.2.2.2.2.2.1 = bk490 ∨ w491.heap.size ≤ gg.2.2.2.2.2.1) ∧ gg.2.2.1 ≠ gg.2.2.2.2.2.1) ∧ (∀ i, i < gg.1 → (TV i).hi ≤ (TV (i + 1)).lo)) (fun gg => ys.length - gg.1) (0, some ⟨bk485, 0, none⟩, bk485, 0, some ⟨bk490, 0, none⟩, bk490, 0) ⟨rfl, rfl, rfl, rfl, rfl, rfl, rfl, rfl, trivial⟩ ⟨Upd.refl _ _, (Nat.zero_le _), (Acc.lit encLeg 7 B497 (Nat.le_refl _)), (Acc.lit encDty 4 B492 (Nat.le_refl _)), (by show (bk485 = bk485 ∨ _) ∧ (bk490 = bk490 ∨ _) ∧ bk485 ≠ bk490; omega), (fun i h => absurd h (Nat.not_lt_zero i))⟩ ?_
 intro gg w499 hW K498 hK498
 obtain ⟨k, al, gl, cl, ad, gd, cd⟩ := gg
 change WC _ _ _ _ _ _ [(1, .slice ay ys.length cy), (2, .int .u8 mb), (7, .pointer (some ⟨bk32, 0, none⟩)), (8, .pointer (some ⟨bk42, 0, none⟩)), (9, .pointer (some ⟨bk52, 0, none⟩)), (13, .slice al (((List.range k).map (lgF TV ys)).length) cl), (14, .slice ad (((List.range k).map (dtF TO)).length) cd), (15, .int .i64 (k : Int))] _
 change Upd (fun i => i = bk485 ∨ i = bk490 ∨ w491.heap.size ≤ i) w491 w499 ∧ (k ≤ ys.length) ∧ (Acc encLeg 7 79 bk485 w499 al gl cl ((List.range k).map (lgF TV ys))) ∧ (Acc encDty 4 77 bk490 w499 ad gd cd ((List.range k).map (dtF TO))) ∧ ((gl = bk485 ∨ w491.heap.size ≤ gl) ∧ (gd = bk490 ∨ w491.heap.size ≤ gd) ∧ gl ≠ gd) ∧ (∀ i, i < k → (TV i).hi ≤ (TV (i + 1)).lo) at hW
 obtain ⟨u500, I501, I502, I503, I504, I505⟩ := hW
 have zu500 := u500.size
 have hk := I501; clear I501
 have hlg := I502; clear I502
 have hdt := I503; clear I503
 have hne2 := I504; clear I504
 have hgap := I505; clear I505
 have lt_gl := hlg.lt
 have lt_gd := hdt.lt
 have hlgl := rg_len (lgF TV ys) k
 have hdtl := rg_len (dtF TO) k
 refine go ?_
 refine q_p (fun g180 => ?_) fun g180 => ?_
 ·
  have hby9 := hy.lt (show 0 < ys.length by omega)
  have hw9 := hys _ (nth_mem (xs := ys) (i := k) (by omega))
  unfold okW3 at hw9
  have ti1 := hTi k (by omega)
  have ti2 := hTi (k + 1) (by omega)
  have tr1 := hTr k (by omega)
  have tr2 := hTr (k + 1) (by omega)
  refine go ?_
  have D511 := (((hrv.keep u488 (fun _ h => h)).keep u493 (fun _ h => h)).keep u500 (fun hb => show ¬ (gv = bk485 ∨ gv = bk490 ∨ w491.heap.size ≤ gv) by first | omega | assumption))
  refine x_c func9 rfl rfl (Arrive_c (vyS (⟨x4 % 50, x4 % 50 + x0 % 10⟩ : Bnd) ((ys.take n).map stV)) av gv 0 cv (100 * (k : Int)) _ (D511.sl (fun _ => rfl)) (by show (rnL 0 ((ys.take n).map stV)).length ≤ 1000000; omega)) ?_
  rintro _ w513 ⟨rfl, u514⟩ zu514
  have har9 := arr_vyS (t := (⟨x4 % 50, x4 % 50 + x0 % 10⟩ : Bnd)) (l := ((ys.take n).map stV)) (k := k) hokV (by omega) (by omega) httV (by omega)
  rw [← hTV (k)] at har9
  iterate 2 refine st1 ?_
  refine t_same 188 (v := .agg #[.int .i64 ((TV (k)).lo), .int .i64 ((TV (k)).hi)]) rfl (congrArg (fun x : Bnd => Value.agg #[.int .i64 x.lo, .int .i64 x.hi]) har9.2) ?_
  refine st1 ?_
  refine t_same 189 (v := .int .i64 0) rfl (congrArg (Value.int .i64) har9.1) ?_
  refine x_n fun bk517 w518 ebk517 sbk517 B519 u520 => ?_
  refine x_s fun w522 sw522 B524 u523 => ?_
  iterate 9 refine st1 ?_
  refine t_same 194 (v := .int .i64 (100 * ((k + 1 : Nat) : Int))) rfl (congrArg (Value.int .i64) (by omega)) ?_
  have D527 := (((D511.keep u514 (fun _ h => h)).keep u520 (fun _ h => h)).keep u523 (fun hb => show ¬ (gv = bk517) by first | omega | assumption))
  refine x_c func9 rfl rfl (Arrive_c (vyS (⟨x4 % 50, x4 % 50 + x0 % 10⟩ : Bnd) ((ys.take n).map stV)) av gv 0 cv (100 * ((k + 1 : Nat) : Int)) _ (D527.sl (fun _ => rfl)) (by show (rnL 0 ((ys.take n).map stV)).length ≤ 1000000; omega)) ?_
  rintro _ w529 ⟨rfl, u530⟩ zu530
  have har9 := arr_vyS (t := (⟨x4 % 50, x4 % 50 + x0 % 10⟩ : Bnd)) (l := ((ys.take n).map stV)) (k := k + 1) hokV (by omega) (by omega) httV (by omega)
  rw [← hTV (k + 1)] at har9
  iterate 2 refine st1 ?_
  refine t_same 196 (v := .agg #[.int .i64 ((TV (k + 1)).lo), .int .i64 ((TV (k + 1)).hi)]) rfl (congrArg (fun x : Bnd => Value.agg #[.int .i64 x.lo, .int .i64 x.hi]) har9.2) ?_
  refine st1 ?_
  refine t_same 197 (v := .int .i64 0) rfl (congrArg (Value.int .i64) har9.1) ?_
  refine x_n fun bk533 w534 ebk533 sbk533 B535 u536 => ?_
  refine x_s fun w538 sw538 B540 u539 => ?_
  refine go ?_
  have D543 := (((((((((hro.keep u488 (fun _ h => h)).keep u493 (fun _ h => h)).keep u500 (fun hb => show ¬ (go_ = bk485 ∨ go_ = bk490 ∨ w491.heap.size ≤ go_) by first | omega | assumption)).keep u514 (fun _ h => h)).keep u520 (fun _ h => h)).keep u523 (fun hb => show ¬ (go_ = bk517) by first | omega | assumption)).keep u530 (fun _ h => h)).keep u536 (fun _ h => h)).keep u539 (fun hb => show ¬ (go_ = bk533) by first | omega | assumption))
  refine x_c func9 rfl rfl (Arrive_c (vyS (⟨((x4 % 50) + ((((x4 % 50) + (x0 % 10)) - (x4 % 50)) / 2)), ((x4 % 50) + ((((x4 % 50) + (x0 % 10)) - (x4 % 50)) / 2))⟩ : Bnd) ((ys.take n).map stO)) ao go_ 0 co (100 * (k : Int)) _ (D543.sl (fun _ => rfl)) (by show (rnL 0 ((ys.take n).map stO)).length ≤ 1000000; omega)) ?_
  rintro _ w545 ⟨rfl, u546⟩ zu546
  have har9 := arr_vyS (t := (⟨((x4 % 50) + ((((x4 % 50) + (x0 % 10)) - (x4 % 50)) / 2)), ((x4 % 50) + ((((x4 % 50) + (x0 % 10)) - (x4 % 50)) / 2))⟩ : Bnd)) (l := ((ys.take n).map stO)) (k := k) hokO (by omega) (by omega) httO (by omega)
  rw [← hTO (k)] at har9
  iterate 2 refine st1 ?_
  refine t_same 203 (v := .agg #[.int .i64 ((TO (k)).lo), .int .i64 ((TO (k)).hi)]) rfl (congrArg (fun x : Bnd => Value.agg #[.int .i64 x.lo, .int .i64 x.hi]) har9.2) ?_
  refine st1 ?_
  refine t_same 204 (v := .int .i64 0) rfl (congrArg (Value.int .i64) har9.1) ?_
  refine x_n fun bk549 w550 ebk549 sbk549 B551 u552 => ?_
  refine x_s fun w554 sw554 B556 u555 => ?_
  iterate 9 refine st1 ?_
  refine t_same 209 (v := .int .i64 (100 * ((k + 1 : Nat) : Int))) rfl (congrArg (Value.int .i64) (by omega)) ?_
  have D559 := (((D543.keep u546 (fun _ h => h)).keep u552 (fun _ h => h)).keep u555 (fun hb => show ¬ (go_ = bk549) by first | omega | assumption))
  refine x_c func9 rfl rfl (Arrive_c (vyS (⟨((x4 % 50) + ((((x4 % 50) + (x0 % 10)) - (x4 % 50)) / 2)), ((x4 % 50) + ((((x4 % 50) + (x0 % 10)) - (x4 % 50)) / 2))⟩ : Bnd) ((ys.take n).map stO)) ao go_ 0 co (100 * ((k + 1 : Nat) : Int)) _ (D559.sl (fun _ => rfl)) (by show (rnL 0 ((ys.take n).map stO)).length ≤ 1000000; omega)) ?_
  rintro _ w561 ⟨rfl, u562⟩ zu562
  have har9 := arr_vyS (t := (⟨((x4 % 50) + ((((x4 % 50) + (x0 % 10)) - (x4 % 50)) / 2)), ((x4 % 50) + ((((x4 % 50) + (x0 % 10)) - (x4 % 50)) / 2))⟩ : Bnd)) (l := ((ys.take n).map stO)) (k := k + 1) hokO (by omega) (by omega) httO (by omega)
  rw [← hTO (k + 1)] at har9
  iterate 2 refine st1 ?_
  refine t_same 211 (v := .agg #[.int .i64 ((TO (k + 1)).lo), .int .i64 ((TO (k + 1)).hi)]) rfl (congrArg (fun x : Bnd => Value.agg #[.int .i64 x.lo, .int .i64 x.hi]) har9.2) ?_
  refine st1 ?_
  refine t_same 212 (v := .int .i64 0) rfl (congrArg (Value.int .i64) har9.1) ?_
  refine x_n fun bk565 w566 ebk565 sbk565 B567 u568 => ?_
  refine x_s fun w570 sw570 B572 u571 => ?_
  iterate 26 refine st1 ?_
  refine t_same 232 (v := .bool false) rfl (congrArg Value.bool (decide_eq_false (by omega))) ?_
  iterate 7 refine st1 ?_
  refine t_same 239 (v := .bool false) rfl (congrArg Value.bool (decide_eq_false (by omega))) ?_
  iterate 7 refine st1 ?_
  refine t_same 246 (v := .bool false) rfl (congrArg Value.bool (decide_eq_false (by omega))) ?_
  iterate 7 refine st1 ?_
  refine t_same 253 (v := .bool false) rfl (congrArg Value.bool (decide_eq_false (by omega))) ?_
  iterate 7 refine st1 ?_
  refine t_same 260 (v := .bool false) rfl (congrArg Value.bool (decide_eq_false (by omega))) ?_
  iterate 7 refine st1 ?_
  refine t_same 267 (v := .bool false) rfl (congrArg Value.bool (decide_eq_false (by omega))) ?_
  refine go ?_
  refine q_p (fun g273 => ?_) fun g273 => ?_
  ·
   refine go ?_
   refine x_c func18 rfl rfl (moorRests_c _) ?_
   rintro _ w580 ⟨rfl, u581⟩ zu581
   refine go ?_
   refine x_c func16 rfl rfl (moorStops_c _) ?_
   rintro _ w585 ⟨rfl, u586⟩ zu586
   refine go ?_
   refine f_1 results5 ?_
   exact ⟨rfl, u_d⟩
  refine go ?_
  refine c_drawnM follows (fun i => (i = gl ∧ bk485 ≤ i) ∨ (i = gd ∧ bk490 ≤ i)) (.look 0 (.look 1 (.look 2 (.look 3 (.look 4 (.look 5 (.look 6 (.look 7 (.look 8 (.look 9 (.look 10 (.look 11 (.look 12 (.look 13 (.look 16 (.look 17 (.look 18 (.look 19 (.act 14 (.act 15 (.act 20 (.act 21 (.look 22 (.look 23 .done)) .stop) .stop) (.act 20 (.act 15 (.act 21 (.look 22 (.look 23 .done)) .stop) .stop) .stop)) (.act 20 (.act 14 (.act 15 (.act 21 (.look 22 (.look 23 .done)) .stop) .stop) .stop) .stop)))))))))))))))))))) (by kernel_rfl) fun w589 u590 => ?_
  have zu590 := u590.size
  refine go ?_
  refine y_i k (hy.keep ((((((((((((((((E83.u.nx u488).nx u493).next u500 (fun i hi (h : i = bk485 ∨ i = bk490 ∨ w491.heap.size ≤ i) => show False by first | omega | assumption)).nx u514).nx u520).next u523 (fun i hi h => by omega)).nx u530).nx u536).next u539 (fun i hi h => by omega)).nx u546).nx u552).next u555 (fun i hi h => by omega)).nx u562).nx u568).next u571 (fun i hi h => by omega)).nx u590) (fun _ h => h)) (fun _ => ?_)
  refine y_indexArr (j := 2) (oy + k * 3 + 2) underlying23 sizeOf5 rfl rfl rfl rfl rfl (by decide) rfl ?_
  refine st1 ?_
  refine y_same 287 (v := .int .u8 ((nth ys k).c)) rfl rfl (y_conv underlying5 underlying3 rfl rfl rfl (IntWalk.i64_in _ (by omega)) (y_rem rfl rfl rfl rfl (by omega) (by omega) ?_))
  refine go ?_
  refine s_or ?_ ?_
  ·
   refine go ?_
   refine x_l fun bk593 w594 ebk593 sbk593 B595 u596 => ?_
   refine go ?_
   refine s_or ?_ ?_
   ·
    refine go ?_
    have D598 := ((((((((((((((hlg.keep u514 (fun _ h => h)).keep u520 (fun _ h => h)).keep u523 (fun hb => show ¬ (gl = bk517) by first | omega | assumption)).keep u530 (fun _ h => h)).keep u536 (fun _ h => h)).keep u539 (fun hb => show ¬ (gl = bk533) by first | omega | assumption)).keep u546 (fun _ h => h)).keep u552 (fun _ h => h)).keep u555 (fun hb => show ¬ (gl = bk549) by first | omega | assumption)).keep u562 (fun _ h => h)).keep u568 (fun _ h => h)).keep u571 (fun hb => show ¬ (gl = bk565) by first | omega | assumption)).keep u590 (fun _ h => h)).keep u596 (fun _ h => h))
    refine t_append (z := .agg #[.int .i64 0, .int .i64 0, .int .i64 0, .int .i64 0, .int .i64 0, .int .i64 0, .int .i64 0]) (bytes := 56) (k := 7) (base := bk485) (lgF TV ys k) underlying74 (by kernel_rfl) rfl (by decide) (fun _ => rfl) (by intro x; simp [encLeg, Value.oneCell']) rfl rfl rfl rfl D598 B595 (by omega) (by omega) (by decide) (fun ao599 gb600 cp601 w602 A603 u604 gegb600 lngb600 => ?_)
    have zu604 := u604.size
    have lt_gb600 := A603.lt
    refine go ?_
    refine x_l fun bk606 w607 ebk606 sbk606 B608 u609 => ?_
    refine go ?_
    have D611 := ((((((((((((((((hdt.keep u514 (fun _ h => h)).keep u520 (fun _ h => h)).keep u523 (fun hb => show ¬ (gd = bk517) by first | omega | assumption)).keep u530 (fun _ h => h)).keep u536 (fun _ h => h)).keep u539 (fun hb => show ¬ (gd = bk533) by first | omega | assumption)).keep u546 (fun _ h => h)).keep u552 (fun _ h => h)).keep u555 (fun hb => show ¬ (gd = bk549) by first | omega | assumption)).keep u562 (fun _ h => h)).keep u568 (fun _ h => h)).keep u571 (fun hb => show ¬ (gd = bk565) by first | omega | assumption)).keep u590 (fun _ h => h)).keep u596 (fun _ h => h)).keep u604 (fun hb => show ¬ ((gd = gl ∧ bk485 ≤ gd)) by first | omega | assumption)).keep u609 (fun _ h => h))
    refine t_append (z := .agg #[.int .i64 0, .int .i64 0, .int .i64 0, .int .i64 0]) (bytes := 32) (k := 4) (base := bk490) (dtF TO k) underlying75 (by kernel_rfl) rfl (by decide) (fun _ => rfl) (by intro x; simp [encDty, Value.oneCell']) rfl rfl rfl rfl D611 B608 (by omega) (by omega) (by decide) (fun ao612 gb613 cp614 w615 A616 u617 gegb613 lngb613 => ?_)
    have zu617 := u617.size
    have lt_gb613 := A616.lt
    refine go ?_
    have D619 := ((A603.keep u609 (fun _ h => h)).keep u617 (fun hb => show ¬ ((gb600 = gd ∧ bk490 ≤ gb600)) by first | omega | assumption))
    exact hK498 (k + 1, ao599, gb600, cp601, ao612, gb613, cp614) _ _ (by show ys.length - (k + 1) < ys.length - k; omega) ⟨rfl, rfl, rfl, rfl, rfl, (by first | (rw [rg_snoc]; rfl) | rfl), (by first | (rw [rg_snoc]; rfl) | rfl), rfl, trivial⟩ ⟨(((((((((((((((((u500.nx u514).nx u520).next u523 (fun i hi (h : i = bk517) => show i = bk485 ∨ i = bk490 ∨ w491.heap.size ≤ i by first | omega | assumption)).nx u530).nx u536).next u539 (fun i hi (h : i = bk533) => show i = bk485 ∨ i = bk490 ∨ w491.heap.size ≤ i by first | omega | assumption)).nx u546).nx u552).next u555 (fun i hi (h : i = bk549) => show i = bk485 ∨ i = bk490 ∨ w491.heap.size ≤ i by first | omega | assumption)).nx u562).nx u568).next u571 (fun i hi (h : i = bk565) => show i = bk485 ∨ i = bk490 ∨ w491.heap.size ≤ i by first | omega | assumption)).nx u590).nx u596).next u604 (fun i hi (h : (i = gl ∧ bk485 ≤ i)) => show i = bk485 ∨ i = bk490 ∨ w491.heap.size ≤ i by first | omega | assumption)).nx u609).next u617 (fun i hi (h : (i = gd ∧ bk490 ≤ i)) => show i = bk485 ∨ i = bk490 ∨ w491.heap.size ≤ i by first | omega | assumption)), (by omega), (by rw [rg_snoc]; exact D619), (by rw [rg_snoc]; exact A616), (by show (gb600 = bk485 ∨ w491.heap.size ≤ gb600) ∧ (gb613 = bk490 ∨ w491.heap.size ≤ gb613) ∧ gb600 ≠ gb613; omega), (fun i hi => by
      rcases Nat.lt_or_ge i k with q9 | q9
      · exact hgap i q9
      · rw [show i = k by have h9 : i < k + 1 := hi; omega]; omega)⟩
   refine go ?_
   refine x_l fun bk620 w621 ebk620 sbk620 B622 u623 => ?_
   refine go ?_
   have D625 := (((((((((((((((hlg.keep u514 (fun _ h => h)).keep u520 (fun _ h => h)).keep u523 (fun hb => show ¬ (gl = bk517) by first | omega | assumption)).keep u530 (fun _ h => h)).keep u536 (fun _ h => h)).keep u539 (fun hb => show ¬ (gl = bk533) by first | omega | assumption)).keep u546 (fun _ h => h)).keep u552 (fun _ h => h)).keep u555 (fun hb => show ¬ (gl = bk549) by first | omega | assumption)).keep u562 (fun _ h => h)).keep u568 (fun _ h => h)).keep u571 (fun hb => show ¬ (gl = bk565) by first | omega | assumption)).keep u590 (fun _ h => h)).keep u596 (fun _ h => h)).keep u623 (fun _ h => h))
   have B626 := (B595.kx u623)
   refine t_append (z := .agg #[.int .i64 0, .int .i64 0, .int .i64 0, .int .i64 0, .int .i64 0, .int .i64 0, .int .i64 0]) (bytes := 56) (k := 7) (base := bk485) (lgF TV ys k) underlying74 (by kernel_rfl) rfl (by decide) (fun _ => rfl) (by intro x; simp [encLeg, Value.oneCell']) rfl rfl rfl rfl D625 B626 (by omega) (by omega) (by decide) (fun ao627 gb628 cp629 w630 A631 u632 gegb628 lngb628 => ?_)
   have zu632 := u632.size
   have lt_gb628 := A631.lt
   refine go ?_
   have D634 := ((((((((((((((((hdt.keep u514 (fun _ h => h)).keep u520 (fun _ h => h)).keep u523 (fun hb => show ¬ (gd = bk517) by first | omega | assumption)).keep u530 (fun _ h => h)).keep u536 (fun _ h => h)).keep u539 (fun hb => show ¬ (gd = bk533) by first | omega | assumption)).keep u546 (fun _ h => h)).keep u552 (fun _ h => h)).keep u555 (fun hb => show ¬ (gd = bk549) by first | omega | assumption)).keep u562 (fun _ h => h)).keep u568 (fun _ h => h)).keep u571 (fun hb => show ¬ (gd = bk565) by first | omega | assumption)).keep u590 (fun _ h => h)).keep u596 (fun _ h => h)).keep u623 (fun _ h => h)).keep u632 (fun hb => show ¬ ((gd = gl ∧ bk485 ≤ gd)) by first | omega | assumption))
   have B635 := (B622.keep u632 (by omega))
   refine t_append (z := .agg #[.int .i64 0, .int .i64 0, .int .i64 0, .int .i64 0]) (bytes := 32) (k := 4) (base := bk490) (dtF TO k) underlying75 (by kernel_rfl) rfl (by decide) (fun _ => rfl) (by intro x; simp [encDty, Value.oneCell']) rfl rfl rfl rfl D634 B635 (by omega) (by omega) (by decide) (fun ao636 gb637 cp638 w639 A640 u641 gegb637 lngb637 => ?_)
   have zu641 := u641.size
   have lt_gb637 := A640.lt
   refine go ?_
   have D643 := (A631.keep u641 (fun hb => show ¬ ((gb628 = gd ∧ bk490 ≤ gb628)) by first | omega | assumption))
   exact hK498 (k + 1, ao627, gb628, cp629, ao636, gb637, cp638) _ _ (by show ys.length - (k + 1) < ys.length - k; omega) ⟨rfl, rfl, rfl, rfl, rfl, (by first | (rw [rg_snoc]; rfl) | rfl), (by first | (rw [rg_snoc]; rfl) | rfl), rfl, trivial⟩ ⟨(((((((((((((((((u500.nx u514).nx u520).next u523 (fun i hi (h : i = bk517) => show i = bk485 ∨ i = bk490 ∨ w491.heap.size ≤ i by first | omega | assumption)).nx u530).nx u536).next u539 (fun i hi (h : i = bk533) => show i = bk485 ∨ i = bk490 ∨ w491.heap.size ≤ i by first | omega | assumption)).nx u546).nx u552).next u555 (fun i hi (h : i = bk549) => show i = bk485 ∨ i = bk490 ∨ w491.heap.size ≤ i by first | omega | assumption)).nx u562).nx u568).next u571 (fun i hi (h : i = bk565) => show i = bk485 ∨ i = bk490 ∨ w491.heap.size ≤ i by first | omega | assumption)).nx u590).nx u596).nx u623).next u632 (fun i hi (h : (i = gl ∧ bk485 ≤ i)) => show i = bk485 ∨ i = bk490 ∨ w491.heap.size ≤ i by first | omega | assumption)).next u641 (fun i hi (h : (i = gd ∧ bk490 ≤ i)) => show i = bk485 ∨ i = bk490 ∨ w491.heap.size ≤ i by first | omega | assumption)), (by omega), (by rw [rg_snoc]; exact D643), (by rw [rg_snoc]; exact A640), (by show (gb628 = bk485 ∨ w491.heap.size ≤ gb628) ∧ (gb637 = bk490 ∨ w491.heap.size ≤ gb637) ∧ gb628 ≠ gb637; omega), (fun i hi => by
     rcases Nat.lt_or_ge i k with q9 | q9
     · exact hgap i q9
     · rw [show i = k by have h9 : i < k + 1 := hi; omega]; omega)⟩
  refine go ?_
  refine x_l fun bk644 w645 ebk644 sbk644 B646 u647 => ?_
  refine go ?_
  refine x_l fun bk649 w650 ebk649 sbk649 B651 u652 => ?_
  refine go ?_
  have D654 := (((((((((((((((hlg.keep u514 (fun _ h => h)).keep u520 (fun _ h => h)).keep u523 (fun hb => show ¬ (gl = bk517) by first | omega | assumption)).keep u530 (fun _ h => h)).keep u536 (fun _ h => h)).keep u539 (fun hb => show ¬ (gl = bk533) by first | omega | assumption)).keep u546 (fun _ h => h)).keep u552 (fun _ h => h)).keep u555 (fun hb => show ¬ (gl = bk549) by first | omega | assumption)).keep u562 (fun _ h => h)).keep u568 (fun _ h => h)).keep u571 (fun hb => show ¬ (gl = bk565) by first | omega | assumption)).keep u590 (fun _ h => h)).keep u647 (fun _ h => h)).keep u652 (fun _ h => h))
  refine t_append (z := .agg #[.int .i64 0, .int .i64 0, .int .i64 0, .int .i64 0, .int .i64 0, .int .i64 0, .int .i64 0]) (bytes := 56) (k := 7) (base := bk485) (lgF TV ys k) underlying74 (by kernel_rfl) rfl (by decide) (fun _ => rfl) (by intro x; simp [encLeg, Value.oneCell']) rfl rfl rfl rfl D654 B651 (by omega) (by omega) (by decide) (fun ao655 gb656 cp657 w658 A659 u660 gegb656 lngb656 => ?_)
  have zu660 := u660.size
  have lt_gb656 := A659.lt
  refine go ?_
  have D662 := ((((((((((((((((hdt.keep u514 (fun _ h => h)).keep u520 (fun _ h => h)).keep u523 (fun hb => show ¬ (gd = bk517) by first | omega | assumption)).keep u530 (fun _ h => h)).keep u536 (fun _ h => h)).keep u539 (fun hb => show ¬ (gd = bk533) by first | omega | assumption)).keep u546 (fun _ h => h)).keep u552 (fun _ h => h)).keep u555 (fun hb => show ¬ (gd = bk549) by first | omega | assumption)).keep u562 (fun _ h => h)).keep u568 (fun _ h => h)).keep u571 (fun hb => show ¬ (gd = bk565) by first | omega | assumption)).keep u590 (fun _ h => h)).keep u647 (fun _ h => h)).keep u652 (fun _ h => h)).keep u660 (fun hb => show ¬ ((gd = gl ∧ bk485 ≤ gd)) by first | omega | assumption))
  have B663 := ((B646.kx u652).keep u660 (by omega))
  refine t_append (z := .agg #[.int .i64 0, .int .i64 0, .int .i64 0, .int .i64 0]) (bytes := 32) (k := 4) (base := bk490) (dtF TO k) underlying75 (by kernel_rfl) rfl (by decide) (fun _ => rfl) (by intro x; simp [encDty, Value.oneCell']) rfl rfl rfl rfl D662 B663 (by omega) (by omega) (by decide) (fun ao664 gb665 cp666 w667 A668 u669 gegb665 lngb665 => ?_)
  have zu669 := u669.size
  have lt_gb665 := A668.lt
  refine go ?_
  have D671 := (A659.keep u669 (fun hb => show ¬ ((gb656 = gd ∧ bk490 ≤ gb656)) by first | omega | assumption))
  exact hK498 (k + 1, ao655, gb656, cp657, ao664, gb665, cp666) _ _ (by show ys.length - (k + 1) < ys.length - k; omega) ⟨rfl, rfl, rfl, rfl, rfl, (by first | (rw [rg_snoc]; rfl) | rfl), (by first | (rw [rg_snoc]; rfl) | rfl), rfl, trivial⟩ ⟨(((((((((((((((((u500.nx u514).nx u520).next u523 (fun i hi (h : i = bk517) => show i = bk485 ∨ i = bk490 ∨ w491.heap.size ≤ i by first | omega | assumption)).nx u530).nx u536).next u539 (fun i hi (h : i = bk533) => show i = bk485 ∨ i = bk490 ∨ w491.heap.size ≤ i by first | omega | assumption)).nx u546).nx u552).next u555 (fun i hi (h : i = bk549) => show i = bk485 ∨ i = bk490 ∨ w491.heap.size ≤ i by first | omega | assumption)).nx u562).nx u568).next u571 (fun i hi (h : i = bk565) => show i = bk485 ∨ i = bk490 ∨ w491.heap.size ≤ i by first | omega | assumption)).nx u590).nx u647).nx u652).next u660 (fun i hi (h : (i = gl ∧ bk485 ≤ i)) => show i = bk485 ∨ i = bk490 ∨ w491.heap.size ≤ i by first | omega | assumption)).next u669 (fun i hi (h : (i = gd ∧ bk490 ≤ i)) => show i = bk485 ∨ i = bk490 ∨ w491.heap.size ≤ i by first | omega | assumption)), (by omega), (by rw [rg_snoc]; exact D671), (by rw [rg_snoc]; exact A668), (by show (gb656 = bk485 ∨ w491.heap.size ≤ gb656) ∧ (gb665 = bk490 ∨ w491.heap.size ≤ gb665) ∧ gb656 ≠ gb665; omega), (fun i hi => by
    rcases Nat.lt_or_ge i k with q9 | q9
    · exact hgap i q9
    · rw [show i = k by have h9 : i < k + 1 := hi; omega]; omega)⟩
 refine go ?_
 refine x_l fun bk673 w674 ebk673 sbk673 B675 u676 => ?_
 refine go ?_
 refine x_l4 (fun i => bk673 ≤ i) [2, 7, 13, 14] (fun (m : Nat) (at_ : Option Addr) (gt : Nat) (ct : Nat) => [(24, .slice at_ ((List.replicate m hs0).length) ct), (25, .int .i64 (m : Int))]) (fun m at_ gt ct w => (m ≤ 4) ∧ (Acc encHS 4 83 bk673 w at_ gt ct (List.replicate m hs0))) (fun m at_ gt ct => 4 - m) 0 (some ⟨bk673, 0, none⟩) bk673 0 ⟨(by decide), (Acc.lit encHS 4 B675 (Nat.le_refl _))⟩ ?_
 rintro m at_ gt ct w681 ⟨hm, htm⟩ u682 zu682 K680 hK680
 have lt_gt := htm.lt
 have html : (List.replicate m hs0).length = m := List.length_replicate
 refine go ?_
 refine t_conv underlying5 underlying3 rfl rfl rfl (IntWalk.i64_in _ (by omega)) (t_rem rfl rfl rfl rfl (by omega) (by omega) ?_)
 refine go ?_
 refine q_p (fun g306 => ?_) fun g306 => ?_
 ·
  refine go ?_
  refine x_l fun bk687 w688 ebk687 sbk687 B689 u690 => ?_
  have D692 := (htm.keep u690 (fun _ h => h))
  refine t_append (z := .agg #[.int .i64 0, .int .i64 0, .slice none 0 0, .slice none 0 0]) (bytes := 64) (k := 4) (base := bk673) hs0 underlying80 (by kernel_rfl) rfl (by decide) (fun _ => rfl) (by intro x; simp [encHS, Value.oneCell']) rfl rfl rfl rfl D692 B689 (by omega) (by omega) (by decide) (fun ao693 gb694 cp695 w696 A697 u698 gegb694 lngb694 => ?_)
  have zu698 := u698.size
  have lt_gb694 := A697.lt
  refine go ?_
  exact hK680 (m + 1) ao693 gb694 cp695 ⟨(by omega), (by rw [List.replicate_succ']; exact A697)⟩ (hs := by exact ⟨(by first | (rw [List.replicate_succ']; rfl) | rfl), rfl, rfl, rfl, rfl, rfl, trivial⟩) (hu := ((u682.nx u690).next u698 (fun i hi (h : (i = gt ∧ bk673 ≤ i)) => show bk673 ≤ i by first | omega | assumption)))
 have hrul : okRul (⟨(30 + (x0 % 200)), (200 + (2 * x1)), (150 + (2 * x2)), 1440, (400 + (4 * x3))⟩ : Rul) = true := by unfold okRul; rw [decide_eq_true_eq]; dsimp only; omega
 have hlgok := lgs_ok (ys := ys) (T := TV) (n := n) (k := k) (by omega) (by omega) (by omega) hys hTr hgap
 have h0 := open_0 (m := m) hrul hm (by rw [hlgl]; omega) hlgok
 refine go ?_
 refine c_drawnM follows (fun _ => False) (OTl [0, 2, 6, 5, 9, 11, 12, 14, 16, 18, 20, 22, 24]) (by kernel_rfl) fun w701 u702 => ?_
 have zu702 := u702.size
 refine go ?_
 refine x_l fun bk704 w705 ebk704 sbk704 B706 u707 => ?_
 refine go ?_
 have D709 := ((((hlg.keep u676 (fun _ h => h)).keep u682 (fun hb => show ¬ (bk673 ≤ gl) by first | omega | assumption)).keep u702 (fun _ h => h)).keep u707 (fun _ h => h))
 refine t_copy (enc := encLeg) (z := .agg #[.int .i64 0, .int .i64 0, .int .i64 0, .int .i64 0, .int .i64 0, .int .i64 0, .int .i64 0]) (bytes := 56) (k := 7) (ys := ((List.range k).map (lgF TV ys))) underlying74 (by kernel_rfl) rfl (by decide) (fun _ => rfl) (by intro x; simp [encLeg, Value.oneCell']) rfl rfl rfl rfl B706 (D709.sl (fun _ => rfl)) (by omega) (by decide) (fun ao710 gb711 cp712 w713 A714 u715 gegb711 => ?_)
 have zu715 := u715.size
 have lt_gb711 := A714.lt
 refine go ?_
 have D717 := (((htm.keep u702 (fun _ h => h)).keep u707 (fun _ h => h)).keep u715 (fun hb => show ¬ ((gt = bk704 ∧ bk704 ≤ gt)) by first | omega | assumption))
 refine x_c func19 rfl rfl (Plan_c (⟨(30 + (x0 % 200)), (200 + (2 * x1)), (150 + (2 * x2)), 1440, (400 + (4 * x3))⟩ : Rul) (List.replicate m hs0) at_ gt 0 ct ((List.range k).map (lgF TV ys)) ao710 gb711 0 cp712 _ (D717.sl (fun _ => rfl)) (by rw [html]; omega) tmL_mem (A714.sl (fun _ => rfl)) (by omega) (A714).cap_le (by omega)) ?_
 rintro _ w719 ⟨⟨ap, gp, cp, rows, up, er, rfl, hpl, hpr, hpg, hPR⟩, u720⟩ zu720
 refine go ?_
 refine q_p (fun g324 => ?_) fun g324 => ?_
 ·
  obtain ⟨hE7, hnone, hup⟩ := (plan_two hPR h0).resolve_left (fun q => g324 q.1)
  refine go ?_
  refine c_drawnM follows (fun _ => False) (OTl [0, 2, 6, 5, 9, 11, 12, 14, 16, 18, 20]) (by kernel_rfl) fun w726 u727 => ?_
  have zu727 := u727.size
  refine go ?_
  refine x_l fun bk729 w730 ebk729 sbk729 B731 u732 => ?_
  refine go ?_
  have D734 := ((((D709.keep u715 (fun hb => show ¬ ((gl = bk704 ∧ bk704 ≤ gl)) by first | omega | assumption)).keep u720 (fun _ h => h)).keep u727 (fun _ h => h)).keep u732 (fun _ h => h))
  refine t_copy (enc := encLeg) (z := .agg #[.int .i64 0, .int .i64 0, .int .i64 0, .int .i64 0, .int .i64 0, .int .i64 0, .int .i64 0]) (bytes := 56) (k := 7) (ys := ((List.range k).map (lgF TV ys))) underlying74 (by kernel_rfl) rfl (by decide) (fun _ => rfl) (by intro x; simp [encLeg, Value.oneCell']) rfl rfl rfl rfl B731 (D734.sl (fun _ => rfl)) (by omega) (by decide) (fun ao735 gb736 cp737 w738 A739 u740 gegb736 => ?_)
  have zu740 := u740.size
  have lt_gb736 := A739.lt
  refine go ?_
  have D742 := ((((D717.keep u720 (fun _ h => h)).keep u727 (fun _ h => h)).keep u732 (fun _ h => h)).keep u740 (fun hb => show ¬ ((gt = bk729 ∧ bk729 ≤ gt)) by first | omega | assumption))
  refine x_c func20 rfl rfl (Short_c (⟨(30 + (x0 % 200)), (200 + (2 * x1)), (150 + (2 * x2)), 1440, (400 + (4 * x3))⟩ : Rul) (List.replicate m hs0) at_ gt 0 ct ((List.range k).map (lgF TV ys)) ao735 gb736 0 cp737 _ (D742.sl (fun _ => rfl)) (by rw [html]; omega) tmL_mem (A739.sl (fun _ => rfl)) (by omega) (A739).cap_le (by omega)) ?_
  rintro _ w744 ⟨⟨as_, gs, cs, ls, es, rfl, hsl, hSR⟩, u745⟩ zu745
  obtain ⟨rfl, hs1, hs2, hs3, hs4⟩ := too_few hrul h0 hnone hSR
  rw [← hup] at hs2
  rw [hlgl] at hs4
  have lt_gs := hsl.lt (by omega)
  iterate 12 refine st1 ?_
  refine t_same 335 (v := .bool true) rfl (congrArg Value.bool (decide_eq_true (hE7))) ?_
  iterate 8 refine st1 ?_
  refine t_same 343 (v := .bool true) rfl (congrArg Value.bool (decide_eq_true (by omega))) ?_
  refine go ?_
  refine g_i (ls.length - 1) hsl (fun _ => ?_) (hj := (by omega))
  iterate 3 refine st1 ?_
  refine t_same 353 (v := .bool true) rfl (congrArg Value.bool (decide_eq_true (hs2))) ?_
  refine go ?_
  refine g_i (ls.length - 1) hsl (fun _ => ?_) (hj := (by omega))
  iterate 4 refine st1 ?_
  refine t_same 364 (v := .bool true) rfl (congrArg Value.bool (decide_eq_true (by omega))) ?_
  refine go ?_
  refine x_c func18 rfl rfl (moorRests_c _) ?_
  rintro _ w752 ⟨rfl, u753⟩ zu753
  refine go ?_
  refine x_c func16 rfl rfl (moorStops_c _) ?_
  rintro _ w757 ⟨rfl, u758⟩ zu758
  refine go ?_
  refine f_1 results5 ?_
  exact ⟨rfl, u_d⟩
 have D761 := ((D709.keep u715 (fun hb => show ¬ ((gl = bk704 ∧ bk704 ≤ gl)) by first | omega | assumption)).keep u720 (fun _ h => h))
 have D762 := ((((((hdt.keep u676 (fun _ h => h)).keep u682 (fun hb => show ¬ (bk673 ≤ gd) by first | omega | assumption)).keep u702 (fun _ h => h)).keep u707 (fun _ h => h)).keep u715 (fun hb => show ¬ ((gd = bk704 ∧ bk704 ≤ gd)) by first | omega | assumption)).keep u720 (fun _ h => h))
 have D763 := (D717.keep u720 (fun _ h => h))
 have hEr : Sc (fun _ => False) w0 w719 := ⟨u_d⟩
 have B764 := ((((((((((((((((B39.kx u45).keep u48 (by omega)).kx u55).keep u58 (by omega)).kx u64).keep u68 (by omega)).keep u76 (show ¬ (bk32 = bk42 ∨ bk32 = bk52 ∨ w67.heap.size ≤ bk32) by first | omega | assumption)).kx u488).kx u493).keep u500 (show ¬ (bk32 = bk485 ∨ bk32 = bk490 ∨ w491.heap.size ≤ bk32) by first | omega | assumption)).kx u676).keep u682 (show ¬ (bk673 ≤ bk32) by first | omega | assumption)).kx u702).kx u707).keep u715 (by omega)).kx u720)
 have hb7r := B764
 have hne29 := hne2
 clear hne hne2
 have hf764_0 : gl < w713.heap.size ∧ gd < w713.heap.size ∧ gt < w713.heap.size := by omega
 have hf764_1 : 0 < w713.heap.size ∧ w713.heap.size ≤ w719.heap.size := by omega
 have hf764_2 : gl ≠ gd ∧ gl < bk673 := by omega
 have hf764_3 : bk32 < gl := by omega
 have hf764_4 : w0.heap.size ≤ gl := by omega
 have hf764_5 : bk485 < w713.heap.size ∧ bk490 < w713.heap.size ∧ bk673 < w713.heap.size := by omega
 try clear hne29
 try clear zu758
 try clear zu753
 try clear lt_gs
 try clear zu745
 try clear lt_gb736
 try clear zu740
 try clear gegb736
 try clear sbk729
 try clear ebk729
 try clear zu727
 try clear zu720
 try clear lt_gb711
 try clear zu715
 try clear gegb711
 try clear sbk704
 try clear ebk704
 try clear zu702
 try clear lt_gb694
 try clear zu698
 try clear lngb694
 try clear gegb694
 try clear sbk687
 try clear ebk687
 try clear lt_gt
 try clear zu682
 try clear sbk673
 try clear ebk673
 try clear lt_gb665
 try clear zu669
 try clear lngb665
 try clear gegb665
 try clear lt_gb656
 try clear zu660
 try clear lngb656
 try clear gegb656
 try clear sbk649
 try clear ebk649
 try clear sbk644
 try clear ebk644
 try clear lt_gb637
 try clear zu641
 try clear lngb637
 try clear gegb637
 try clear lt_gb628
 try clear zu632
 try clear lngb628
 try clear gegb628
 try clear sbk620
 try clear ebk620
 try clear lt_gb613
 try clear zu617
 try clear lngb613
 try clear gegb613
 try clear sbk606
 try clear ebk606
 try clear lt_gb600
 try clear zu604
 try clear lngb600
 try clear gegb600
 try clear sbk593
 try clear ebk593
 try clear zu590
 try clear zu586
 try clear zu581
 try clear sw570
 try clear sbk565
 try clear ebk565
 try clear zu562
 try clear sw554
 try clear sbk549
 try clear ebk549
 try clear zu546
 try clear sw538
 try clear sbk533
 try clear ebk533
 try clear zu530
 try clear sw522
 try clear sbk517
 try clear ebk517
 try clear zu514
 try clear lt_gd
 try clear lt_gl
 try clear zu500
 try clear sbk490
 try clear ebk490
 try clear sbk485
 try clear ebk485
 try clear sw477
 try clear lt_gb471
 try clear zu475
 try clear lngb471
 try clear gegb471
 try clear sbk464
 try clear ebk464
 try clear sw457
 try clear lt_gb451
 try clear zu455
 try clear lngb451
 try clear gegb451
 try clear sbk444
 try clear ebk444
 try clear zu441
 try clear sw432
 try clear lt_gb426
 try clear zu430
 try clear lngb426
 try clear gegb426
 try clear sbk419
 try clear ebk419
 try clear zu416
 try clear zu411
 try clear sw402
 try clear lt_gb396
 try clear zu400
 try clear lngb396
 try clear gegb396
 try clear sbk389
 try clear ebk389
 try clear zu386
 try clear zu381
 try clear zu376
 try clear sw371
 try clear lt_gb365
 try clear zu369
 try clear lngb365
 try clear gegb365
 try clear sbk358
 try clear ebk358
 try clear sw351
 try clear lt_gb345
 try clear zu349
 try clear lngb345
 try clear gegb345
 try clear sbk338
 try clear ebk338
 try clear sw331
 try clear lt_gb325
 try clear zu329
 try clear lngb325
 try clear gegb325
 try clear sbk318
 try clear ebk318
 try clear zu315
 try clear sw306
 try clear lt_gb300
 try clear zu304
 try clear lngb300
 try clear gegb300
 try clear sbk293
 try clear ebk293
 try clear zu290
 try clear zu285
 try clear sw276
 try clear lt_gb270
 try clear zu274
 try clear lngb270
 try clear gegb270
 try clear sbk263
 try clear ebk263
 try clear zu260
 try clear zu255
 try clear zu250
 try clear sw245
 try clear lt_gb239
 try clear zu243
 try clear lngb239
 try clear gegb239
 try clear sbk232
 try clear ebk232
 try clear zu229
 try clear sw220
 try clear lt_gb214
 try clear zu218
 try clear lngb214
 try clear gegb214
 try clear sbk207
 try clear ebk207
 try clear sw200
 try clear lt_gb194
 try clear zu198
 try clear lngb194
 try clear gegb194
 try clear sbk187
 try clear ebk187
 try clear zu184
 try clear sw175
 try clear lt_gb169
 try clear zu173
 try clear lngb169
 try clear gegb169
 try clear sbk162
 try clear ebk162
 try clear zu159
 try clear zu154
 try clear sw145
 try clear lt_gb139
 try clear zu143
 try clear lngb139
 try clear gegb139
 try clear sbk132
 try clear ebk132
 try clear zu129
 try clear zu124
 try clear zu119
 try clear sw114
 try clear lt_gb108
 try clear zu112
 try clear lngb108
 try clear gegb108
 try clear sbk101
 try clear ebk101
 try clear zu98
 try clear zu93
 try clear lt_go_
 try clear lt_gv
 try clear zu76
 try clear sw67
 try clear zu64
 try clear sw57
 try clear sbk52
 try clear ebk52
 try clear sw47
 try clear sbk42
 try clear ebk42
 try clear sw37
 try clear sbk32
 try clear ebk32
 try clear zu28
 try clear zu23
 try clear zu17
 try clear zu12
 try clear sbk2
 try clear ebk2
 have he0 : er = 0 := by omega
 have hpa := ((plan_two hPR h0).resolve_right (fun q => g324 (by have := q.1; omega))).2
 have hTq : ∀ q, q ≤ n → 0 ≤ (TO q).lo ∧ (TO q).lo ≤ (TO q).hi ∧ (TO q).hi ≤ 60 + 455 * (q : Int) := fun q hq => by
   have h8 := hTr q hq
   have h9 := hTi q hq
   omega
 have hgO : ∀ i, i < k → (TO i).hi ≤ (TO (i + 1)).lo := fun i hi => by
   have h7 := hTi i (by omega)
   have h8 := hTi (i + 1) (by omega)
   have h9 := hgap i hi
   omega
 have hokO9 := lgs_ok (ys := ys) (T := TO) (n := n) (k := k) (by omega) (by omega) (by omega) hys hTq hgO
 have h1 := open_0 (m := m) hrul hm (by rw [rg_len]; omega) hokO9
 have hin9 := lgs_map (f := lgF TO ys) (g := lgF TV ys) k (fun i hi => lgF_in (n := n) (by omega) hTi (hgap i hi) (hlgok _ (List.mem_map.2 ⟨i, List.mem_range.2 hi, rfl⟩)))
 obtain ⟨p, hpe, hpl9, hpok, hpok1, hbr9, hno9, hvg9⟩ := crewed hrul (tmL_team m) hin9 (by rw [List.length_map, html]; omega) h0 h1 hpa
 have hplk : p.length = k := by rw [hpl9, rg_len]
 have hrl9 : rows.length = k := by
   have h9 := congrArg List.length hpe
   rw [List.length_map, List.length_map, hplk] at h9
   exact h9
 have hgp9 := hpg.1 (fun e => by rw [e] at hrl9; have h9 : (0 : Nat) = k := hrl9; omega)
 have lt_gp := hpl.lt (by omega)
 have hrow9 : ∀ i, i < k → (nth rows i).xs = castL (nth p i) := fun i hi => by
   have h9 := congrArg (fun z => nth z i) hpe
   rw [nth_map2 _ (by omega), nth_map2 _ (by omega)] at h9
   exact h9
 have hrow8 : ∀ i, i < k → (nth p i).length = (1 + (nth ys i).c % 2).toNat ∧ (nth p i).Nodup ∧ ∀ q ∈ nth p i, q < m := fun i hi => by
   obtain ⟨h7, h8, h9⟩ := row_at hpok (i := i) (by rw [rg_len]; exact hi)
   rw [nth_rg hi] at h7
   rw [List.length_map, List.length_map, html] at h9
   exact ⟨h7, h8, h9⟩
 have hrlen : ∀ y ∈ rows, y.xs.length ≤ 1000000 := fun y hy9 => by
   obtain ⟨i, hi, e⟩ := List.mem_iff_getElem.1 hy9
   have h9 := hrow9 i (by omega)
   have h8 := (hrow8 i (by omega)).1
   have h7 := hys _ (nth_mem (xs := ys) (i := i) (by omega))
   unfold okW3 at h7
   rw [nth_eq hi, e] at h9
   rw [h9, List.length_map, h8]
   omega
 iterate 10 refine st1 ?_
 refine t_same 376 (v := .bool false) rfl (congrArg Value.bool (decide_eq_false (by omega))) ?_
 refine go ?_
 refine t_build (ps := []) (v := .agg #[.slice none 0 0, .slice none 0 0, .slice none 0 0, .slice none 0 0]) rfl rfl ⟨rfl, rfl⟩ (fun w => by kernel_rfl) ?_
 refine x_n fun bk768 w769 ebk768 sbk768 B770 u771 => ?_
 refine x_s fun w773 sw773 B775 u774 => ?_
 refine go ?_
 have D779 := ((D761.keep u771 (fun _ h => h)).keep u774 (fun hb => show ¬ (gl = bk768) by first | omega | assumption))
 refine x_l5 (fun i => i = bk768 ∨ i = gl ∨ w773.heap.size ≤ i) [7, 14, 24, 26, 31] (fun (i : Nat) (e0 : HA) (e1 : HA) (e2 : HA) (e3 : HA) => [(13, .slice al ((lgM TV TO ys k i).length) cl), (32, .int .i64 (i : Int))]) (fun i e0 e1 e2 e3 w => Blk w bk768 89 [.slice e0.ao ((dnU TO ys p 0 i 0).length) e0.cp, .slice e1.ao ((dnU TO ys p 1 i 0).length) e1.cp, .slice e2.ao ((dnU TO ys p 2 i 0).length) e2.cp, .slice e3.ao ((dnU TO ys p 3 i 0).length) e3.cp] ∧ (i ≤ k) ∧ (Acc encDty 4 77 w773.heap.size w e0.ao e0.g e0.cp (dnU TO ys p 0 i 0)) ∧ (Acc encDty 4 77 w773.heap.size w e1.ao e1.g e1.cp (dnU TO ys p 1 i 0)) ∧ (Acc encDty 4 77 w773.heap.size w e2.ao e2.g e2.cp (dnU TO ys p 2 i 0)) ∧ (Acc encDty 4 77 w773.heap.size w e3.ao e3.g e3.cp (dnU TO ys p 3 i 0)) ∧ (dst4 w773.heap.size e0 e1 e2 e3) ∧ (Acc encLeg 7 79 bk485 w al gl cl (lgM TV TO ys k i))) (fun i e0 e1 e2 e3 => k - i) 0 (⟨none, 0, 0⟩) (⟨none, 0, 0⟩) (⟨none, 0, 0⟩) (⟨none, 0, 0⟩) ⟨(by rw [dnU_zero, dnU_zero, dnU_zero, dnU_zero]; exact B775), (Nat.zero_le _), (by rw [dnU_zero]; exact Acc.nil encDty 4 77 w773.heap.size _ (by omega) (by omega)), (by rw [dnU_zero]; exact Acc.nil encDty 4 77 w773.heap.size _ (by omega) (by omega)), (by rw [dnU_zero]; exact Acc.nil encDty 4 77 w773.heap.size _ (by omega) (by omega)), (by rw [dnU_zero]; exact Acc.nil encDty 4 77 w773.heap.size _ (by omega) (by omega)), (by unfold dst4; dsimp only; omega), (by rw [lgM_zero]; exact D779)⟩ ?_ (h0 := by exact ⟨(by rw [lgM_len, rg_len]; rfl), rfl, rfl, rfl, rfl, rfl, rfl, trivial⟩)
 rintro i e0 e1 e2 e3 w781 ⟨I783, hi, hA0, hA1, hA2, hA3, hds, hlgM⟩ u782 zu782 K780 hK780
 have lt_e0_g := hA0.lt
 have lt_e1_g := hA1.lt
 have lt_e2_g := hA2.lt
 have lt_e3_g := hA3.lt
 have lt_gl := hlgM.lt
 have hlml : (lgM TV TO ys k i).length = k := lgM_len
 refine go ?_
 refine q_p (fun g381 => ?_) fun g381 => ?_
 ·
  have hik : i < k := by omega
  have hrow := hrow9 i hik
  obtain ⟨hrl1, hnd, hmb9⟩ := hrow8 i hik
  have hw9 := hys _ (nth_mem (xs := ys) (i := i) (by omega))
  unfold okW3 at hw9
  have hcl : (nth rows i).xs.length = (nth p i).length := by rw [hrow, List.length_map]
  have hpl8 : 1 ≤ (nth p i).length ∧ (nth p i).length ≤ 2 := by rw [hrl1]; omega
  have hpl7 : ((nth p i).length : Int) = 1 + (nth ys i).c % 2 := by rw [hrl1]; omega
  have hlgi := lgM_at (TV := TV) (TO := TO) (ys := ys) hik
  have hdti : nth ((List.range k).map (dtF TO)) i = dtF TO i := nth_rg hik
  have hrg9 : w713.heap.size ≤ (nth rows i).g := hpg.2 _ (nth_mem (by omega)) (fun e => by have h9 := congrArg List.length e; rw [hcl] at h9; have h8 : (nth p i).length = 0 := h9; omega)
  clear hrl1
  have lt_rg := (hpr _ (nth_mem (xs := rows) (i := i) (by omega))).lt (by omega)
  have D787 := ((((hpr (nth rows i) (nth_mem (by omega))).keep u771 (fun _ h => h)).keep u774 (fun h9 => show ¬ ((nth rows i).g = bk768) by omega)).keep u782 (fun h9 => show ¬ ((nth rows i).g = bk768 ∨ (nth rows i).g = gl ∨ w773.heap.size ≤ (nth rows i).g) by omega))
  have D788 := (((D762.keep u771 (fun _ h => h)).keep u774 (fun hb => show ¬ (gd = bk768) by first | omega | assumption)).keep u782 (fun hb => show ¬ (gd = bk768 ∨ gd = gl ∨ w773.heap.size ≤ gd) by first | omega | assumption))
  have D789 := (((hpl.keep u771 (fun _ h => h)).keep u774 (fun h9 => show ¬ (gp = bk768) by omega)).keep u782 (fun h9 => show ¬ (gp = bk768 ∨ gp = gl ∨ w773.heap.size ≤ gp) by omega))
  refine go ?_
  refine c_drawnM follows (fun _ => False) (OTl [0, 2, 4, 6, 8, 10, 12, 14, 16, 18, 20]) (by kernel_rfl) fun w793 u794 => ?_
  have zu794 := u794.size
  refine go ?_
  have D796 := (D789.keep u794 (fun _ h => h))
  refine y_i i D796 (fun _ => ?_)
  refine go ?_
  have D798 := (hlgM.keep u794 (fun _ h => h))
  refine y_i i (D798.sl (fun _ => rfl)) (fun _ => ?_)
  iterate 2 refine st1 ?_
  refine y_same 393 (v := .int .i64 (1 + ((nth ys i).c % 2))) rfl (congrArg (fun x : Leg => Value.int .i64 x.h) hlgi) ?_
  refine st1 ?_
  refine y_same 394 (v := .bool false) rfl (congrArg Value.bool (decide_eq_false (by omega))) ?_
  refine go ?_
  have D802 := (hA0.keep u794 (fun _ h => h))
  have D803 := (hA1.keep u794 (fun _ h => h))
  have D804 := (hA2.keep u794 (fun _ h => h))
  have D805 := (hA3.keep u794 (fun _ h => h))
  have B806 := (I783.kx u794)
  refine x_l5 (fun i => i = bk768 ∨ w773.heap.size ≤ i) [7, 13, 14, 24, 26, 31, 32] (fun (c : Nat) (e0 : HA) (e1 : HA) (e2 : HA) (e3 : HA) => [(33, .int .i64 (c : Int))]) (fun c e0 e1 e2 e3 w => Blk w bk768 89 [.slice e0.ao ((dnU TO ys p 0 i c).length) e0.cp, .slice e1.ao ((dnU TO ys p 1 i c).length) e1.cp, .slice e2.ao ((dnU TO ys p 2 i c).length) e2.cp, .slice e3.ao ((dnU TO ys p 3 i c).length) e3.cp] ∧ (c ≤ (nth p i).length) ∧ (Acc encDty 4 77 w773.heap.size w e0.ao e0.g e0.cp (dnU TO ys p 0 i c)) ∧ (Acc encDty 4 77 w773.heap.size w e1.ao e1.g e1.cp (dnU TO ys p 1 i c)) ∧ (Acc encDty 4 77 w773.heap.size w e2.ao e2.g e2.cp (dnU TO ys p 2 i c)) ∧ (Acc encDty 4 77 w773.heap.size w e3.ao e3.g e3.cp (dnU TO ys p 3 i c)) ∧ (dst4 w773.heap.size e0 e1 e2 e3)) (fun c e0 e1 e2 e3 => (nth p i).length - c) 0 e0 e1 e2 e3 ⟨B806, (Nat.zero_le _), D802, D803, D804, D805, hds⟩ ?_
  rintro c e0 e1 e2 e3 w808 ⟨I810, hc, hA0, hA1, hA2, hA3, hds⟩ u809 zu809 K807 hK807
  have lt_e0_g := hA0.lt
  have lt_e1_g := hA1.lt
  have lt_e2_g := hA2.lt
  have lt_e3_g := hA3.lt
  refine go ?_
  have D814 := (D796.keep u809 (fun h9 => show ¬ (gp = bk768 ∨ w773.heap.size ≤ gp) by omega))
  refine g_i i D814 (fun _ => ?_)
  refine go ?_
  refine q_p (fun g401 => ?_) fun g401 => ?_
  ·
   have hxc : (nth (nth rows i).xs c) = ((nth (nth p i) c : Nat) : Int) := by rw [hrow, nth_map2 _ (by omega)]
   have hxm := hmb9 _ (nth_mem (xs := nth p i) (i := c) (by omega))
   refine go ?_
   refine g_i i D814 (fun _ => ?_)
   refine go ?_
   have D820 := ((D787.keep u794 (fun _ h => h)).keep u809 (fun h9 => show ¬ ((nth rows i).g = bk768 ∨ w773.heap.size ≤ (nth rows i).g) by omega))
   refine g_i c D820 (fun _ => ?_)
   iterate 2 refine st1 ?_
   refine t_same 411 (v := .bool false) rfl (congrArg Value.bool (decide_eq_false (by omega))) ?_
   refine go ?_
   refine g_i i D814 (fun _ => ?_)
   refine go ?_
   refine g_i c D820 (fun _ => ?_)
   iterate 4 refine st1 ?_
   refine t_same 422 (v := .bool false) rfl (congrArg Value.bool (decide_eq_false (by omega))) ?_
   refine go ?_
   rcases (show (nth (nth p i) c) = 0 ∨ (nth (nth p i) c) = 1 ∨ (nth (nth p i) c) = 2 ∨ (nth (nth p i) c) = 3 by omega) with hm0 | hm0 | hm0 | hm0
   ·
    have hxv : (nth (nth rows i).xs c) = 0 := by rw [hxc, hm0]; rfl
    have hdl9 := dnU_len (T := TO) (ys := ys) (p := p) (j := 0) (i := i) (c := c)
    have hz0 : (dnU TO ys p 0 i (c + 1)) = (dnU TO ys p 0 i c) ++ [nth ((List.range k).map (dtF TO)) i] := by rw [dnU_put hnd (by omega) hm0 0, if_pos rfl, nth_rg hik]
    have hz1 : (dnU TO ys p 1 i (c + 1)) = (dnU TO ys p 1 i c) := by rw [dnU_put hnd (by omega) hm0 1, if_neg (by decide)]
    have hz2 : (dnU TO ys p 2 i (c + 1)) = (dnU TO ys p 2 i c) := by rw [dnU_put hnd (by omega) hm0 2, if_neg (by decide)]
    have hz3 : (dnU TO ys p 3 i (c + 1)) = (dnU TO ys p 3 i c) := by rw [dnU_put hnd (by omega) hm0 3, if_neg (by decide)]
    refine c_drawnM follows (fun i => (i = e0.g ∧ w773.heap.size ≤ i) ∨ i = bk768) (.look 0 (.look 1 (.look 2 (.look 3 (.look 4 (.look 5 (.look 6 (.look 7 (.look 8 (.look 9 (.look 10 (.look 11 (.look 12 (.look 13 (.look 14 (.look 16 (.look 17 (.look 18 (.look 19 (.act 15 (.act 20 (.act 21 (.look 22 (.act 23 .done .stop)) .stop) .stop) (.act 20 (.act 15 (.act 21 (.look 22 (.act 23 .done .stop)) .stop) .stop) .stop))))))))))))))))))))) (by kernel_rfl) fun w824 u825 => ?_
    have zu825 := u825.size
    refine go ?_
    have D827 := (D814.keep u825 (fun _ h => h))
    refine y_i i D827 (fun _ => ?_)
    refine go ?_
    have D829 := (D820.keep u825 (fun _ h => h))
    refine y_i c D829 (fun _ => ?_)
    refine go ?_
    refine y_i i D827 (fun _ => ?_)
    refine go ?_
    refine y_i c D829 (fun _ => ?_)
    refine go ?_
    refine y_indexArr (j := 0) (0) underlying89 sizeOf75 rfl rfl rfl rfl hxv (by decide) rfl ?_
    refine go ?_
    have D833 := (((D788.keep u794 (fun _ h => h)).keep u809 (fun hb => show ¬ (gd = bk768 ∨ w773.heap.size ≤ gd) by first | omega | assumption)).keep u825 (fun _ h => h))
    refine y_i i (D833.sl (fun _ => rfl)) (fun _ => ?_)
    refine go ?_
    refine s_or ?_ ?_
    ·
     refine go ?_
     refine x_l fun bk835 w836 ebk835 sbk835 B837 u838 => ?_
     refine go ?_
     have D840 := ((hA0.keep u825 (fun _ h => h)).keep u838 (fun _ h => h))
     refine t_append (z := .agg #[.int .i64 0, .int .i64 0, .int .i64 0, .int .i64 0]) (bytes := 32) (k := 4) (base := w773.heap.size) (nth ((List.range k).map (dtF TO)) i) underlying75 (by kernel_rfl) rfl (by decide) (fun _ => rfl) (by intro x; simp [encDty, Value.oneCell']) rfl rfl rfl rfl D840 B837 (by omega) (by omega) (by decide) (fun ao841 gb842 cp843 w844 A845 u846 gegb842 lngb842 => ?_)
     have zu846 := u846.size
     have lt_gb842 := A845.lt
     refine go ?_
     refine y_indexArr (j := 0) (0) underlying89 sizeOf75 rfl rfl rfl rfl hxv (by decide) rfl ?_
     refine go ?_
     refine x_s fun w848 sw848 B850 u849 => ?_
     refine go ?_
     have D852 := (A845.keep u849 (fun hb => show ¬ (gb842 = bk768) by first | omega | assumption))
     have D853 := ((((hA1.keep u825 (fun _ h => h)).keep u838 (fun _ h => h)).keep u846 (fun _ => hds.n10)).keep u849 (fun hb => show ¬ (e1.g = bk768) by first | omega | assumption))
     have D854 := ((((hA2.keep u825 (fun _ h => h)).keep u838 (fun _ h => h)).keep u846 (fun _ => hds.n20)).keep u849 (fun hb => show ¬ (e2.g = bk768) by first | omega | assumption))
     have D855 := ((((hA3.keep u825 (fun _ h => h)).keep u838 (fun _ h => h)).keep u846 (fun _ => hds.n30)).keep u849 (fun hb => show ¬ (e3.g = bk768) by first | omega | assumption))
     exact hK807 (c + 1) (⟨ao841, gb842, cp843⟩ : HA) e1 e2 e3 ⟨(by rw [hz0, hz1, hz2, hz3]; exact B850), (by omega), (by rw [hz0]; exact D852), (by rw [hz1]; exact D853), (by rw [hz2]; exact D854), (by rw [hz3]; exact D855), (hds.put0 gegb842 (by omega) (by omega) (by omega))⟩ (hu := ((((u809.nx u825).nx u838).next u846 (fun i hi (h : (i = e0.g ∧ w773.heap.size ≤ i)) => show i = bk768 ∨ w773.heap.size ≤ i by first | omega | assumption)).next u849 (fun i hi (h : i = bk768) => show i = bk768 ∨ w773.heap.size ≤ i by first | omega | assumption)))
    refine go ?_
    refine x_l fun bk856 w857 ebk856 sbk856 B858 u859 => ?_
    refine go ?_
    have D861 := ((hA0.keep u825 (fun _ h => h)).keep u859 (fun _ h => h))
    refine t_append (z := .agg #[.int .i64 0, .int .i64 0, .int .i64 0, .int .i64 0]) (bytes := 32) (k := 4) (base := w773.heap.size) (nth ((List.range k).map (dtF TO)) i) underlying75 (by kernel_rfl) rfl (by decide) (fun _ => rfl) (by intro x; simp [encDty, Value.oneCell']) rfl rfl rfl rfl D861 B858 (by omega) (by omega) (by decide) (fun ao862 gb863 cp864 w865 A866 u867 gegb863 lngb863 => ?_)
    have zu867 := u867.size
    have lt_gb863 := A866.lt
    refine go ?_
    refine y_indexArr (j := 0) (0) underlying89 sizeOf75 rfl rfl rfl rfl hxv (by decide) rfl ?_
    refine go ?_
    refine x_s fun w869 sw869 B871 u870 => ?_
    refine go ?_
    have D873 := (A866.keep u870 (fun hb => show ¬ (gb863 = bk768) by first | omega | assumption))
    have D874 := ((((hA1.keep u825 (fun _ h => h)).keep u859 (fun _ h => h)).keep u867 (fun _ => hds.n10)).keep u870 (fun hb => show ¬ (e1.g = bk768) by first | omega | assumption))
    have D875 := ((((hA2.keep u825 (fun _ h => h)).keep u859 (fun _ h => h)).keep u867 (fun _ => hds.n20)).keep u870 (fun hb => show ¬ (e2.g = bk768) by first | omega | assumption))
    have D876 := ((((hA3.keep u825 (fun _ h => h)).keep u859 (fun _ h => h)).keep u867 (fun _ => hds.n30)).keep u870 (fun hb => show ¬ (e3.g = bk768) by first | omega | assumption))
    exact hK807 (c + 1) (⟨ao862, gb863, cp864⟩ : HA) e1 e2 e3 ⟨(by rw [hz0, hz1, hz2, hz3]; exact B871), (by omega), (by rw [hz0]; exact D873), (by rw [hz1]; exact D874), (by rw [hz2]; exact D875), (by rw [hz3]; exact D876), (hds.put0 gegb863 (by omega) (by omega) (by omega))⟩ (hu := ((((u809.nx u825).nx u859).next u867 (fun i hi (h : (i = e0.g ∧ w773.heap.size ≤ i)) => show i = bk768 ∨ w773.heap.size ≤ i by first | omega | assumption)).next u870 (fun i hi (h : i = bk768) => show i = bk768 ∨ w773.heap.size ≤ i by first | omega | assumption)))
   ·
    have hxv : (nth (nth rows i).xs c) = 1 := by rw [hxc, hm0]; rfl
    have hdl9 := dnU_len (T := TO) (ys := ys) (p := p) (j := 1) (i := i) (c := c)
    have hz0 : (dnU TO ys p 0 i (c + 1)) = (dnU TO ys p 0 i c) := by rw [dnU_put hnd (by omega) hm0 0, if_neg (by decide)]
    have hz1 : (dnU TO ys p 1 i (c + 1)) = (dnU TO ys p 1 i c) ++ [nth ((List.range k).map (dtF TO)) i] := by rw [dnU_put hnd (by omega) hm0 1, if_pos rfl, nth_rg hik]
    have hz2 : (dnU TO ys p 2 i (c + 1)) = (dnU TO ys p 2 i c) := by rw [dnU_put hnd (by omega) hm0 2, if_neg (by decide)]
    have hz3 : (dnU TO ys p 3 i (c + 1)) = (dnU TO ys p 3 i c) := by rw [dnU_put hnd (by omega) hm0 3, if_neg (by decide)]
    refine c_drawnM follows (fun i => (i = e1.g ∧ w773.heap.size ≤ i) ∨ i = bk768) (.look 0 (.look 1 (.look 2 (.look 3 (.look 4 (.look 5 (.look 6 (.look 7 (.look 8 (.look 9 (.look 10 (.look 11 (.look 12 (.look 13 (.look 14 (.look 16 (.look 17 (.look 18 (.look 19 (.act 15 (.act 20 (.act 21 (.look 22 (.act 23 .done .stop)) .stop) .stop) (.act 20 (.act 15 (.act 21 (.look 22 (.act 23 .done .stop)) .stop) .stop) .stop))))))))))))))))))))) (by kernel_rfl) fun w877 u878 => ?_
    have zu878 := u878.size
    refine go ?_
    have D880 := (D814.keep u878 (fun _ h => h))
    refine y_i i D880 (fun _ => ?_)
    refine go ?_
    have D882 := (D820.keep u878 (fun _ h => h))
    refine y_i c D882 (fun _ => ?_)
    refine go ?_
    refine y_i i D880 (fun _ => ?_)
    refine go ?_
    refine y_i c D882 (fun _ => ?_)
    refine go ?_
    refine y_indexArr (j := 1) (1) underlying89 sizeOf75 rfl rfl rfl rfl hxv (by decide) rfl ?_
    refine go ?_
    have D886 := (((D788.keep u794 (fun _ h => h)).keep u809 (fun hb => show ¬ (gd = bk768 ∨ w773.heap.size ≤ gd) by first | omega | assumption)).keep u878 (fun _ h => h))
    refine y_i i (D886.sl (fun _ => rfl)) (fun _ => ?_)
    refine go ?_
    refine s_or ?_ ?_
    ·
     refine go ?_
     refine x_l fun bk888 w889 ebk888 sbk888 B890 u891 => ?_
     refine go ?_
     have D893 := ((hA1.keep u878 (fun _ h => h)).keep u891 (fun _ h => h))
     refine t_append (z := .agg #[.int .i64 0, .int .i64 0, .int .i64 0, .int .i64 0]) (bytes := 32) (k := 4) (base := w773.heap.size) (nth ((List.range k).map (dtF TO)) i) underlying75 (by kernel_rfl) rfl (by decide) (fun _ => rfl) (by intro x; simp [encDty, Value.oneCell']) rfl rfl rfl rfl D893 B890 (by omega) (by omega) (by decide) (fun ao894 gb895 cp896 w897 A898 u899 gegb895 lngb895 => ?_)
     have zu899 := u899.size
     have lt_gb895 := A898.lt
     refine go ?_
     refine y_indexArr (j := 1) (1) underlying89 sizeOf75 rfl rfl rfl rfl hxv (by decide) rfl ?_
     refine go ?_
     refine x_s fun w901 sw901 B903 u902 => ?_
     refine go ?_
     have D905 := ((((hA0.keep u878 (fun _ h => h)).keep u891 (fun _ h => h)).keep u899 (fun _ => hds.n01)).keep u902 (fun hb => show ¬ (e0.g = bk768) by first | omega | assumption))
     have D906 := (A898.keep u902 (fun hb => show ¬ (gb895 = bk768) by first | omega | assumption))
     have D907 := ((((hA2.keep u878 (fun _ h => h)).keep u891 (fun _ h => h)).keep u899 (fun _ => hds.n21)).keep u902 (fun hb => show ¬ (e2.g = bk768) by first | omega | assumption))
     have D908 := ((((hA3.keep u878 (fun _ h => h)).keep u891 (fun _ h => h)).keep u899 (fun _ => hds.n31)).keep u902 (fun hb => show ¬ (e3.g = bk768) by first | omega | assumption))
     exact hK807 (c + 1) e0 (⟨ao894, gb895, cp896⟩ : HA) e2 e3 ⟨(by rw [hz0, hz1, hz2, hz3]; exact B903), (by omega), (by rw [hz0]; exact D905), (by rw [hz1]; exact D906), (by rw [hz2]; exact D907), (by rw [hz3]; exact D908), (hds.put1 gegb895 (by omega) (by omega) (by omega))⟩ (hu := ((((u809.nx u878).nx u891).next u899 (fun i hi (h : (i = e1.g ∧ w773.heap.size ≤ i)) => show i = bk768 ∨ w773.heap.size ≤ i by first | omega | assumption)).next u902 (fun i hi (h : i = bk768) => show i = bk768 ∨ w773.heap.size ≤ i by first | omega | assumption)))
    refine go ?_
    refine x_l fun bk909 w910 ebk909 sbk909 B911 u912 => ?_
    refine go ?_
    have D914 := ((hA1.keep u878 (fun _ h => h)).keep u912 (fun _ h => h))
    refine t_append (z := .agg #[.int .i64 0, .int .i64 0, .int .i64 0, .int .i64 0]) (bytes := 32) (k := 4) (base := w773.heap.size) (nth ((List.range k).map (dtF TO)) i) underlying75 (by kernel_rfl) rfl (by decide) (fun _ => rfl) (by intro x; simp [encDty, Value.oneCell']) rfl rfl rfl rfl D914 B911 (by omega) (by omega) (by decide) (fun ao915 gb916 cp917 w918 A919 u920 gegb916 lngb916 => ?_)
    have zu920 := u920.size
    have lt_gb916 := A919.lt
    refine go ?_
    refine y_indexArr (j := 1) (1) underlying89 sizeOf75 rfl rfl rfl rfl hxv (by decide) rfl ?_
    refine go ?_
    refine x_s fun w922 sw922 B924 u923 => ?_
    refine go ?_
    have D926 := ((((hA0.keep u878 (fun _ h => h)).keep u912 (fun _ h => h)).keep u920 (fun _ => hds.n01)).keep u923 (fun hb => show ¬ (e0.g = bk768) by first | omega | assumption))
    have D927 := (A919.keep u923 (fun hb => show ¬ (gb916 = bk768) by first | omega | assumption))
    have D928 := ((((hA2.keep u878 (fun _ h => h)).keep u912 (fun _ h => h)).keep u920 (fun _ => hds.n21)).keep u923 (fun hb => show ¬ (e2.g = bk768) by first | omega | assumption))
    have D929 := ((((hA3.keep u878 (fun _ h => h)).keep u912 (fun _ h => h)).keep u920 (fun _ => hds.n31)).keep u923 (fun hb => show ¬ (e3.g = bk768) by first | omega | assumption))
    exact hK807 (c + 1) e0 (⟨ao915, gb916, cp917⟩ : HA) e2 e3 ⟨(by rw [hz0, hz1, hz2, hz3]; exact B924), (by omega), (by rw [hz0]; exact D926), (by rw [hz1]; exact D927), (by rw [hz2]; exact D928), (by rw [hz3]; exact D929), (hds.put1 gegb916 (by omega) (by omega) (by omega))⟩ (hu := ((((u809.nx u878).nx u912).next u920 (fun i hi (h : (i = e1.g ∧ w773.heap.size ≤ i)) => show i = bk768 ∨ w773.heap.size ≤ i by first | omega | assumption)).next u923 (fun i hi (h : i = bk768) => show i = bk768 ∨ w773.heap.size ≤ i by first | omega | assumption)))
   ·
    have hxv : (nth (nth rows i).xs c) = 2 := by rw [hxc, hm0]; rfl
    have hdl9 := dnU_len (T := TO) (ys := ys) (p := p) (j := 2) (i := i) (c := c)
    have hz0 : (dnU TO ys p 0 i (c + 1)) = (dnU TO ys p 0 i c) := by rw [dnU_put hnd (by omega) hm0 0, if_neg (by decide)]
    have hz1 : (dnU TO ys p 1 i (c + 1)) = (dnU TO ys p 1 i c) := by rw [dnU_put hnd (by omega) hm0 1, if_neg (by decide)]
    have hz2 : (dnU TO ys p 2 i (c + 1)) = (dnU TO ys p 2 i c) ++ [nth ((List.range k).map (dtF TO)) i] := by rw [dnU_put hnd (by omega) hm0 2, if_pos rfl, nth_rg hik]
    have hz3 : (dnU TO ys p 3 i (c + 1)) = (dnU TO ys p 3 i c) := by rw [dnU_put hnd (by omega) hm0 3, if_neg (by decide)]
    refine c_drawnM follows (fun i => (i = e2.g ∧ w773.heap.size ≤ i) ∨ i = bk768) (.look 0 (.look 1 (.look 2 (.look 3 (.look 4 (.look 5 (.look 6 (.look 7 (.look 8 (.look 9 (.look 10 (.look 11 (.look 12 (.look 13 (.look 14 (.look 16 (.look 17 (.look 18 (.look 19 (.act 15 (.act 20 (.act 21 (.look 22 (.act 23 .done .stop)) .stop) .stop) (.act 20 (.act 15 (.act 21 (.look 22 (.act 23 .done .stop)) .stop) .stop) .stop))))))))))))))))))))) (by kernel_rfl) fun w930 u931 => ?_
    have zu931 := u931.size
    refine go ?_
    have D933 := (D814.keep u931 (fun _ h => h))
    refine y_i i D933 (fun _ => ?_)
    refine go ?_
    have D935 := (D820.keep u931 (fun _ h => h))
    refine y_i c D935 (fun _ => ?_)
    refine go ?_
    refine y_i i D933 (fun _ => ?_)
    refine go ?_
    refine y_i c D935 (fun _ => ?_)
    refine go ?_
    refine y_indexArr (j := 2) (2) underlying89 sizeOf75 rfl rfl rfl rfl hxv (by decide) rfl ?_
    refine go ?_
    have D939 := (((D788.keep u794 (fun _ h => h)).keep u809 (fun hb => show ¬ (gd = bk768 ∨ w773.heap.size ≤ gd) by first | omega | assumption)).keep u931 (fun _ h => h))
    refine y_i i (D939.sl (fun _ => rfl)) (fun _ => ?_)
    refine go ?_
    refine s_or ?_ ?_
    ·
     refine go ?_
     refine x_l fun bk941 w942 ebk941 sbk941 B943 u944 => ?_
     refine go ?_
     have D946 := ((hA2.keep u931 (fun _ h => h)).keep u944 (fun _ h => h))
     refine t_append (z := .agg #[.int .i64 0, .int .i64 0, .int .i64 0, .int .i64 0]) (bytes := 32) (k := 4) (base := w773.heap.size) (nth ((List.range k).map (dtF TO)) i) underlying75 (by kernel_rfl) rfl (by decide) (fun _ => rfl) (by intro x; simp [encDty, Value.oneCell']) rfl rfl rfl rfl D946 B943 (by omega) (by omega) (by decide) (fun ao947 gb948 cp949 w950 A951 u952 gegb948 lngb948 => ?_)
     have zu952 := u952.size
     have lt_gb948 := A951.lt
     refine go ?_
     refine y_indexArr (j := 2) (2) underlying89 sizeOf75 rfl rfl rfl rfl hxv (by decide) rfl ?_
     refine go ?_
     refine x_s fun w954 sw954 B956 u955 => ?_
     refine go ?_
     have D958 := ((((hA0.keep u931 (fun _ h => h)).keep u944 (fun _ h => h)).keep u952 (fun _ => hds.n02)).keep u955 (fun hb => show ¬ (e0.g = bk768) by first | omega | assumption))
     have D959 := ((((hA1.keep u931 (fun _ h => h)).keep u944 (fun _ h => h)).keep u952 (fun _ => hds.n12)).keep u955 (fun hb => show ¬ (e1.g = bk768) by first | omega | assumption))
     have D960 := (A951.keep u955 (fun hb => show ¬ (gb948 = bk768) by first | omega | assumption))
     have D961 := ((((hA3.keep u931 (fun _ h => h)).keep u944 (fun _ h => h)).keep u952 (fun _ => hds.n32)).keep u955 (fun hb => show ¬ (e3.g = bk768) by first | omega | assumption))
     exact hK807 (c + 1) e0 e1 (⟨ao947, gb948, cp949⟩ : HA) e3 ⟨(by rw [hz0, hz1, hz2, hz3]; exact B956), (by omega), (by rw [hz0]; exact D958), (by rw [hz1]; exact D959), (by rw [hz2]; exact D960), (by rw [hz3]; exact D961), (hds.put2 gegb948 (by omega) (by omega) (by omega))⟩ (hu := ((((u809.nx u931).nx u944).next u952 (fun i hi (h : (i = e2.g ∧ w773.heap.size ≤ i)) => show i = bk768 ∨ w773.heap.size ≤ i by first | omega | assumption)).next u955 (fun i hi (h : i = bk768) => show i = bk768 ∨ w773.heap.size ≤ i by first | omega | assumption)))
    refine go ?_
    refine x_l fun bk962 w963 ebk962 sbk962 B964 u965 => ?_
    refine go ?_
    have D967 := ((hA2.keep u931 (fun _ h => h)).keep u965 (fun _ h => h))
    refine t_append (z := .agg #[.int .i64 0, .int .i64 0, .int .i64 0, .int .i64 0]) (bytes := 32) (k := 4) (base := w773.heap.size) (nth ((List.range k).map (dtF TO)) i) underlying75 (by kernel_rfl) rfl (by decide) (fun _ => rfl) (by intro x; simp [encDty, Value.oneCell']) rfl rfl rfl rfl D967 B964 (by omega) (by omega) (by decide) (fun ao968 gb969 cp970 w971 A972 u973 gegb969 lngb969 => ?_)
    have zu973 := u973.size
    have lt_gb969 := A972.lt
    refine go ?_
    refine y_indexArr (j := 2) (2) underlying89 sizeOf75 rfl rfl rfl rfl hxv (by decide) rfl ?_
    refine go ?_
    refine x_s fun w975 sw975 B977 u976 => ?_
    refine go ?_
    have D979 := ((((hA0.keep u931 (fun _ h => h)).keep u965 (fun _ h => h)).keep u973 (fun _ => hds.n02)).keep u976 (fun hb => show ¬ (e0.g = bk768) by first | omega | assumption))
    have D980 := ((((hA1.keep u931 (fun _ h => h)).keep u965 (fun _ h => h)).keep u973 (fun _ => hds.n12)).keep u976 (fun hb => show ¬ (e1.g = bk768) by first | omega | assumption))
    have D981 := (A972.keep u976 (fun hb => show ¬ (gb969 = bk768) by first | omega | assumption))
    have D982 := ((((hA3.keep u931 (fun _ h => h)).keep u965 (fun _ h => h)).keep u973 (fun _ => hds.n32)).keep u976 (fun hb => show ¬ (e3.g = bk768) by first | omega | assumption))
    exact hK807 (c + 1) e0 e1 (⟨ao968, gb969, cp970⟩ : HA) e3 ⟨(by rw [hz0, hz1, hz2, hz3]; exact B977), (by omega), (by rw [hz0]; exact D979), (by rw [hz1]; exact D980), (by rw [hz2]; exact D981), (by rw [hz3]; exact D982), (hds.put2 gegb969 (by omega) (by omega) (by omega))⟩ (hu := ((((u809.nx u931).nx u965).next u973 (fun i hi (h : (i = e2.g ∧ w773.heap.size ≤ i)) => show i = bk768 ∨ w773.heap.size ≤ i by first | omega | assumption)).next u976 (fun i hi (h : i = bk768) => show i = bk768 ∨ w773.heap.size ≤ i by first | omega | assumption)))
   have hxv : (nth (nth rows i).xs c) = 3 := by rw [hxc, hm0]; rfl
   have hdl9 := dnU_len (T := TO) (ys := ys) (p := p) (j := 3) (i := i) (c := c)
   have hz0 : (dnU TO ys p 0 i (c + 1)) = (dnU TO ys p 0 i c) := by rw [dnU_put hnd (by omega) hm0 0, if_neg (by decide)]
   have hz1 : (dnU TO ys p 1 i (c + 1)) = (dnU TO ys p 1 i c) := by rw [dnU_put hnd (by omega) hm0 1, if_neg (by decide)]
   have hz2 : (dnU TO ys p 2 i (c + 1)) = (dnU TO ys p 2 i c) := by rw [dnU_put hnd (by omega) hm0 2, if_neg (by decide)]
   have hz3 : (dnU TO ys p 3 i (c + 1)) = (dnU TO ys p 3 i c) ++ [nth ((List.range k).map (dtF TO)) i] := by rw [dnU_put hnd (by omega) hm0 3, if_pos rfl, nth_rg hik]
   refine c_drawnM follows (fun i => (i = e3.g ∧ w773.heap.size ≤ i) ∨ i = bk768) (.look 0 (.look 1 (.look 2 (.look 3 (.look 4 (.look 5 (.look 6 (.look 7 (.look 8 (.look 9 (.look 10 (.look 11 (.look 12 (.look 13 (.look 14 (.look 16 (.look 17 (.look 18 (.look 19 (.act 15 (.act 20 (.act 21 (.look 22 (.act 23 .done .stop)) .stop) .stop) (.act 20 (.act 15 (.act 21 (.look 22 (.act 23 .done .stop)) .stop) .stop) .stop))))))))))))))))))))) (by kernel_rfl) fun w983 u984 => ?_
   have zu984 := u984.size
   refine go ?_
   have D986 := (D814.keep u984 (fun _ h => h))
   refine y_i i D986 (fun _ => ?_)
   refine go ?_
   have D988 := (D820.keep u984 (fun _ h => h))
   refine y_i c D988 (fun _ => ?_)
   refine go ?_
   refine y_i i D986 (fun _ => ?_)
   refine go ?_
   refine y_i c D988 (fun _ => ?_)
   refine go ?_
   refine y_indexArr (j := 3) (3) underlying89 sizeOf75 rfl rfl rfl rfl hxv (by decide) rfl ?_
   refine go ?_
   have D992 := (((D788.keep u794 (fun _ h => h)).keep u809 (fun hb => show ¬ (gd = bk768 ∨ w773.heap.size ≤ gd) by first | omega | assumption)).keep u984 (fun _ h => h))
   refine y_i i (D992.sl (fun _ => rfl)) (fun _ => ?_)
   refine go ?_
   refine s_or ?_ ?_
   ·
    refine go ?_
    refine x_l fun bk994 w995 ebk994 sbk994 B996 u997 => ?_
    refine go ?_
    have D999 := ((hA3.keep u984 (fun _ h => h)).keep u997 (fun _ h => h))
    refine t_append (z := .agg #[.int .i64 0, .int .i64 0, .int .i64 0, .int .i64 0]) (bytes := 32) (k := 4) (base := w773.heap.size) (nth ((List.range k).map (dtF TO)) i) underlying75 (by kernel_rfl) rfl (by decide) (fun _ => rfl) (by intro x; simp [encDty, Value.oneCell']) rfl rfl rfl rfl D999 B996 (by omega) (by omega) (by decide) (fun ao1000 gb1001 cp1002 w1003 A1004 u1005 gegb1001 lngb1001 => ?_)
    have zu1005 := u1005.size
    have lt_gb1001 := A1004.lt
    refine go ?_
    refine y_indexArr (j := 3) (3) underlying89 sizeOf75 rfl rfl rfl rfl hxv (by decide) rfl ?_
    refine go ?_
    refine x_s fun w1007 sw1007 B1009 u1008 => ?_
    refine go ?_
    have D1011 := ((((hA0.keep u984 (fun _ h => h)).keep u997 (fun _ h => h)).keep u1005 (fun _ => hds.n03)).keep u1008 (fun hb => show ¬ (e0.g = bk768) by first | omega | assumption))
    have D1012 := ((((hA1.keep u984 (fun _ h => h)).keep u997 (fun _ h => h)).keep u1005 (fun _ => hds.n13)).keep u1008 (fun hb => show ¬ (e1.g = bk768) by first | omega | assumption))
    have D1013 := ((((hA2.keep u984 (fun _ h => h)).keep u997 (fun _ h => h)).keep u1005 (fun _ => hds.n23)).keep u1008 (fun hb => show ¬ (e2.g = bk768) by first | omega | assumption))
    have D1014 := (A1004.keep u1008 (fun hb => show ¬ (gb1001 = bk768) by first | omega | assumption))
    exact hK807 (c + 1) e0 e1 e2 (⟨ao1000, gb1001, cp1002⟩ : HA) ⟨(by rw [hz0, hz1, hz2, hz3]; exact B1009), (by omega), (by rw [hz0]; exact D1011), (by rw [hz1]; exact D1012), (by rw [hz2]; exact D1013), (by rw [hz3]; exact D1014), (hds.put3 gegb1001 (by omega) (by omega) (by omega))⟩ (hu := ((((u809.nx u984).nx u997).next u1005 (fun i hi (h : (i = e3.g ∧ w773.heap.size ≤ i)) => show i = bk768 ∨ w773.heap.size ≤ i by first | omega | assumption)).next u1008 (fun i hi (h : i = bk768) => show i = bk768 ∨ w773.heap.size ≤ i by first | omega | assumption)))
   refine go ?_
   refine x_l fun bk1015 w1016 ebk1015 sbk1015 B1017 u1018 => ?_
   refine go ?_
   have D1020 := ((hA3.keep u984 (fun _ h => h)).keep u1018 (fun _ h => h))
   refine t_append (z := .agg #[.int .i64 0, .int .i64 0, .int .i64 0, .int .i64 0]) (bytes := 32) (k := 4) (base := w773.heap.size) (nth ((List.range k).map (dtF TO)) i) underlying75 (by kernel_rfl) rfl (by decide) (fun _ => rfl) (by intro x; simp [encDty, Value.oneCell']) rfl rfl rfl rfl D1020 B1017 (by omega) (by omega) (by decide) (fun ao1021 gb1022 cp1023 w1024 A1025 u1026 gegb1022 lngb1022 => ?_)
   have zu1026 := u1026.size
   have lt_gb1022 := A1025.lt
   refine go ?_
   refine y_indexArr (j := 3) (3) underlying89 sizeOf75 rfl rfl rfl rfl hxv (by decide) rfl ?_
   refine go ?_
   refine x_s fun w1028 sw1028 B1030 u1029 => ?_
   refine go ?_
   have D1032 := ((((hA0.keep u984 (fun _ h => h)).keep u1018 (fun _ h => h)).keep u1026 (fun _ => hds.n03)).keep u1029 (fun hb => show ¬ (e0.g = bk768) by first | omega | assumption))
   have D1033 := ((((hA1.keep u984 (fun _ h => h)).keep u1018 (fun _ h => h)).keep u1026 (fun _ => hds.n13)).keep u1029 (fun hb => show ¬ (e1.g = bk768) by first | omega | assumption))
   have D1034 := ((((hA2.keep u984 (fun _ h => h)).keep u1018 (fun _ h => h)).keep u1026 (fun _ => hds.n23)).keep u1029 (fun hb => show ¬ (e2.g = bk768) by first | omega | assumption))
   have D1035 := (A1025.keep u1029 (fun hb => show ¬ (gb1022 = bk768) by first | omega | assumption))
   exact hK807 (c + 1) e0 e1 e2 (⟨ao1021, gb1022, cp1023⟩ : HA) ⟨(by rw [hz0, hz1, hz2, hz3]; exact B1030), (by omega), (by rw [hz0]; exact D1032), (by rw [hz1]; exact D1033), (by rw [hz2]; exact D1034), (by rw [hz3]; exact D1035), (hds.put3 gegb1022 (by omega) (by omega) (by omega))⟩ (hu := ((((u809.nx u984).nx u1018).next u1026 (fun i hi (h : (i = e3.g ∧ w773.heap.size ≤ i)) => show i = bk768 ∨ w773.heap.size ≤ i by first | omega | assumption)).next u1029 (fun i hi (h : i = bk768) => show i = bk768 ∨ w773.heap.size ≤ i by first | omega | assumption)))
  refine go ?_
  have D1036 := ((D788.keep u794 (fun _ h => h)).keep u809 (fun hb => show ¬ (gd = bk768 ∨ w773.heap.size ≤ gd) by first | omega | assumption))
  refine g_i i (D1036.sl (fun _ => rfl)) (fun _ => ?_)
  refine go ?_
  have D1038 := (D798.keep u809 (fun hb => show ¬ (gl = bk768 ∨ w773.heap.size ≤ gl) by first | omega | assumption))
  refine g_i i (D1038.sl (fun _ => rfl)) (fun _ => ?_)
  refine go ?_
  refine t_storeA (vs := [.int .i64 ((nth ((List.range k).map (dtF TO)) i).bl), .int .i64 ((nth ((List.range k).map (dtF TO)) i).bh), .int .i64 ((nth ((List.range k).map (dtF TO)) i).el), .int .i64 ((nth ((List.range k).map (dtF TO)) i).eh)]) (j := i) (o' := 1) (k := 7) (lgF TO ys i) (fun _ => rfl) sizeOf77 rfl rfl (by omega) rfl D1038 (by first | omega | (simp only [List.length_set, eRuns_len]; omega)) rfl rfl (by decide) (by simp [Value.oneCell']) (by rw [hlgi, hdti]; rfl) (fun w1040 R1042 u1041 => ?_)
  have zu1041 := u1041.size
  refine go ?_
  have hce : c = (nth p i).length := by omega
  have hz0 : (dnU TO ys p 0 (i + 1) 0) = (dnU TO ys p 0 i c) := by rw [dnU_next (by omega), hce]
  have hz1 : (dnU TO ys p 1 (i + 1) 0) = (dnU TO ys p 1 i c) := by rw [dnU_next (by omega), hce]
  have hz2 : (dnU TO ys p 2 (i + 1) 0) = (dnU TO ys p 2 i c) := by rw [dnU_next (by omega), hce]
  have hz3 : (dnU TO ys p 3 (i + 1) 0) = (dnU TO ys p 3 i c) := by rw [dnU_next (by omega), hce]
  have B1044 := (I810.keep u1041 (by omega))
  have D1045 := (hA0.keep u1041 (fun hb => show ¬ (e0.g = gl) by first | omega | assumption))
  have D1046 := (hA1.keep u1041 (fun hb => show ¬ (e1.g = gl) by first | omega | assumption))
  have D1047 := (hA2.keep u1041 (fun hb => show ¬ (e2.g = gl) by first | omega | assumption))
  have D1048 := (hA3.keep u1041 (fun hb => show ¬ (e3.g = gl) by first | omega | assumption))
  exact hK780 (i + 1) e0 e1 e2 e3 ⟨(by rw [hz0, hz1, hz2, hz3]; exact B1044), (by omega), (by rw [hz0]; exact D1045), (by rw [hz1]; exact D1046), (by rw [hz2]; exact D1047), (by rw [hz3]; exact D1048), hds, (by rw [← lgM_set]; exact R1042)⟩ (hs := by exact ⟨(by first | (rw [lgM_len, lgM_len]; rfl) | rfl), rfl, rfl, rfl, rfl, rfl, rfl, trivial⟩) (hu := (((u782.nx u794).next u809 (fun i hi (h : i = bk768 ∨ w773.heap.size ≤ i) => show i = bk768 ∨ i = gl ∨ w773.heap.size ≤ i by first | omega | assumption)).next u1041 (fun i hi (h : i = gl) => show i = bk768 ∨ i = gl ∨ w773.heap.size ≤ i by first | omega | assumption)))
 have hik9 : i = k := by omega
 have hlme : (lgM TV TO ys k i) = ((List.range k).map (lgF TO ys)) := by rw [hik9]; exact lgM_all
 have hall0 : (dnU TO ys p 0 i 0) = dnL 0 ((List.range k).map (lgF TO ys)) p := by rw [hik9]; exact dnU_all hplk
 have hall1 : (dnU TO ys p 1 i 0) = dnL 1 ((List.range k).map (lgF TO ys)) p := by rw [hik9]; exact dnU_all hplk
 have hall2 : (dnU TO ys p 2 i 0) = dnL 2 ((List.range k).map (lgF TO ys)) p := by rw [hik9]; exact dnU_all hplk
 have hall3 : (dnU TO ys p 3 i 0) = dnL 3 ((List.range k).map (lgF TO ys)) p := by rw [hik9]; exact dnU_all hplk
 have hm1 : openE (⟨(30 + (x0 % 200)), (200 + (2 * x1)), (150 + (2 * x2)), 1440, (400 + (4 * x3))⟩ : Rul) ((List.replicate m hs0).map HS.slr) (lgM TV TO ys k i) = 0 := by rw [hlme]; exact h1
 have hm2 : planOk (⟨(30 + (x0 % 200)), (200 + (2 * x1)), (150 + (2 * x2)), 1440, (400 + (4 * x3))⟩ : Rul) (lgM TV TO ys k i) (((List.replicate m hs0).map HS.slr).map boardP) p := by rw [hlme]; exact hpok1
 have hm3 : verGo (⟨(30 + (x0 % 200)), (200 + (2 * x1)), (150 + (2 * x2)), 1440, (400 + (4 * x3))⟩ : Rul) (lgM TV TO ys k i) (p.map castL) (((List.replicate m hs0).map HS.slr).map boardP) 0 = -1 := by rw [hlme, ← hpe]; exact hvg9
 have hm4 : (asgP (⟨(30 + (x0 % 200)), (200 + (2 * x1)), (150 + (2 * x2)), 1440, (400 + (4 * x3))⟩ : Rul) (lgM TV TO ys k i) (((List.replicate m hs0).map HS.slr).map boardP) 0 0).1 ≠ none := by rw [hlme]; exact hno9
 refine go ?_
 refine x_l1 (fun _ => False) [7, 13, 24, 26, 31] (fun (q : Nat) => [(34, .int .i64 (q : Int))]) (fun q w => (q ≤ m)) (fun q => m - q) 0 (Nat.zero_le _) ?_
 rintro q w1052 hq u1053 zu1053 K1051 hK1051
 refine go ?_
 refine q_p (fun g458 => ?_) fun g458 => ?_
 ·
  refine go ?_
  rcases (show q = 0 ∨ q = 1 ∨ q = 2 ∨ q = 3 by omega) with hm0 | hm0 | hm0 | hm0
  ·
   have hqv : (q : Int) = 0 := by omega
   refine c_drawnM follows (fun _ => False) (OTl [0, 2, 4, 6, 9, 10, 12, 14, 16, 18, 20, 22, 24, 26]) (by kernel_rfl) fun w1059 u1060 => ?_
   have zu1060 := u1060.size
   refine go ?_
   refine y_indexArr (j := 0) (0) underlying89 sizeOf75 rfl rfl rfl rfl hqv (by decide) rfl ?_
   refine go ?_
   have D1062 := ((hA0.keep u1053 (fun _ h => h)).keep u1060 (fun _ h => h))
   refine x_c func21 rfl rfl (Rested_c (⟨(30 + (x0 % 200)), (200 + (2 * x1)), (150 + (2 * x2)), 1440, (400 + (4 * x3))⟩ : Rul) (dnU TO ys p 0 i 0) e0.ao e0.g 0 e0.cp _ (D1062.sl (fun _ => rfl)) (by have := dnU_len (T := TO) (ys := ys) (p := p) (j := 0) (i := i) (c := 0); omega) (by omega)) ?_
   rintro _ w1064 ⟨⟨at9, ru9, po9, er9, rfl, hR9⟩, u1065⟩ zu1065
   obtain ⟨rfl, rfl, rfl⟩ := rested_ok hrul (by have := dnU_len (T := TO) (ys := ys) (p := p) (j := 0) (i := i) (c := 0); omega) (by rw [hall0]; exact dn_exact hokO9 (fun b hb => (hTi b (by omega)).2.1)) (by rw [hall0]; exact hbr9 0 (by rw [List.length_map, html]; omega)) hR9
   refine go ?_
   exact hK1051 (q + 1) (by omega)
  ·
   have hqv : (q : Int) = 1 := by omega
   refine c_drawnM follows (fun _ => False) (OTl [0, 2, 4, 6, 9, 10, 12, 14, 16, 18, 20, 22, 24, 26]) (by kernel_rfl) fun w1069 u1070 => ?_
   have zu1070 := u1070.size
   refine go ?_
   refine y_indexArr (j := 1) (1) underlying89 sizeOf75 rfl rfl rfl rfl hqv (by decide) rfl ?_
   refine go ?_
   have D1072 := ((hA1.keep u1053 (fun _ h => h)).keep u1070 (fun _ h => h))
   refine x_c func21 rfl rfl (Rested_c (⟨(30 + (x0 % 200)), (200 + (2 * x1)), (150 + (2 * x2)), 1440, (400 + (4 * x3))⟩ : Rul) (dnU TO ys p 1 i 0) e1.ao e1.g 0 e1.cp _ (D1072.sl (fun _ => rfl)) (by have := dnU_len (T := TO) (ys := ys) (p := p) (j := 1) (i := i) (c := 0); omega) (by omega)) ?_
   rintro _ w1074 ⟨⟨at9, ru9, po9, er9, rfl, hR9⟩, u1075⟩ zu1075
   obtain ⟨rfl, rfl, rfl⟩ := rested_ok hrul (by have := dnU_len (T := TO) (ys := ys) (p := p) (j := 1) (i := i) (c := 0); omega) (by rw [hall1]; exact dn_exact hokO9 (fun b hb => (hTi b (by omega)).2.1)) (by rw [hall1]; exact hbr9 1 (by rw [List.length_map, html]; omega)) hR9
   refine go ?_
   exact hK1051 (q + 1) (by omega)
  ·
   have hqv : (q : Int) = 2 := by omega
   refine c_drawnM follows (fun _ => False) (OTl [0, 2, 4, 6, 9, 10, 12, 14, 16, 18, 20, 22, 24, 26]) (by kernel_rfl) fun w1079 u1080 => ?_
   have zu1080 := u1080.size
   refine go ?_
   refine y_indexArr (j := 2) (2) underlying89 sizeOf75 rfl rfl rfl rfl hqv (by decide) rfl ?_
   refine go ?_
   have D1082 := ((hA2.keep u1053 (fun _ h => h)).keep u1080 (fun _ h => h))
   refine x_c func21 rfl rfl (Rested_c (⟨(30 + (x0 % 200)), (200 + (2 * x1)), (150 + (2 * x2)), 1440, (400 + (4 * x3))⟩ : Rul) (dnU TO ys p 2 i 0) e2.ao e2.g 0 e2.cp _ (D1082.sl (fun _ => rfl)) (by have := dnU_len (T := TO) (ys := ys) (p := p) (j := 2) (i := i) (c := 0); omega) (by omega)) ?_
   rintro _ w1084 ⟨⟨at9, ru9, po9, er9, rfl, hR9⟩, u1085⟩ zu1085
   obtain ⟨rfl, rfl, rfl⟩ := rested_ok hrul (by have := dnU_len (T := TO) (ys := ys) (p := p) (j := 2) (i := i) (c := 0); omega) (by rw [hall2]; exact dn_exact hokO9 (fun b hb => (hTi b (by omega)).2.1)) (by rw [hall2]; exact hbr9 2 (by rw [List.length_map, html]; omega)) hR9
   refine go ?_
   exact hK1051 (q + 1) (by omega)
  have hqv : (q : Int) = 3 := by omega
  refine c_drawnM follows (fun _ => False) (OTl [0, 2, 4, 6, 9, 10, 12, 14, 16, 18, 20, 22, 24, 26]) (by kernel_rfl) fun w1089 u1090 => ?_
  have zu1090 := u1090.size
  refine go ?_
  refine y_indexArr (j := 3) (3) underlying89 sizeOf75 rfl rfl rfl rfl hqv (by decide) rfl ?_
  refine go ?_
  have D1092 := ((hA3.keep u1053 (fun _ h => h)).keep u1090 (fun _ h => h))
  refine x_c func21 rfl rfl (Rested_c (⟨(30 + (x0 % 200)), (200 + (2 * x1)), (150 + (2 * x2)), 1440, (400 + (4 * x3))⟩ : Rul) (dnU TO ys p 3 i 0) e3.ao e3.g 0 e3.cp _ (D1092.sl (fun _ => rfl)) (by have := dnU_len (T := TO) (ys := ys) (p := p) (j := 3) (i := i) (c := 0); omega) (by omega)) ?_
  rintro _ w1094 ⟨⟨at9, ru9, po9, er9, rfl, hR9⟩, u1095⟩ zu1095
  obtain ⟨rfl, rfl, rfl⟩ := rested_ok hrul (by have := dnU_len (T := TO) (ys := ys) (p := p) (j := 3) (i := i) (c := 0); omega) (by rw [hall3]; exact dn_exact hokO9 (fun b hb => (hTi b (by omega)).2.1)) (by rw [hall3]; exact hbr9 3 (by rw [List.length_map, html]; omega)) hR9
  refine go ?_
  exact hK1051 (q + 1) (by omega)
 refine go ?_
 refine c_drawnM follows (fun _ => False) (OTl [0, 2, 6, 10, 5, 9, 13, 14, 16, 18, 20, 22]) (by kernel_rfl) fun w1100 u1101 => ?_
 have zu1101 := u1101.size
 refine go ?_
 refine x_l fun bk1103 w1104 ebk1103 sbk1103 B1105 u1106 => ?_
 refine go ?_
 have D1108 := (((hlgM.keep u1053 (fun _ h => h)).keep u1101 (fun _ h => h)).keep u1106 (fun _ h => h))
 refine t_copy (enc := encLeg) (z := .agg #[.int .i64 0, .int .i64 0, .int .i64 0, .int .i64 0, .int .i64 0, .int .i64 0, .int .i64 0]) (bytes := 56) (k := 7) (ys := (lgM TV TO ys k i)) underlying74 (by kernel_rfl) rfl (by decide) (fun _ => rfl) (by intro x; simp [encLeg, Value.oneCell']) rfl rfl rfl rfl B1105 (D1108.sl (fun _ => rfl)) (by omega) (by decide) (fun ao1109 gb1110 cp1111 w1112 A1113 u1114 gegb1110 => ?_)
 have zu1114 := u1114.size
 have lt_gb1110 := A1113.lt
 refine go ?_
 have D1116 := (((((((hpl.keep u771 (fun _ h => h)).keep u774 (fun h9 => show ¬ (gp = bk768) by omega)).keep u782 (fun h9 => show ¬ (gp = bk768 ∨ gp = gl ∨ w773.heap.size ≤ gp) by omega)).keep u1053 (fun _ h => h)).keep u1101 (fun _ h => h)).keep u1106 (fun _ h => h)).keep u1114 (fun h9 => show ¬ ((gp = bk1103 ∧ bk1103 ≤ gp)) by omega))
 have hrows9 : Sc (fun i => i = bk768 ∨ i = gl ∨ w773.heap.size ≤ i) w719 w1112 := ⟨((((((((Upd.refl (fun i => i = bk768 ∨ i = gl ∨ w773.heap.size ≤ i) _).nx u771).next u774 (fun i hi (h : i = bk768) => show i = bk768 ∨ i = gl ∨ w773.heap.size ≤ i by omega)).next u782 (fun i hi (h : i = bk768 ∨ i = gl ∨ w773.heap.size ≤ i) => show i = bk768 ∨ i = gl ∨ w773.heap.size ≤ i by omega)).nx u1053).nx u1101).nx u1106).next u1114 (fun i hi (h : (i = bk1103 ∧ bk1103 ≤ i)) => show i = bk768 ∨ i = gl ∨ w773.heap.size ≤ i by omega))⟩
 have hmap9 : (rows.map HRK.hl).map HL.xs = p.map castL := by rw [List.map_map]; exact hpe
 have hmem9 : ∀ h ∈ rows.map HRK.hl, Sl encI 1 w1112 h.ao h.b h.o h.xs ∧ h.xs.length ≤ 1000000 := fun h hh => by
   obtain ⟨y, hy9, rfl⟩ := List.mem_map.1 hh
   refine ⟨(hpr y hy9).keep hrows9.u (fun h8 h7 => ?_), hrlen y hy9⟩
   have h6 := (hpr y hy9).lt h8
   have h5 := hpg.2 y hy9 (fun e => by have e9 : y.xs = [] := e; have h8 : 0 < y.xs.length := h8; rw [e9] at h8; exact absurd h8 (Nat.lt_irrefl 0))
   omega
 have D1117 := (((((((D763.keep u771 (fun _ h => h)).keep u774 (fun hb => show ¬ (gt = bk768) by first | omega | assumption)).keep u782 (fun hb => show ¬ (gt = bk768 ∨ gt = gl ∨ w773.heap.size ≤ gt) by first | omega | assumption)).keep u1053 (fun _ h => h)).keep u1101 (fun _ h => h)).keep u1106 (fun _ h => h)).keep u1114 (fun hb => show ¬ ((gt = bk1103 ∧ bk1103 ≤ gt)) by first | omega | assumption))
 have hver9 := (Verify_c (⟨(30 + (x0 % 200)), (200 + (2 * x1)), (150 + (2 * x2)), 1440, (400 + (4 * x3))⟩ : Rul) (List.replicate m hs0) at_ gt 0 ct (lgM TV TO ys k i) ao1109 gb1110 0 cp1111 (rows.map HRK.hl) ap gp 0 cp _ (D1117.sl (fun _ => rfl)) (by rw [html]; omega) tmL_mem (A1113.sl (fun _ => rfl)) (by omega) (Sl.hl D1116) (by rw [List.length_map]; omega) hmem9 (by omega))
 rw [List.length_map] at hver9
 refine x_c func22 rfl rfl hver9 ?_
 rintro _ w1119 ⟨⟨v8, e8, rfl, hVR⟩, u1120⟩ zu1120
 rw [hmap9] at hVR
 obtain ⟨rfl, rfl⟩ := ver_zero hm1 hm2 hm3 hVR
 refine go ?_
 have D1124 := (D1117.keep u1120 (fun _ h => h))
 have D1125 := ((D1108.keep u1114 (fun hb => show ¬ ((gl = bk1103 ∧ bk1103 ≤ gl)) by first | omega | assumption)).keep u1120 (fun _ h => h))
 refine x_c func19 rfl rfl (Plan_c (⟨(30 + (x0 % 200)), (200 + (2 * x1)), (150 + (2 * x2)), 1440, (400 + (4 * x3))⟩ : Rul) (List.replicate m hs0) at_ gt 0 ct (lgM TV TO ys k i) al gl 0 cl _ (D1124.sl (fun _ => rfl)) (by rw [html]; omega) tmL_mem (D1125.sl (fun _ => rfl)) (by omega) (D1125).cap_le (by omega)) ?_
 rintro _ w1127 ⟨⟨ap2, gp2, cp2, rows2, up2, er2, rfl, hpl2, hpr2, hpg2, hPR2⟩, u1128⟩ zu1128
 obtain rfl := plan_zero hPR2 hm1 hm4
 refine go ?_
 refine x_c func18 rfl rfl (moorRests_c _) ?_
 rintro _ w1133 ⟨rfl, u1134⟩ zu1134
 refine go ?_
 refine x_c func16 rfl rfl (moorStops_c _) ?_
 rintro _ w1138 ⟨rfl, u1139⟩ zu1139
 refine go ?_
 refine f_1 results5 ?_
 have h9E := (((((((((((hEr.u.nx u771).next u774 (fun i hi h => by omega)).next u782 (fun i hi (h : i = bk768 ∨ i = gl ∨ w773.heap.size ≤ i) => show False by first | omega | assumption)).nx u1053).nx u1101).nx u1106).next u1114 (fun i hi h => by omega)).nx u1120).nx u1128).nx u1134).nx u1139)
 exact ⟨rfl, h9E⟩

end Go.Proofs.YtclinbbghnebaaaGreat
