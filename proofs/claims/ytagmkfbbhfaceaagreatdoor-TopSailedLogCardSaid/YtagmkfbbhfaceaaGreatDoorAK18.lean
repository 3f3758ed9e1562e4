/-
  Part 18 of the proof: contracts and plain laws. Conditions: none.
-/
import Derived.Test.YtagmkfbbhfaceaaGreatDoorRows
import Derived.Handed
import Derived.LaidLaws
import Derived.Lib.LaidTab
import Derived.Test.YtagmkfbbhfaceaaGreatDoorAK17
namespace Go.Proofs.YtagmkfbbhfaceaaGreatDoor
open Go Go.RowKit Go.Proofs.Tryz
set_option maxRecDepth 10000
set_option maxHeartbeats 4000000 in
set_option maxRecDepth 20000 in
theorem TopSailedLog_c (v : Voy) (ao : Option Addr) (b o cap : Nat) (tn at9 : Int) (w0 : World) (hs : Sl encRun 6 w0 ao b o v.runs) (hl : v.runs.length ≤ 9223372036854775807) (htn : 0 ≤ tn ∧ tn ≤ 65535) (hat : 0 ≤ at9 ∧ at9 ≤ 255) (hT : Tab10 w0) (hpos : 0 < w0.heap.size) :
    CallsV Tryz.prog 4 [.agg #[.int .i64 v.st.lo, .int .i64 v.st.hi, .slice ao ((v.runs).length) cap, .int .i64 v.len, .int .i64 v.wid], .int .u16 tn, .int .u8 at9] w0 (fun x w' => x = .bool true ∧ Ext w0 w') := by
 refine f_n func4 ?_
 refine go ?_
 refine x_b fun bk2 w3 ebk2 sbk2 B4 u5 => ?_
 have E6 := Sc.mk ((Upd.refl (fun _ => False) w0).nx u5)
 refine go ?_
 refine t_rem8 rfl rfl rfl rfl (by omega) (by omega) ?_
 iterate 5 refine st1 ?_
 refine x_k1 (fun _ => False) [1, 2, 3, 7] (fun (z9 : Bool) => [(46, .bool z9)]) (fun z9 w => (z9 = decide (v.runs.length < 1 ∨ 20 < v.runs.length ∨ chk v ≠ 0))) (fun K13 hK13 => ?_) ?_
 ·
  refine go ?_
  refine t_splitp 35 rfl (fun g35 => ?_) (fun g35 => ?_)
  ·
   refine go ?_
   exact hK13 true (by first | exact (decide_eq_false (by omega)).symm | exact (decide_eq_true (by omega)).symm | exact decide_eq_decide.2 (by omega))
  refine go ?_
  refine t_splitp 41 rfl (fun g41 => ?_) (fun g41 => ?_)
  ·
   refine go ?_
   exact hK13 true (by first | exact (decide_eq_false (by omega)).symm | exact (decide_eq_true (by omega)).symm | exact decide_eq_decide.2 (by omega))
  refine go ?_
  refine x_c func16 rfl rfl (haulVoyage_c v ao b o cap _ (hs.keep E6.u (fun _ h => h)) (by omega) (by omega)) ?_
  rintro _ w18 ⟨⟨ah16, gh16, ch16, rfl, hFh16⟩, u19⟩ zu19
  have lt_gh16 := hFh16.lt
  refine x_c func15 rfl rfl (Check_c v ah16 gh16 0 ch16 _ (hFh16.sl (fun _ => rfl)) (by omega)) ?_
  rintro _ w23 ⟨rfl, u24⟩ zu24
  refine go ?_
  exact hK13 (decide ((chk v) ≠ 0)) (by first | exact (decide_eq_false (by omega)).symm | exact (decide_eq_true (by omega)).symm | exact decide_eq_decide.2 (by omega))
 rintro z9 w14 hz9 u15 zu15
 have E27 := Sc.mk (E6.u.nx u15)
 refine q_b (fun g46 => ?_) fun g46 => ?_
 ·
  have hzb : (v.runs.length < 1 ∨ 20 < v.runs.length ∨ chk v ≠ 0) := by rw [hz9] at g46; exact of_decide_eq_true g46
  refine go ?_
  refine x_c func17 rfl rfl (knownRiver_c _) ?_
  rintro _ w30 ⟨rfl, u31⟩ zu31
  refine go ?_
  refine x_c func8 rfl rfl (knownLogs_c _ (hT.ext (E27.u.nx u31)) (by omega)) ?_
  rintro _ w35 ⟨rfl, u36⟩ zu36
  refine go ?_
  refine f_1 results4 ?_
  exact ⟨rfl, u_d⟩
 have hzb : ¬ (v.runs.length < 1 ∨ 20 < v.runs.length ∨ chk v ≠ 0) := by rw [hz9] at g46; exact of_decide_eq_false g46
 have hn20 : 1 ≤ v.runs.length ∧ v.runs.length ≤ 20 := by omega
 have hok : okVoy v = true := okVoy_of (by omega)
 have hfr := frst_rng hok
 have hlr := lst_rng hok
 have hbl := hs.lt (by omega)
 have hmul := mul_range (a := (1 + tn)) (m := 65536) (b := (max (lst v - frst v) (frst v - lst v))) (n := 100000) (by omega) (by omega)
 refine go ?_
 refine c_drawnM follows (fun _ => False) (OTl [0, 2, 4, 6, 8, 10, 12, 14, 16, 18, 20, 22, 24, 26, 28, 30]) (by kernel_rfl) fun w40 u41 => ?_
 have zu41 := u41.size
 have E42 := Sc.mk (E27.u.nx u41)
 refine go ?_
 refine y_i 0 (hs.keep E42.u (fun _ h => h)) (fun _ => ?_)
 iterate 2 refine st1 ?_
 refine y_same 55 (v := .int .i64 (frst v)) rfl (congrArg (Value.int .i64) (frst_eq (by omega)).symm) ?_
 refine go ?_
 refine y_i (v.runs.length - 1) (hs.keep E42.u (fun _ h => h)) (fun _ => ?_)
 iterate 2 refine st1 ?_
 refine y_same 64 (v := .int .i64 (lst v)) rfl (congrArg (Value.int .i64) (lst_eq (by omega)).symm) ?_
 refine go ?_
 refine t_conv underlying57 underlying3 rfl rfl rfl (IntWalk.i64_in _ (by omega)) ?_
 refine go ?_
 refine x_l fun bk46 w47 ebk46 sbk46 B48 u49 => ?_
 refine go ?_
 refine x_l4 (fun i => i = bk46 ∨ w47.heap.size ≤ i) [1, 2, 3, 7, 8, 9] (fun (i : Nat) (a8 : Option Addr) (g8 : Nat) (c8 : Nat) => [(10, .slice a8 ((vlog (decide (at9 % 2 = 1)) v (1 + tn) i).length) c8), (11, .int .i64 (i : Int))]) (fun i a8 g8 c8 w => (i ≤ v.runs.length) ∧ (Acc encEnt 6 41 bk46 w a8 g8 c8 (vlog (decide (at9 % 2 = 1)) v (1 + tn) i)) ∧ (g8 = bk46 ∨ w47.heap.size ≤ g8) ∧ (∀ x ∈ (sailsR (decide (at9 % 2 = 1)) v.st v.runs).take i, x.m ≤ 1000000)) (fun i a8 g8 c8 => v.runs.length - i) 0 (some ⟨bk46, 0, none⟩) bk46 2 ⟨(Nat.zero_le _), (Acc.ofBlk (xs := (vlog (decide (at9 % 2 = 1)) v (1 + tn) 0)) encEnt 6 (fun _ => rfl) B48 (Nat.le_refl _) (by show 2 ≤ 1000000; decide)), (.inl rfl), (fun x hx => absurd hx (by simp))⟩ ?_
 rintro i a8 g8 c8 w54 ⟨hi, hA, hgW, hmx⟩ u55 zu55 K53 hK53
 have E56 := Sc.mk ((E42.u.nx u49).next u55 (fun i hi h => by omega))
 have lt_g8 := hA.lt
 have hvl := vlog_len (late := (decide (at9 % 2 = 1))) (v := v) (T := (1 + tn)) hi
 have hgl := hA.lt
 refine go ?_
 refine q_p (fun g76 => ?_) fun g76 => ?_
 ·
  have har := voy_arr hok (i := i) (by omega)
  refine go ?_
  refine c_drawnM follows (fun _ => False) (.look 0 (.look 2 (.look 3 (.look 4 (.look 5 (.look 6 (.look 7 (.act 1 (.act 8 (.look 9 (.look 10 (.look 11 (.act 12 (.act 13 (.look 14 .done) .stop) .stop)))) (.act 12 (.act 8 (.look 9 (.look 10 (.look 11 (.act 13 (.look 14 .done) .stop)))) .stop) .stop)) (.act 12 (.act 1 (.act 8 (.look 9 (.look 10 (.look 11 (.act 13 (.look 14 .done) .stop)))) .stop) .stop) .stop))))))))) (by kernel_rfl) fun w61 u62 => ?_
  have zu62 := u62.size
  have E63 := Sc.mk (E56.u.nx u62)
  refine go ?_
  refine y_i i (hs.keep E63.u (fun _ h => h)) (fun _ => ?_)
  refine go ?_
  refine s_or ?_ ?_
  ·
   refine go ?_
   refine x_c func16 rfl rfl (haulVoyage_c v ao b o cap _ (hs.keep E63.u (fun _ h => h)) (by omega) (by omega)) ?_
   rintro _ w67 ⟨⟨ah65, gh65, ch65, rfl, hFh65⟩, u68⟩ zu68
   have E70 := Sc.mk (E63.u.nx u68)
   have lt_gh65 := hFh65.lt
   refine go ?_
   refine s_or ?_ ?_
   ·
    refine go ?_
    refine x_c func18 rfl rfl (Arrive_c v ah65 gh65 0 ch65 ((nth v.runs i).to) _ (hFh65.sl (fun _ => rfl)) (by omega)) ?_
    rintro _ w72 ⟨rfl, u73⟩ zu73
    iterate 3 refine st1 ?_
    refine y_same 89 (v := .agg #[.int .i64 ((tmR (i + 1) v.runs v.st).lo), .int .i64 ((tmR (i + 1) v.runs v.st).hi)]) rfl (congrArg (fun x : Bnd => Value.agg #[.int .i64 x.lo, .int .i64 x.hi]) har.1) ?_
    refine st1 ?_
    refine y_same 90 (v := .int .i64 0) rfl (congrArg (Value.int .i64) har.2) ?_
    refine go ?_
    refine x_n fun bk76 w77 ebk76 sbk76 B78 u79 => ?_
    refine go ?_
    refine x_s fun w81 sw81 B83 u82 => ?_
    have E84 := Sc.mk (((E70.u.nx u73).nx u79).next u82 (fun i hi h => by omega))
    refine go ?_
    refine q_p (fun g95 => ?_) fun g95 => ?_
    ·
     have hpk : pk (decide (at9 % 2 = 1)) (tmR (i + 1) v.runs v.st) = (tmR (i + 1) v.runs v.st).hi := by unfold pk; rw [if_pos (decide_eq_true g95)]
     iterate 10 refine st1 ?_
     refine t_same 98 (v := .int .i64 (pk (decide (at9 % 2 = 1)) (tmR (i + 1) v.runs v.st))) rfl (congrArg (Value.int .i64) hpk.symm) ?_
     refine go ?_
     refine q_p (fun g99 => ?_) fun g99 => ?_
     ·
      refine go ?_
      refine x_c func17 rfl rfl (knownRiver_c _) ?_
      rintro _ w94 ⟨rfl, u95⟩ zu95
      refine go ?_
      refine x_c func8 rfl rfl (knownLogs_c _ (hT.ext (E84.u.nx u95)) (by omega)) ?_
      rintro _ w99 ⟨rfl, u100⟩ zu100
      refine go ?_
      refine f_1 results4 ?_
      exact ⟨rfl, u_d⟩
     iterate 5 refine st1 ?_
     refine t_same 105 (v := .int .i64 (pk (decide (at9 % 2 = 1)) (tmR (i + 1) v.runs v.st))) rfl (congrArg (Value.int .i64) hpk.symm) ?_
     refine go ?_
     refine g_i i (hs.keep E84.u (fun _ h => h)) (fun _ => ?_)
     refine go ?_
     refine x_l fun bk104 w105 ebk104 sbk104 B106 u107 => ?_
     have D109 := ((((((hA.keep u62 (fun _ h => h)).keep u68 (fun _ h => h)).keep u73 (fun _ h => h)).keep u79 (fun _ h => h)).keep u82 (fun hb => show ¬ (g8 = bk76) by first | omega | assumption)).keep u107 (fun _ h => h))
     refine t_append (z := .agg #[.int .i64 0, .int .i64 0, .int .i64 0, .int .i64 0, .int .i64 0, .int .i64 0]) (bytes := 48) (k := 6) (base := bk46) (sailE (pk (decide (at9 % 2 = 1)) (tmR (i + 1) v.runs v.st)) (nth v.runs i).to) underlying22 (by kernel_rfl) rfl (by decide) (fun _ => rfl) (by intro x; simp [encEnt, Value.oneCell']) rfl rfl rfl rfl D109 B106 (by omega) (by omega) (by decide) (fun ao110 gb111 cp112 w113 A114 u115 gegb111 lngb111 => ?_)
     have zu115 := u115.size
     have lt_gb111 := A114.lt
     refine go ?_
     exact hK53 (i + 1) ao110 gb111 cp112 ⟨(by omega), (by rw [vlog_next (by omega)]; exact A114), (show gb111 = bk46 ∨ w47.heap.size ≤ gb111 by omega), (mx_next (by omega) hmx (by omega))⟩ (hs := by exact ⟨(by rw [vlog_next (by omega)]; rfl), rfl, rfl, rfl, rfl, rfl, rfl, rfl, trivial⟩)
    have hpk : pk (decide (at9 % 2 = 1)) (tmR (i + 1) v.runs v.st) = (tmR (i + 1) v.runs v.st).lo := by unfold pk; rw [if_neg (fun h => g95 (of_decide_eq_true h))]
    iterate 6 refine st1 ?_
    refine t_same 98 (v := .int .i64 (pk (decide (at9 % 2 = 1)) (tmR (i + 1) v.runs v.st))) rfl (congrArg (Value.int .i64) hpk.symm) ?_
    refine go ?_
    refine q_p (fun g99 => ?_) fun g99 => ?_
    ·
     refine go ?_
     refine x_c func17 rfl rfl (knownRiver_c _) ?_
     rintro _ w121 ⟨rfl, u122⟩ zu122
     refine go ?_
     refine x_c func8 rfl rfl (knownLogs_c _ (hT.ext (E84.u.nx u122)) (by omega)) ?_
     rintro _ w126 ⟨rfl, u127⟩ zu127
     refine go ?_
     refine f_1 results4 ?_
     exact ⟨rfl, u_d⟩
    iterate 5 refine st1 ?_
    refine t_same 105 (v := .int .i64 (pk (decide (at9 % 2 = 1)) (tmR (i + 1) v.runs v.st))) rfl (congrArg (Value.int .i64) hpk.symm) ?_
    refine go ?_
    refine g_i i (hs.keep E84.u (fun _ h => h)) (fun _ => ?_)
    refine go ?_
    refine x_l fun bk131 w132 ebk131 sbk131 B133 u134 => ?_
    have D136 := ((((((hA.keep u62 (fun _ h => h)).keep u68 (fun _ h => h)).keep u73 (fun _ h => h)).keep u79 (fun _ h => h)).keep u82 (fun hb => show ¬ (g8 = bk76) by first | omega | assumption)).keep u134 (fun _ h => h))
    refine t_append (z := .agg #[.int .i64 0, .int .i64 0, .int .i64 0, .int .i64 0, .int .i64 0, .int .i64 0]) (bytes := 48) (k := 6) (base := bk46) (sailE (pk (decide (at9 % 2 = 1)) (tmR (i + 1) v.runs v.st)) (nth v.runs i).to) underlying22 (by kernel_rfl) rfl (by decide) (fun _ => rfl) (by intro x; simp [encEnt, Value.oneCell']) rfl rfl rfl rfl D136 B133 (by omega) (by omega) (by decide) (fun ao137 gb138 cp139 w140 A141 u142 gegb138 lngb138 => ?_)
    have zu142 := u142.size
    have lt_gb138 := A141.lt
    refine go ?_
    exact hK53 (i + 1) ao137 gb138 cp139 ⟨(by omega), (by rw [vlog_next (by omega)]; exact A141), (show gb138 = bk46 ∨ w47.heap.size ≤ gb138 by omega), (mx_next (by omega) hmx (by omega))⟩ (hs := by exact ⟨(by rw [vlog_next (by omega)]; rfl), rfl, rfl, rfl, rfl, rfl, rfl, rfl, trivial⟩)
   refine go ?_
   refine x_n fun bk144 w145 ebk144 sbk144 B146 u147 => ?_
   refine go ?_
   have D149 := (hFh65.keep u147 (fun _ h => h))
   refine x_c func18 rfl rfl (Arrive_c v ah65 gh65 0 ch65 ((nth v.runs i).to) _ (D149.sl (fun _ => rfl)) (by omega)) ?_
   rintro _ w151 ⟨rfl, u152⟩ zu152
   iterate 3 refine st1 ?_
   refine y_same 89 (v := .agg #[.int .i64 ((tmR (i + 1) v.runs v.st).lo), .int .i64 ((tmR (i + 1) v.runs v.st).hi)]) rfl (congrArg (fun x : Bnd => Value.agg #[.int .i64 x.lo, .int .i64 x.hi]) har.1) ?_
   refine st1 ?_
   refine y_same 90 (v := .int .i64 0) rfl (congrArg (Value.int .i64) har.2) ?_
   refine go ?_
   refine x_s fun w155 sw155 B157 u156 => ?_
   have E158 := Sc.mk (((E70.u.nx u147).nx u152).next u156 (fun i hi h => by omega))
   refine go ?_
   refine q_p (fun g95 => ?_) fun g95 => ?_
   ·
    have hpk : pk (decide (at9 % 2 = 1)) (tmR (i + 1) v.runs v.st) = (tmR (i + 1) v.runs v.st).hi := by unfold pk; rw [if_pos (decide_eq_true g95)]
    iterate 10 refine st1 ?_
    refine t_same 98 (v := .int .i64 (pk (decide (at9 % 2 = 1)) (tmR (i + 1) v.runs v.st))) rfl (congrArg (Value.int .i64) hpk.symm) ?_
    refine go ?_
    refine q_p (fun g99 => ?_) fun g99 => ?_
    ·
     refine go ?_
     refine x_c func17 rfl rfl (knownRiver_c _) ?_
     rintro _ w168 ⟨rfl, u169⟩ zu169
     refine go ?_
     refine x_c func8 rfl rfl (knownLogs_c _ (hT.ext (E158.u.nx u169)) (by omega)) ?_
     rintro _ w173 ⟨rfl, u174⟩ zu174
     refine go ?_
     refine f_1 results4 ?_
     exact ⟨rfl, u_d⟩
    iterate 5 refine st1 ?_
    refine t_same 105 (v := .int .i64 (pk (decide (at9 % 2 = 1)) (tmR (i + 1) v.runs v.st))) rfl (congrArg (Value.int .i64) hpk.symm) ?_
    refine go ?_
    refine g_i i (hs.keep E158.u (fun _ h => h)) (fun _ => ?_)
    refine go ?_
    refine x_l fun bk178 w179 ebk178 sbk178 B180 u181 => ?_
    have D183 := ((((((hA.keep u62 (fun _ h => h)).keep u68 (fun _ h => h)).keep u147 (fun _ h => h)).keep u152 (fun _ h => h)).keep u156 (fun hb => show ¬ (g8 = bk144) by first | omega | assumption)).keep u181 (fun _ h => h))
    refine t_append (z := .agg #[.int .i64 0, .int .i64 0, .int .i64 0, .int .i64 0, .int .i64 0, .int .i64 0]) (bytes := 48) (k := 6) (base := bk46) (sailE (pk (decide (at9 % 2 = 1)) (tmR (i + 1) v.runs v.st)) (nth v.runs i).to) underlying22 (by kernel_rfl) rfl (by decide) (fun _ => rfl) (by intro x; simp [encEnt, Value.oneCell']) rfl rfl rfl rfl D183 B180 (by omega) (by omega) (by decide) (fun ao184 gb185 cp186 w187 A188 u189 gegb185 lngb185 => ?_)
    have zu189 := u189.size
    have lt_gb185 := A188.lt
    refine go ?_
    exact hK53 (i + 1) ao184 gb185 cp186 ⟨(by omega), (by rw [vlog_next (by omega)]; exact A188), (show gb185 = bk46 ∨ w47.heap.size ≤ gb185 by omega), (mx_next (by omega) hmx (by omega))⟩ (hs := by exact ⟨(by rw [vlog_next (by omega)]; rfl), rfl, rfl, rfl, rfl, rfl, rfl, rfl, trivial⟩)
   have hpk : pk (decide (at9 % 2 = 1)) (tmR (i + 1) v.runs v.st) = (tmR (i + 1) v.runs v.st).lo := by unfold pk; rw [if_neg (fun h => g95 (of_decide_eq_true h))]
   iterate 6 refine st1 ?_
   refine t_same 98 (v := .int .i64 (pk (decide (at9 % 2 = 1)) (tmR (i + 1) v.runs v.st))) rfl (congrArg (Value.int .i64) hpk.symm) ?_
   refine go ?_
   refine q_p (fun g99 => ?_) fun g99 => ?_
   ·
    refine go ?_
    refine x_c func17 rfl rfl (knownRiver_c _) ?_
    rintro _ w195 ⟨rfl, u196⟩ zu196
    refine go ?_
    refine x_c func8 rfl rfl (knownLogs_c _ (hT.ext (E158.u.nx u196)) (by omega)) ?_
    rintro _ w200 ⟨rfl, u201⟩ zu201
    refine go ?_
    refine f_1 results4 ?_
    exact ⟨rfl, u_d⟩
   iterate 5 refine st1 ?_
   refine t_same 105 (v := .int .i64 (pk (decide (at9 % 2 = 1)) (tmR (i + 1) v.runs v.st))) rfl (congrArg (Value.int .i64) hpk.symm) ?_
   refine go ?_
   refine g_i i (hs.keep E158.u (fun _ h => h)) (fun _ => ?_)
   refine go ?_
   refine x_l fun bk205 w206 ebk205 sbk205 B207 u208 => ?_
   have D210 := ((((((hA.keep u62 (fun _ h => h)).keep u68 (fun _ h => h)).keep u147 (fun _ h => h)).keep u152 (fun _ h => h)).keep u156 (fun hb => show ¬ (g8 = bk144) by first | omega | assumption)).keep u208 (fun _ h => h))
   refine t_append (z := .agg #[.int .i64 0, .int .i64 0, .int .i64 0, .int .i64 0, .int .i64 0, .int .i64 0]) (bytes := 48) (k := 6) (base := bk46) (sailE (pk (decide (at9 % 2 = 1)) (tmR (i + 1) v.runs v.st)) (nth v.runs i).to) underlying22 (by kernel_rfl) rfl (by decide) (fun _ => rfl) (by intro x; simp [encEnt, Value.oneCell']) rfl rfl rfl rfl D210 B207 (by omega) (by omega) (by decide) (fun ao211 gb212 cp213 w214 A215 u216 gegb212 lngb212 => ?_)
   have zu216 := u216.size
   have lt_gb212 := A215.lt
   refine go ?_
   exact hK53 (i + 1) ao211 gb212 cp213 ⟨(by omega), (by rw [vlog_next (by omega)]; exact A215), (show gb212 = bk46 ∨ w47.heap.size ≤ gb212 by omega), (mx_next (by omega) hmx (by omega))⟩ (hs := by exact ⟨(by rw [vlog_next (by omega)]; rfl), rfl, rfl, rfl, rfl, rfl, rfl, rfl, trivial⟩)
  refine go ?_
  refine x_n fun bk218 w219 ebk218 sbk218 B220 u221 => ?_
  have E222 := Sc.mk (E63.u.nx u221)
  refine go ?_
  refine x_c func16 rfl rfl (haulVoyage_c v ao b o cap _ (hs.keep E222.u (fun _ h => h)) (by omega) (by omega)) ?_
  rintro _ w225 ⟨⟨ah223, gh223, ch223, rfl, hFh223⟩, u226⟩ zu226
  have lt_gh223 := hFh223.lt
  refine go ?_
  refine x_c func18 rfl rfl (Arrive_c v ah223 gh223 0 ch223 ((nth v.runs i).to) _ (hFh223.sl (fun _ => rfl)) (by omega)) ?_
  rintro _ w230 ⟨rfl, u231⟩ zu231
  iterate 3 refine st1 ?_
  refine y_same 89 (v := .agg #[.int .i64 ((tmR (i + 1) v.runs v.st).lo), .int .i64 ((tmR (i + 1) v.runs v.st).hi)]) rfl (congrArg (fun x : Bnd => Value.agg #[.int .i64 x.lo, .int .i64 x.hi]) har.1) ?_
  refine st1 ?_
  refine y_same 90 (v := .int .i64 0) rfl (congrArg (Value.int .i64) har.2) ?_
  refine go ?_
  refine x_s fun w234 sw234 B236 u235 => ?_
  have E237 := Sc.mk (((E222.u.nx u226).nx u231).next u235 (fun i hi h => by omega))
  refine go ?_
  refine q_p (fun g95 => ?_) fun g95 => ?_
  ·
   have hpk : pk (decide (at9 % 2 = 1)) (tmR (i + 1) v.runs v.st) = (tmR (i + 1) v.runs v.st).hi := by unfold pk; rw [if_pos (decide_eq_true g95)]
   iterate 10 refine st1 ?_
   refine t_same 98 (v := .int .i64 (pk (decide (at9 % 2 = 1)) (tmR (i + 1) v.runs v.st))) rfl (congrArg (Value.int .i64) hpk.symm) ?_
   refine go ?_
   refine q_p (fun g99 => ?_) fun g99 => ?_
   ·
    refine go ?_
    refine x_c func17 rfl rfl (knownRiver_c _) ?_
    rintro _ w247 ⟨rfl, u248⟩ zu248
    refine go ?_
    refine x_c func8 rfl rfl (knownLogs_c _ (hT.ext (E237.u.nx u248)) (by omega)) ?_
    rintro _ w252 ⟨rfl, u253⟩ zu253
    refine go ?_
    refine f_1 results4 ?_
    exact ⟨rfl, u_d⟩
   iterate 5 refine st1 ?_
   refine t_same 105 (v := .int .i64 (pk (decide (at9 % 2 = 1)) (tmR (i + 1) v.runs v.st))) rfl (congrArg (Value.int .i64) hpk.symm) ?_
   refine go ?_
   refine g_i i (hs.keep E237.u (fun _ h => h)) (fun _ => ?_)
   refine go ?_
   refine x_l fun bk257 w258 ebk257 sbk257 B259 u260 => ?_
   have D262 := ((((((hA.keep u62 (fun _ h => h)).keep u221 (fun _ h => h)).keep u226 (fun _ h => h)).keep u231 (fun _ h => h)).keep u235 (fun hb => show ¬ (g8 = bk218) by first | omega | assumption)).keep u260 (fun _ h => h))
   refine t_append (z := .agg #[.int .i64 0, .int .i64 0, .int .i64 0, .int .i64 0, .int .i64 0, .int .i64 0]) (bytes := 48) (k := 6) (base := bk46) (sailE (pk (decide (at9 % 2 = 1)) (tmR (i + 1) v.runs v.st)) (nth v.runs i).to) underlying22 (by kernel_rfl) rfl (by decide) (fun _ => rfl) (by intro x; simp [encEnt, Value.oneCell']) rfl rfl rfl rfl D262 B259 (by omega) (by omega) (by decide) (fun ao263 gb264 cp265 w266 A267 u268 gegb264 lngb264 => ?_)
   have zu268 := u268.size
   have lt_gb264 := A267.lt
   refine go ?_
   exact hK53 (i + 1) ao263 gb264 cp265 ⟨(by omega), (by rw [vlog_next (by omega)]; exact A267), (show gb264 = bk46 ∨ w47.heap.size ≤ gb264 by omega), (mx_next (by omega) hmx (by omega))⟩ (hs := by exact ⟨(by rw [vlog_next (by omega)]; rfl), rfl, rfl, rfl, rfl, rfl, rfl, rfl, trivial⟩)
  have hpk : pk (decide (at9 % 2 = 1)) (tmR (i + 1) v.runs v.st) = (tmR (i + 1) v.runs v.st).lo := by unfold pk; rw [if_neg (fun h => g95 (of_decide_eq_true h))]
  iterate 6 refine st1 ?_
  refine t_same 98 (v := .int .i64 (pk (decide (at9 % 2 = 1)) (tmR (i + 1) v.runs v.st))) rfl (congrArg (Value.int .i64) hpk.symm) ?_
  refine go ?_
  refine q_p (fun g99 => ?_) fun g99 => ?_
  ·
   refine go ?_
   refine x_c func17 rfl rfl (knownRiver_c _) ?_
   rintro _ w274 ⟨rfl, u275⟩ zu275
   refine go ?_
   refine x_c func8 rfl rfl (knownLogs_c _ (hT.ext (E237.u.nx u275)) (by omega)) ?_
   rintro _ w279 ⟨rfl, u280⟩ zu280
   refine go ?_
   refine f_1 results4 ?_
   exact ⟨rfl, u_d⟩
  iterate 5 refine st1 ?_
  refine t_same 105 (v := .int .i64 (pk (decide (at9 % 2 = 1)) (tmR (i + 1) v.runs v.st))) rfl (congrArg (Value.int .i64) hpk.symm) ?_
  refine go ?_
  refine g_i i (hs.keep E237.u (fun _ h => h)) (fun _ => ?_)
  refine go ?_
  refine x_l fun bk284 w285 ebk284 sbk284 B286 u287 => ?_
  have D289 := ((((((hA.keep u62 (fun _ h => h)).keep u221 (fun _ h => h)).keep u226 (fun _ h => h)).keep u231 (fun _ h => h)).keep u235 (fun hb => show ¬ (g8 = bk218) by first | omega | assumption)).keep u287 (fun _ h => h))
  refine t_append (z := .agg #[.int .i64 0, .int .i64 0, .int .i64 0, .int .i64 0, .int .i64 0, .int .i64 0]) (bytes := 48) (k := 6) (base := bk46) (sailE (pk (decide (at9 % 2 = 1)) (tmR (i + 1) v.runs v.st)) (nth v.runs i).to) underlying22 (by kernel_rfl) rfl (by decide) (fun _ => rfl) (by intro x; simp [encEnt, Value.oneCell']) rfl rfl rfl rfl D289 B286 (by omega) (by omega) (by decide) (fun ao290 gb291 cp292 w293 A294 u295 gegb291 lngb291 => ?_)
  have zu295 := u295.size
  have lt_gb291 := A294.lt
  refine go ?_
  exact hK53 (i + 1) ao290 gb291 cp292 ⟨(by omega), (by rw [vlog_next (by omega)]; exact A294), (show gb291 = bk46 ∨ w47.heap.size ≤ gb291 by omega), (mx_next (by omega) hmx (by omega))⟩ (hs := by exact ⟨(by rw [vlog_next (by omega)]; rfl), rfl, rfl, rfl, rfl, rfl, rfl, rfl, trivial⟩)
 have hin : i = v.runs.length := by omega
 obtain ⟨hck, hrp, hlt9, hls⟩ := voy_log (T := (1 + tn)) hin hok hn20 (by omega) hmx
 obtain ⟨k9, hk9, hk9l⟩ : ∃ k : Nat, (k : Int) = at9 % (v.runs.length : Int) ∧ k < v.runs.length := ⟨(at9 % (v.runs.length : Int)).toNat, Int.toNat_of_nonneg (Int.emod_nonneg _ (by omega)), by have := Int.emod_lt_of_pos at9 (show 0 < (v.runs.length : Int) by omega); omega⟩
 refine go ?_
 refine x_l fun bk298 w299 ebk298 sbk298 B300 u301 => ?_
 refine go ?_
 have D303 := (hA.keep u301 (fun _ h => h))
 refine t_copy (enc := encEnt) (z := .agg #[.int .i64 0, .int .i64 0, .int .i64 0, .int .i64 0, .int .i64 0, .int .i64 0]) (bytes := 48) (k := 6) (ys := (vlog (decide (at9 % 2 = 1)) v (1 + tn) i)) underlying22 (by kernel_rfl) rfl (by decide) (fun _ => rfl) (by intro x; simp [encEnt, Value.oneCell']) rfl rfl rfl rfl B300 (D303.sl (fun _ => rfl)) (by omega) (by decide) (fun ao304 gb305 cp306 w307 A308 u309 gegb305 => ?_)
 have zu309 := u309.size
 have lt_gb305 := A308.lt
 refine x_c func9 rfl rfl (WriteV_c (vlog (decide (at9 % 2 = 1)) v (1 + tn) i) ao304 gb305 0 cp306 _ (A308.sl (fun _ => rfl)) (by omega) (by omega)) ?_
 rintro _ w312 ⟨⟨vb, aL, gL, cL, rfl, hFL, hv⟩, u313⟩ zu313
 have lt_gL := hFL.lt
 rw [if_pos hck] at hv
 obtain ⟨hgd, hfew⟩ := fill_good (tapeP (vlog (decide (at9 % 2 = 1)) v (1 + tn) i))
 have hvf : vb = fillP (tapeP (vlog (decide (at9 % 2 = 1)) v (1 + tn) i)) := hv
 rw [← hvf] at hgd hfew
 have htl := tapeP_len hck
 have hbv := bytesP_len vb
 have hn13 : vb.length ≤ 1300 := by omega
 have hcL := hFL.cap_le
 have hrd : readR (bytesP vb) = ((vlog (decide (at9 % 2 = 1)) v (1 + tn) i), 0, 0) := by rw [hv]; exact readR_log hck (by rw [← hv]; exact hn13)
 iterate 3 refine st1 ?_
 refine t_same 121 (v := .int .i64 0) rfl (congrArg (Value.int .i64) hck) ?_
 refine go ?_
 refine x_c func11 rfl rfl (ReadLogE_c (bytesP vb) aL gL 0 cL _ (hFL.sl (fun _ => rfl)) (by have h9 := (hFL).cap_le; omega) (by omega) (by omega) (vlog (decide (at9 % 2 = 1)) v (1 + tn) i) 0 0 hrd) ?_
 rintro _ w318 ⟨⟨aR, gR, cR, rfl, hFR⟩, u319⟩ zu319
 have lt_gR := hFR.lt
 refine go ?_
 refine x_c func19 rfl rfl (Rep0_c (vlog (decide (at9 % 2 = 1)) v (1 + tn) i) aR gR 0 cR _ (hFR.sl (fun _ => rfl)) (by omega) (by omega)) ?_
 rintro _ w325 ⟨⟨V323, rfl, hIV323, hstV323, hFV323⟩, u326⟩ zu326
 have hrqV323 : (repP zSea (vlog (decide (at9 % 2 = 1)) v (1 + tn) i)) = (0, 0, (vend (decide (at9 % 2 = 1)) v (1 + tn))) := hrp
 have hsV3239 : V323.st = (vend (decide (at9 % 2 = 1)) v (1 + tn)) := by rw [hstV323, hrqV323]
 obtain ⟨p1V323, p2V323, p3V323, p4V323, p5V323⟩ := SG_one hsV3239
 have hnV323 : nth V323.rs 0 ∈ V323.rs := nth_mem (by omega)
 have hcV323 : (nth V323.rs 0).c.length = 1 := by rw [p3V323]; rfl
 iterate 4 refine st1 ?_
 refine t_same 134 (v := .int .i64 0) rfl (congrArg (Value.int .i64) (by rw [hrqV323])) ?_
 refine x_n fun bk329 w330 ebk329 sbk329 B331 u332 => ?_
 refine x_s fun w334 sw334 B336 u335 => ?_
 refine go ?_
 refine c_drawnM follows (fun _ => False) (OTl [0, 2, 4, 6, 8, 10, 12, 14, 16, 18, 20, 22, 24, 26, 28, 30, 32, 34, 36, 38, 40, 42, 44, 46, 48, 50, 52, 54, 56, 58, 60, 62, 64, 66, 68, 70, 72, 74, 76, 78, 80, 82, 84, 86, 88, 90, 92, 94, 96, 98, 100, 102, 104, 106, 108, 110, 112, 114, 116, 118, 120, 122, 124, 126, 128, 130, 132, 134, 136, 138, 140, 142, 144, 146, 148, 150]) (by kernel_rfl) fun w340 u341 => ?_
 have zu341 := u341.size
 have E342 := Sc.mk ((((((((E56.u.nx u301).next u309 (fun i hi h => by omega)).nx u313).nx u319).nx u326).nx u332).next u335 (fun i hi h => by omega)).nx u341)
 iterate 15 refine st1 ?_
 refine y_same 149 (v := .bool false) rfl (congrArg Value.bool (decide_eq_false (by omega))) ?_
 refine go ?_
 refine y_i 0 (hIV323.keepN hFV323 ((((Upd.refl (fun i => i < w318.heap.size) _).nx u332).next u335 (fun i hi (h : i = bk329) => show i < w318.heap.size by first | omega | assumption)).nx u341) (fun i h => h)).hs (fun _ => ?_)
 iterate 4 refine st1 ?_
 refine y_same 158 (v := .bool false) rfl (congrArg Value.bool (decide_eq_false (by omega))) ?_
 refine go ?_
 refine y_i 0 (hIV323.keepN hFV323 ((((Upd.refl (fun i => i < w318.heap.size) _).nx u332).next u335 (fun i hi (h : i = bk329) => show i < w318.heap.size by first | omega | assumption)).nx u341) (fun i h => h)).hs (fun _ => ?_)
 iterate 4 refine st1 ?_
 refine y_same 167 (v := .bool false) rfl (congrArg Value.bool (decide_eq_false (by omega))) ?_
 refine go ?_
 refine y_i 0 (hIV323.keepN hFV323 ((((Upd.refl (fun i => i < w318.heap.size) _).nx u332).next u335 (fun i hi (h : i = bk329) => show i < w318.heap.size by first | omega | assumption)).nx u341) (fun i h => h)).hs (fun _ => ?_)
 refine go ?_
 refine y_i 0 (((hIV323.keepN hFV323 ((((Upd.refl (fun i => i < w318.heap.size) _).nx u332).next u335 (fun i hi (h : i = bk329) => show i < w318.heap.size by first | omega | assumption)).nx u341) (fun i h => h))).cs _ hnV323) (fun _ => ?_)
 refine st1 ?_
 refine y_same 176 (v := .agg #[.int .i64 5, .int .i64 (1 + tn)]) rfl (congrArg (fun c : Crg => Value.agg #[.int .i64 c.b, .int .i64 c.t]) (show nth (nth V323.rs 0).c 0 = ⟨5, (1 + tn)⟩ by rw [p3V323]; rfl)) ?_
 refine go ?_
 refine y_conv underlying57 underlying3 rfl rfl rfl (IntWalk.i64_in _ (by omega)) ?_
 refine go ?_
 refine y_neS (xs := [.int .i64 5, .int .i64 (1 + tn)]) (ys := [.int .i64 5, .int .i64 (1 + tn)]) (by kernel_rfl) (eqIn72 9998 5 (1 + tn) 5 (1 + tn)) rfl rfl rfl rfl (y_samehd (v := .bool false) (by simp) (y_same 181 (v := .bool false) rfl (congrArg Value.bool (by simp)) ?_))
 refine go ?_
 refine y_conv underlying57 underlying3 rfl rfl rfl (IntWalk.i64_in _ (by omega)) ?_
 refine go ?_
 refine y_max rfl rfl rfl rfl ?_
 iterate 2 refine st1 ?_
 refine y_same 197 (v := .bool false) rfl (congrArg Value.bool (decide_eq_false (by omega))) ?_
 refine go ?_
 have D347 := (((((((D303.keep u309 (fun hb => show ¬ ((g8 = bk298 ∧ bk298 ≤ g8)) by first | omega | assumption)).keep u313 (fun _ h => h)).keep u319 (fun _ h => h)).keep u326 (fun _ h => h)).keep u332 (fun _ h => h)).keep u335 (fun hb => show ¬ (g8 = bk329) by first | omega | assumption)).keep u341 (fun _ h => h))
 refine y_i (i + 1) (D347.sl (fun _ => rfl)) (fun _ => ?_)
 iterate 2 refine st1 ?_
 refine y_same 208 (v := .int .i64 (pk (decide (at9 % 2 = 1)) (tmR v.runs.length v.runs v.st))) rfl (congrArg (Value.int .i64) hlt9) ?_
 refine st1 ?_
 refine y_same 209 (v := .bool false) rfl (congrArg Value.bool (decide_eq_false (by omega))) ?_
 refine go ?_
 refine t_conv underlying5 underlying3 rfl rfl rfl (IntWalk.i64_in _ (by omega)) ?_
 refine go ?_
 refine t_rem rfl rfl rfl rfl (by omega) (by omega) (t_same 216 (v := .int .i64 (k9 : Int)) rfl (congrArg (Value.int .i64) hk9.symm) ?_)
 refine st1 ?_
 refine t_same 217 (v := .int .i64 ((k9 + 2 : Nat) : Int)) rfl (congrArg (Value.int .i64) (by omega)) ?_
 refine go ?_
 refine q_p (fun g222 => ?_) fun g222 => ?_
 ·
  have hcl9 := (D347).cap_le
  have htk9 : ((vlog (decide (at9 % 2 = 1)) v (1 + tn) i).take (k9 + 2)).length = k9 + 2 := by rw [List.length_take]; omega
  have hdk9 : ((vlog (decide (at9 % 2 = 1)) v (1 + tn) i).drop (k9 + 3)).length = (vlog (decide (at9 % 2 = 1)) v (1 + tn) i).length - (k9 + 3) := List.length_drop
  refine go ?_
  refine c_drawnM follows (fun _ => False) (OTl [2, 4, 6, 10, 12, 14, 16, 1, 9, 19, 20]) (by kernel_rfl) fun w353 u354 => ?_
  have zu354 := u354.size
  refine go ?_
  refine y_sliceTo ((k9 + 2)) underlying22 sizeOf41 rfl rfl rfl rfl (by omega) (by omega) (y_same 226 (v := .slice (subAddr a8 c8 0 6) (((vlog (decide (at9 % 2 = 1)) v (1 + tn) i).take (k9 + 2)).length) c8) rfl (by rw [List.length_take, hvl, show min (k9 + 2) (i + 2) = k9 + 2 by omega]) ?_)
  refine go ?_
  refine y_sliceFrom ((k9 + 3)) underlying22 sizeOf41 rfl rfl rfl rfl rfl (by omega) (by omega) (y_same 231 (v := .slice (subAddr a8 c8 (k9 + 3) 6) (((vlog (decide (at9 % 2 = 1)) v (1 + tn) i).drop (k9 + 3)).length) (c8 - (k9 + 3))) rfl (by rw [List.length_drop]) ?_)
  refine go ?_
  refine x_l fun bk356 w357 ebk356 sbk356 B358 u359 => ?_
  refine go ?_
  have D361 := ((D347.keep u354 (fun _ h => h)).keep u359 (fun _ h => h))
  refine t_copy (enc := encEnt) (z := .agg #[.int .i64 0, .int .i64 0, .int .i64 0, .int .i64 0, .int .i64 0, .int .i64 0]) (bytes := 48) (k := 6) (ys := ((vlog (decide (at9 % 2 = 1)) v (1 + tn) i).take (k9 + 2))) underlying22 (by kernel_rfl) rfl (by decide) (fun _ => rfl) (by intro x; simp [encEnt, Value.oneCell']) rfl rfl rfl rfl B358 (Sl.takeN (n := (k9 + 2)) (D361.sl (fun _ => rfl)) hcl9) (by omega) (by decide) (fun ao362 gb363 cp364 w365 A366 u367 gegb363 => ?_)
  have zu367 := u367.size
  have lt_gb363 := A366.lt
  refine go ?_
  have D369 := (D361.keep u367 (fun hb => show ¬ ((g8 = bk356 ∧ bk356 ≤ g8)) by first | omega | assumption))
  refine t_appendAll (enc := encEnt) (z := .agg #[.int .i64 0, .int .i64 0, .int .i64 0, .int .i64 0, .int .i64 0, .int .i64 0]) (bytes := 48) (k := 6) (base := bk356) (xs := ((vlog (decide (at9 % 2 = 1)) v (1 + tn) i).take (k9 + 2))) (ys := ((vlog (decide (at9 % 2 = 1)) v (1 + tn) i).drop (k9 + 3))) underlying22 (by kernel_rfl) rfl (by decide) (fun _ => rfl) (by intro x; simp [encEnt, Value.oneCell']) rfl rfl rfl rfl A366 (Sl.dropN (l := (k9 + 3)) (D369.sl (fun _ => rfl)) hcl9) (by omega) (by omega) (by omega) (by decide) (fun ao370 gb371 cp372 w373 A374 u375 gegb371 lngb371 => ?_)
  have zu375 := u375.size
  have lt_gb371 := A374.lt
  refine go ?_
  refine x_c func19 rfl rfl (Rep0_c (((vlog (decide (at9 % 2 = 1)) v (1 + tn) i).take (k9 + 2)) ++ ((vlog (decide (at9 % 2 = 1)) v (1 + tn) i).drop (k9 + 3))) ao370 gb371 0 cp372 _ (A374.sl (fun _ => rfl)) (by simp only [List.length_append, List.length_take, List.length_drop]; omega) (by omega)) ?_
  rintro _ w380 ⟨⟨V378, rfl, hIV378, hstV378, hFV378⟩, u381⟩ zu381
  have hrqV378 : (repP zSea (((vlog (decide (at9 % 2 = 1)) v (1 + tn) i).take (k9 + 2)) ++ ((vlog (decide (at9 % 2 = 1)) v (1 + tn) i).drop (k9 + 3)))) = (0, 0, (vend (decide (at9 % 2 = 1)) v (1 + tn))) := hls k9 (by omega)
  have hsV3789 : V378.st = (vend (decide (at9 % 2 = 1)) v (1 + tn)) := by rw [hstV378, hrqV378]
  obtain ⟨p1V378, p2V378, p3V378, p4V378, p5V378⟩ := SG_one hsV3789
  have hnV378 : nth V378.rs 0 ∈ V378.rs := nth_mem (by omega)
  have hcV378 : (nth V378.rs 0).c.length = 1 := by rw [p3V378]; rfl
  iterate 4 refine st1 ?_
  refine t_same 239 (v := .int .i64 0) rfl (congrArg (Value.int .i64) (by rw [hrqV378])) ?_
  refine x_n fun bk384 w385 ebk384 sbk384 B386 u387 => ?_
  refine x_s fun w389 sw389 B391 u390 => ?_
  iterate 13 refine st1 ?_
  refine t_same 246 (v := .bool false) rfl (congrArg Value.bool (decide_eq_false (by omega))) ?_
  refine go ?_
  refine g_i 0 (hIV378.keepN hFV378 (((Upd.refl (fun i => i < w373.heap.size) _).nx u387).next u390 (fun i hi (h : i = bk384) => show i < w373.heap.size by first | omega | assumption)) (fun i h => h)).hs (fun _ => ?_)
  iterate 4 refine st1 ?_
  refine t_same 255 (v := .bool false) rfl (congrArg Value.bool (decide_eq_false (by omega))) ?_
  iterate 7 refine st1 ?_
  refine t_same 262 (v := .bool false) rfl (congrArg Value.bool (decide_eq_false (by omega))) ?_
  iterate 7 refine st1 ?_
  refine t_same 269 (v := .bool false) rfl (congrArg Value.bool (decide_eq_false (by omega))) ?_
  refine go ?_
  refine x_c func17 rfl rfl (knownRiver_c _) ?_
  rintro _ w397 ⟨rfl, u398⟩ zu398
  refine go ?_
  refine x_c func8 rfl rfl (knownLogs_c _ (hT.ext ((((((((E342.u.nx u354).nx u359).next u367 (fun i hi h => by omega)).next u375 (fun i hi h => by omega)).nx u381).nx u387).next u390 (fun i hi h => by omega)).nx u398)) (by omega)) ?_
  rintro _ w402 ⟨rfl, u403⟩ zu403
  refine go ?_
  refine f_1 results4 ?_
  exact ⟨rfl, u_d⟩
 refine go ?_
 refine x_c func17 rfl rfl (knownRiver_c _) ?_
 rintro _ w408 ⟨rfl, u409⟩ zu409
 refine go ?_
 refine x_c func8 rfl rfl (knownLogs_c _ (hT.ext (E342.u.nx u409)) (by omega)) ?_
 rintro _ w413 ⟨rfl, u414⟩ zu414
 refine go ?_
 refine f_1 results4 ?_
 exact ⟨rfl, u_d⟩

end Go.Proofs.YtagmkfbbhfaceaaGreatDoor
namespace Go.Proofs.YtagmkfbbhfaceaaGreatDoor
open Go Go.RowKit
set_option maxRecDepth 10000
/-! ### the witness: a world in which the listed variables hold what is told of them -/
def litC : DataW Unit → Value
  | .lit (.int k n) => .int k n
  | _ => .int .i64 0
def aggC : DataW Unit → List Value
  | .agg l => l.map litC
  | _ => []
def strC : DataW Unit → Value
  | .iface _ (.ptr (.agg [.lit (.string s)])) => .string ⟨s.toArray⟩
  | _ => .int .i64 0
def setC (cs : List Value) : Obj → Obj
  | .cells _ t f => .cells cs.toArray t f
  | o => o
noncomputable def laidWorld (os : Os) : World :=
  { World.holding Tryz.prog os ⟨#[], #[], []⟩ with heap := (((((((World.holding Tryz.prog os ⟨#[], #[], []⟩).heap.modify 8 (setC (aggC Rows.laid_math_bits_deBruijn32tab))).modify 9 (setC (aggC Rows.laid_math_bits_deBruijn64tab))).modify 5 (setC (aggC Rows.laid_internal_strconv_uint64pow10))).modify 4 (setC [.iface 352 (.pointer (some ⟨15, 0, none⟩))])).modify 3 (setC [.iface 352 (.pointer (some ⟨16, 0, none⟩))])).push (.cells #[strC Rows.laid_strconv_ErrRange] 353 (0, 0))).push (.cells #[strC Rows.laid_strconv_ErrSyntax] 353 (0, 0)) }
theorem laid_met (os : Os) (args : Array Value) : laidMet Tryz.prog Rows.topSailedLogRow.laid ((laidWorld os).forCall (fun _ _ => 0) ⟨#[], args, []⟩).memory :=
  laidMet_of_run' 8 (by kernel_rfl) (by kernel_rfl)
theorem glob5 : Tryz.prog.globalNamed "internal/strconv.uint64pow10" = some 5 := by kernel_rfl
theorem glob5t : (Tryz.prog.globals[5]?).map (·.type) = some 372 := by kernel_rfl
theorem tab_of_laid {W : World} (h : laidMet Tryz.prog Rows.topSailedLogRow.laid W) : Tab10 W := by
  have e : (Rows.laid_internal_strconv_uint64pow10 : DataW Unit) = Lib.tabData .u64 Lib.pow10Tab := by kernel_rfl
  obtain ⟨ps, ⟨_, _, _, _, _, _, _, _, _, _, ⟨_, _, _, _, _, _, _, _, _, _, ⟨g', t', cs, fuel, p, q, hg', ht', hvar, hd, _, _⟩, _⟩, _⟩, _⟩ := h
  obtain rfl := Option.some.inj (glob5.symm.trans hg')
  obtain rfl := Option.some.inj (glob5t.symm.trans ht')
  unfold Tab10 Lib.TabIs
  rw [hvar, ← Lib.cells_of_tab (t := 372) (e := 225) (n := 20) (k := .u64) (zs := Lib.pow10Tab) Tryz.underlying372 Tryz.underlying225 (by kernel_rfl) (by kernel_rfl) (by rw [← e]; exact hd)]
theorem tab_pos {w : World} (h : Tab10 w) : 0 < w.heap.size := by
  unfold Tab10 Lib.TabIs World.var? at h
  rw [glob5] at h
  simp only [Option.bind_some] at h
  rcases Nat.lt_or_ge 5 w.heap.size with q | q
  · omega
  · rw [Array.getElem?_eq_none q] at h; cases h

end Go.Proofs.YtagmkfbbhfaceaaGreatDoor
