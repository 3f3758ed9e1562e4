/-
  Part 14 of the proof: contracts and plain laws. Conditions: none.
-/
import Derived.Test.YtjdcpnaocjddoaaGreatDoorDK13
namespace Go.Proofs.YtjdcpnaocjddoaaGreatDoor
open Go Go.RowKit Go.Proofs.Tryz
set_option maxHeartbeats 4000000 in
theorem rStep_c (base : Nat) (V : SG) (T : Int) (x : Ent) (w0 : World) (hI : RIn base w0 V) (hok : SeaOk T V.st) (hT : T ≤ 500000000) (h0 : 0 < base) (hbs : base ≤ w0.heap.size) :
    CallsV Tryz.prog 59 [.agg #[.int .i64 V.m, .slice V.ah V.rs.length V.ch, .slice V.al V.ld.length V.cl, .slice V.au V.un.length V.cu, .int .i64 V.wk], .agg #[.int .i64 x.m, .int .i64 x.k, .int .i64 x.h, .int .i64 x.p, .int .i64 x.b, .int .i64 x.t]] w0 (fun v w' => (∃ V' : SG, v = .tuple #[.agg #[.int .i64 V'.m, .slice V'.ah V'.rs.length V'.ch, .slice V'.al V'.ld.length V'.cl, .slice V'.au V'.un.length V'.cu, .int .i64 V'.wk], .int .i64 (stepP V.st x).1] ∧ RIn base w' V' ∧ ((stepP V.st x).1 = 0 → V'.st = { (stepP V.st x).2 with m := x.m })) ∧ Upd (fun i => i = V.gh ∧ base ≤ i) w0 w') := by
 have hH := hI.ha
 have hL := hI.la
 have hU := hI.ua
 have lt_gh := hH.lt
 have lt_gl := hL.lt
 have lt_gu := hU.lt
 have hrl := hok.rlen
 have hot := hok.t
 have hldlen : V.ld.length ≤ 9999 := hok.ld.len
 have hlunlen : V.un.length ≤ 9999 := hok.un.len
 have hlldt : ∀ y ∈ V.ld, 0 ≤ y.t ∧ y.t ≤ 1000000000000 := fun y hy => by have := (hok.ld.2 y hy).2; omega
 have hlunt : ∀ y ∈ V.un, 0 ≤ y.t ∧ y.t ≤ 1000000000000 := fun y hy => by have := (hok.un.2 y hy).2; omega
 have hlldlen := hldlen
 refine f_n func59 ?_
 refine go ?_
 refine x_b fun bk2 w3 ebk2 sbk2 B4 u5 => ?_
 refine x_b fun bk7 w8 ebk7 sbk7 B9 u10 => ?_
 refine x_n fun bk12 w13 ebk12 sbk12 B14 u15 => ?_
 refine go ?_
 refine x_c func52 rfl rfl (rEntry_c x _) ?_
 rintro _ w20 ⟨rfl, u21⟩ zu21
 have E23 := Sc.mk (((((Upd.refl (fun i => (i = V.gh ∧ base ≤ i)) w0).nx u5).nx u10).nx u15).nx u21)
 refine go ?_
 refine q_b (fun g12 => ?_) fun g12 => ?_
 ·
  have hx : okEnt x = false := by simpa using g12
  refine go ?_
  refine x_s fun w25 sw25 B27 u26 => ?_
  refine go ?_
  refine f_ret2 (v1 := .agg #[.int .i64 V.m, .slice V.ah V.rs.length V.ch, .slice V.al V.ld.length V.cl, .slice V.au V.un.length V.cu, .int .i64 V.wk]) (v2 := .int .i64 2) results59 ⟨_, _, rfl, run_loadVarN (vs := [.int .i64 V.m, .slice V.ah V.rs.length V.ch, .slice V.al V.ld.length V.cl, .slice V.au V.un.length V.cu, .int .i64 V.wk]) isAgg37 sizeOf37 rfl (B27.at.sub 0 5)⟩ rfl ?_
  have D29 := (((((hH.keep u5 (fun _ h => h)).keep u10 (fun _ h => h)).keep u15 (fun _ h => h)).keep u21 (fun _ h => h)).keep u26 (fun hb => show ¬ (V.gh = bk12) by first | omega | assumption))
  have he := stp2 (S := V.st) hx
  obtain ⟨hc1, hc2, hc3⟩ := hI.keepC (E23.u.next u26 (fun i hi h => by omega))
  exact ⟨⟨V, by rw [he], ⟨D29, hc1, hc2, hc3⟩, fun h9 => by rw [he] at h9; simp at h9⟩, u_d⟩
 have hx : okEnt x = true := by simpa using g12
 have hx9 := okEnt_iff hx
 refine go ?_
 refine q_p (fun g18 => ?_) fun g18 => ?_
 ·
  refine go ?_
  refine x_s fun w33 sw33 B35 u34 => ?_
  refine go ?_
  refine f_ret2 (v1 := .agg #[.int .i64 V.m, .slice V.ah V.rs.length V.ch, .slice V.al V.ld.length V.cl, .slice V.au V.un.length V.cu, .int .i64 V.wk]) (v2 := .int .i64 9) results59 ⟨_, _, rfl, run_loadVarN (vs := [.int .i64 V.m, .slice V.ah V.rs.length V.ch, .slice V.al V.ld.length V.cl, .slice V.au V.un.length V.cu, .int .i64 V.wk]) isAgg37 sizeOf37 rfl (B35.at.sub 0 5)⟩ rfl ?_
  have D37 := (((((hH.keep u5 (fun _ h => h)).keep u10 (fun _ h => h)).keep u15 (fun _ h => h)).keep u21 (fun _ h => h)).keep u34 (fun hb => show ¬ (V.gh = bk12) by first | omega | assumption))
  have he := stp9 (S := V.st) hx g18
  obtain ⟨hc1, hc2, hc3⟩ := hI.keepC (E23.u.next u34 (fun i hi h => by omega))
  exact ⟨⟨V, by rw [he], ⟨D37, hc1, hc2, hc3⟩, fun h9 => by rw [he] at h9; simp at h9⟩, u_d⟩
 refine go ?_
 refine x_l1 (fun _ => False) [2, 3, 4] (fun (a : Nat) => [(6, .int .i64 (a : Int))]) (fun a w => (a ≤ V.rs.length) ∧ (∀ j, j < a → (nth V.rs j).n < x.h)) (fun a => V.rs.length - a) 0 ⟨(Nat.zero_le _), (fun j h => absurd h (Nat.not_lt_zero j))⟩ ?_
 rintro a w41 ⟨ha9, hlt9⟩ u42 zu42 K40 hK40
 refine st1 ?_
 refine x_k1 (fun _ => False) [2, 3, 4, 6] (fun (z9 : Bool) => [(35, .bool z9)]) (fun z9 w => (z9 = decide (a < V.rs.length ∧ (nth V.rs a).n < x.h))) (fun K49 hK49 => ?_) ?_
 ·
  refine c_drawnM follows (fun _ => False) (OTl [0, 2, 4, 6, 8, 10, 12, 14, 16, 18, 20, 22, 24, 26, 28, 30]) (by kernel_rfl) fun w52 u53 => ?_
  have zu53 := u53.size
  refine go ?_
  refine y_splitp 25 rfl (fun g25 => ?_) (fun g25 => ?_)
  ·
   refine go ?_
   have D55 := ((((((hH.keep u5 (fun _ h => h)).keep u10 (fun _ h => h)).keep u15 (fun _ h => h)).keep u21 (fun _ h => h)).keep u42 (fun _ h => h)).keep u53 (fun _ h => h))
   refine y_i a (D55.sl (fun _ => rfl)) (fun _ => ?_)
   refine go ?_
   exact hK49 (decide ((nth V.rs a).n < x.h)) (by first | exact (decide_eq_false (by omega)).symm | exact (decide_eq_true (by omega)).symm | exact decide_eq_decide.2 (by omega))
  refine go ?_
  exact hK49 false (by first | exact (decide_eq_false (by omega)).symm | exact (decide_eq_true (by omega)).symm | exact decide_eq_decide.2 (by omega))
 rintro z9 w50 hz9 u51 zu51
 refine q_b (fun g35 => ?_) fun g35 => ?_
 ·
  have hzb : (a < V.rs.length ∧ (nth V.rs a).n < x.h) := by rw [hz9] at g35; exact of_decide_eq_true g35
  refine go ?_
  exact hK40 (a + 1) ⟨(by omega), (fun j hj => by rcases Nat.lt_or_ge j a with q | q; exact hlt9 j q; rw [show j = a by omega]; exact hzb.2)⟩
 have hzb : ¬ (a < V.rs.length ∧ (nth V.rs a).n < x.h) := by rw [hz9] at g35; exact of_decide_eq_false g35
 have hpk : posK (fun x : HR => x.n) x.h V.rs = a := posK_eq ha9 hlt9 (fun h => by have h9 : ¬ (nth V.rs a).n < x.h := fun q => hzb ⟨h, q⟩; omega)
 iterate 6 refine st1 ?_
 refine x_k1 (fun _ => False) [2, 3, 4, 6] (fun (z7 : Bool) => [(7, .bool z7)]) (fun z7 w => (z7 = decide (a < V.rs.length ∧ (nth V.rs a).n = x.h))) (fun K62 hK62 => ?_) ?_
 ·
  refine c_drawnM follows (fun _ => False) (OTl [0, 2, 4, 6, 8, 10, 12, 14, 16, 18, 20, 22, 24, 26, 28, 30, 32]) (by kernel_rfl) fun w65 u66 => ?_
  have zu66 := u66.size
  refine go ?_
  refine y_splitp 43 rfl (fun g43 => ?_) (fun g43 => ?_)
  ·
   refine go ?_
   have D68 := (((((((hH.keep u5 (fun _ h => h)).keep u10 (fun _ h => h)).keep u15 (fun _ h => h)).keep u21 (fun _ h => h)).keep u42 (fun _ h => h)).keep u51 (fun _ h => h)).keep u66 (fun _ h => h))
   refine y_i a (D68.sl (fun _ => rfl)) (fun _ => ?_)
   refine go ?_
   exact hK62 (decide ((nth V.rs a).n = x.h)) (by first | exact (decide_eq_false (by omega)).symm | exact (decide_eq_true (by omega)).symm | exact decide_eq_decide.2 (by omega))
  refine go ?_
  exact hK62 false (by first | exact (decide_eq_false (by omega)).symm | exact (decide_eq_true (by omega)).symm | exact decide_eq_decide.2 (by omega))
 rintro z7 w63 hz7 u64 zu64
 have E70 := Sc.mk (((E23.u.nx u42).nx u51).nx u64)
 refine go ?_
 refine q_p (fun g56 => ?_) fun g56 => ?_
 ·
  refine go ?_
  refine q_b (fun g57 => ?_) fun g57 => ?_
  ·
   have hz8 : (a < V.rs.length ∧ (nth V.rs a).n = x.h) := by
     have h9 : z7 = true := by simpa using g57
     rw [hz7] at h9
     exact of_decide_eq_true h9
   refine go ?_
   refine x_s fun w76 sw76 B78 u77 => ?_
   refine go ?_
   refine f_ret2 (v1 := .agg #[.int .i64 V.m, .slice V.ah V.rs.length V.ch, .slice V.al V.ld.length V.cl, .slice V.au V.un.length V.cu, .int .i64 V.wk]) (v2 := .int .i64 6) results59 ⟨_, _, rfl, run_loadVarN (vs := [.int .i64 V.m, .slice V.ah V.rs.length V.ch, .slice V.al V.ld.length V.cl, .slice V.au V.un.length V.cu, .int .i64 V.wk]) isAgg37 sizeOf37 rfl (B78.at.sub 0 5)⟩ rfl ?_
   have D80 := ((((((((hH.keep u5 (fun _ h => h)).keep u10 (fun _ h => h)).keep u15 (fun _ h => h)).keep u21 (fun _ h => h)).keep u42 (fun _ h => h)).keep u51 (fun _ h => h)).keep u64 (fun _ h => h)).keep u77 (fun hb => show ¬ (V.gh = bk12) by first | omega | assumption))
   have he : stepP V.st x = (6, V.st) := by rw [stpB hx g18 g56 hpk, if_pos hz8]
   obtain ⟨hc1, hc2, hc3⟩ := hI.keepC (E70.u.next u77 (fun i hi h => by omega))
   exact ⟨⟨V, by rw [he], ⟨D80, hc1, hc2, hc3⟩, fun h9 => by rw [he] at h9; simp at h9⟩, u_d⟩
  have hz8 : ¬ (a < V.rs.length ∧ (nth V.rs a).n = x.h) := by
    have h9 : z7 = false := by simpa using g57
    rw [hz7] at h9
    exact of_decide_eq_false h9
  have hAl := V.rs.length_take (i := a)
  have hcap := hH.cap_le
  refine go ?_
  refine x_l fun bk82 w83 ebk82 sbk82 B84 u85 => ?_
  refine go ?_
  refine t_sliceTo ((V.rs.take a).length) underlying34 sizeOf46 rfl rfl rfl rfl (by rw [List.length_take]; omega) (by rw [List.length_take]; omega) ?_
  have D87 := ((((((((hH.keep u5 (fun _ h => h)).keep u10 (fun _ h => h)).keep u15 (fun _ h => h)).keep u21 (fun _ h => h)).keep u42 (fun _ h => h)).keep u51 (fun _ h => h)).keep u64 (fun _ h => h)).keep u85 (fun _ h => h))
  refine t_copyG (enc := encHR) (z := .agg #[.int .i64 0, .int .i64 0, .slice none 0 0]) (bytes := 40) (k := 3) (ys := (V.rs.take a)) underlying34 (by kernel_rfl) rfl (by decide) (fun _ => rfl) (by intro x; simp [encHR, Value.oneCell']) rfl rfl rfl rfl B84 (Sl.takeN (n := a) (D87.sl (fun _ => rfl)) hcap) (by rw [List.length_take]; omega) (by decide) (fun ao88 gb89 cp90 w91 A92 u93 gegb89 => ?_)
  have zu93 := u93.size
  have lt_gb89 := A92.lt
  refine go ?_
  refine c_drawnM follows (fun i => (i = gb89 ∧ bk82 ≤ i) ∨ i = bk2) (.look 0 (.look 1 (.look 2 (.look 3 (.look 4 (.look 5 (.look 8 (.look 10 (.act 6 (.act 7 (.act 9 (.look 11 (.act 12 (.look 13 (.act 14 .done .stop)) .stop)) .stop) (.act 9 (.look 11 (.act 7 (.act 12 (.look 13 (.act 14 .done .stop)) .stop) .stop)) .stop)) (.act 9 (.look 11 (.act 6 (.act 7 (.act 12 (.look 13 (.act 14 .done .stop)) .stop) .stop) .stop)) .stop)))))))))) (by kernel_rfl) fun w96 u97 => ?_
  have zu97 := u97.size
  have E98 := Sc.mk (((E70.u.nx u85).next u93 (fun i hi h => by omega)).nx u97)
  refine go ?_
  refine s_or ?_ ?_
  ·
   refine go ?_
   refine x_l fun bk99 w100 ebk99 sbk99 B101 u102 => ?_
   have E103 := Sc.mk (E98.u.nx u102)
   refine go ?_
   refine s_or ?_ ?_
   ·
    refine go ?_
    have D104 := ((A92.keep u97 (fun _ h => h)).keep u102 (fun _ h => h))
    refine t_append (z := .agg #[.int .i64 0, .int .i64 0, .slice none 0 0]) (bytes := 40) (k := 3) (base := bk82) (⟨x.h, x.p, none, 0, 0, 0, []⟩ : HR) underlying34 (by kernel_rfl) rfl (by decide) (fun _ => rfl) (by intro x; simp [encHR, Value.oneCell']) rfl rfl rfl rfl D104 B101 (by omega) (by rw [List.length_take]; omega) (by decide) (fun ao105 gb106 cp107 w108 A109 u110 gegb106 lngb106 => ?_)
    have zu110 := u110.size
    have lt_gb106 := A109.lt
    refine go ?_
    refine y_sliceFrom (a) underlying34 sizeOf46 rfl rfl rfl rfl rfl (by omega) (by omega) (y_same 76 (v := .slice (subAddr V.ah V.ch a 3) ((V.rs.drop a).length) (V.ch - a)) rfl (by rw [List.length_drop]) ?_)
    refine go ?_
    have D112 := ((((D87.keep u93 (fun hb => show ¬ ((V.gh = bk82 ∧ bk82 ≤ V.gh)) by first | omega | assumption)).keep u97 (fun _ h => h)).keep u102 (fun _ h => h)).keep u110 (fun hb => show ¬ ((V.gh = gb89 ∧ bk82 ≤ V.gh)) by first | omega | assumption))
    refine t_appendAll (enc := encHR) (z := .agg #[.int .i64 0, .int .i64 0, .slice none 0 0]) (bytes := 40) (k := 3) (base := bk82) (xs := ((V.rs.take a) ++ [(⟨x.h, x.p, none, 0, 0, 0, []⟩ : HR)])) (ys := (V.rs.drop a)) underlying34 (by kernel_rfl) rfl (by decide) (fun _ => rfl) (by intro x; simp [encHR, Value.oneCell']) rfl rfl rfl rfl A109 (Sl.dropN (l := a) (D112.sl (fun _ => rfl)) hcap) (by omega) (by rw [List.length_append, List.length_take]; simp only [List.length_cons, List.length_nil]; omega) (by rw [List.length_drop]; omega) (by decide) (fun ao113 gb114 cp115 w116 A117 u118 gegb114 lngb114 => ?_)
    have zu118 := u118.size
    have lt_gb114 := A117.lt
    refine go ?_
    refine x_s fun w120 sw120 B122 u121 => ?_
    refine go ?_
    refine x_s fun w125 sw125 B127 u126 => ?_
    refine go ?_
    refine x_s fun w130 sw130 B132 u131 => ?_
    refine go ?_
    refine f_ret2 (v1 := .agg #[.int .i64 x.m, .slice ao113 (((((V.rs.take a) ++ [(⟨x.h, x.p, none, 0, 0, 0, []⟩ : HR)]) ++ (V.rs.drop a))).length) cp115, .slice V.al V.ld.length V.cl, .slice V.au V.un.length V.cu, .int .i64 V.wk]) (v2 := .int .i64 0) results59 ⟨_, _, rfl, run_loadVarN (vs := [.int .i64 x.m, .slice ao113 (((((V.rs.take a) ++ [(⟨x.h, x.p, none, 0, 0, 0, []⟩ : HR)]) ++ (V.rs.drop a))).length) cp115, .slice V.al V.ld.length V.cl, .slice V.au V.un.length V.cu, .int .i64 V.wk]) isAgg37 sizeOf37 rfl (B132.at.sub 0 5)⟩ rfl ?_
    have D135 := (((A117.keep u121 (fun hb => show ¬ (gb114 = bk2) by first | omega | assumption)).keep u126 (fun hb => show ¬ (gb114 = bk2) by first | omega | assumption)).keep u131 (fun hb => show ¬ (gb114 = bk12) by first | omega | assumption))
    obtain ⟨gz, hz⟩ := Acc.lower (base' := base) D135 (by omega) h0
    have hxl : V.rs.take a ++ [(⟨x.h, x.p, none, 0, 0, 0, []⟩ : HR)] ++ V.rs.drop a = V.rs.take a ++ (⟨x.h, x.p, none, 0, 0, 0, []⟩ : HR) :: V.rs.drop a := by simp
    rw [hxl] at hz
    have he : stepP V.st x = (0, { V.st with hs := V.st.hs.take a ++ (⟨x.h, x.p, []⟩ : Hul) :: V.st.hs.drop a }) := by rw [stpB hx g18 g56 hpk, if_neg hz8]
    obtain ⟨hc1, hc2, hc3⟩ := hI.keepC (((((E103.u.next u110 (fun i hi h => by omega)).next u118 (fun i hi h => by omega)).next u121 (fun i hi h => by omega)).next u126 (fun i hi h => by omega)).next u131 (fun i hi h => by omega))
    exact ⟨⟨⟨x.m, V.rs.take a ++ (⟨x.h, x.p, none, 0, 0, 0, []⟩ : HR) :: V.rs.drop a, ao113, gz, cp115, V.ld, V.al, V.gl, V.cl, V.un, V.au, V.gu, V.cu, V.wk⟩, by rw [he, ← hxl], ⟨hz, (ca_ins hc1 ⟨rfl, Acc.nil _ _ _ _ _ h0 (by omega)⟩), hc2, hc3⟩, fun _ => by rw [he]; simp [SG.st, HR.hul]⟩, u_d⟩
   refine go ?_
   refine y_sliceFrom (a) underlying34 sizeOf46 rfl rfl rfl rfl rfl (by omega) (by omega) (y_same 76 (v := .slice (subAddr V.ah V.ch a 3) ((V.rs.drop a).length) (V.ch - a)) rfl (by rw [List.length_drop]) ?_)
   refine go ?_
   have D136 := ((A92.keep u97 (fun _ h => h)).keep u102 (fun _ h => h))
   refine t_append (z := .agg #[.int .i64 0, .int .i64 0, .slice none 0 0]) (bytes := 40) (k := 3) (base := bk82) (⟨x.h, x.p, none, 0, 0, 0, []⟩ : HR) underlying34 (by kernel_rfl) rfl (by decide) (fun _ => rfl) (by intro x; simp [encHR, Value.oneCell']) rfl rfl rfl rfl D136 B101 (by omega) (by rw [List.length_take]; omega) (by decide) (fun ao137 gb138 cp139 w140 A141 u142 gegb138 lngb138 => ?_)
   have zu142 := u142.size
   have lt_gb138 := A141.lt
   refine go ?_
   have D144 := ((((D87.keep u93 (fun hb => show ¬ ((V.gh = bk82 ∧ bk82 ≤ V.gh)) by first | omega | assumption)).keep u97 (fun _ h => h)).keep u102 (fun _ h => h)).keep u142 (fun hb => show ¬ ((V.gh = gb89 ∧ bk82 ≤ V.gh)) by first | omega | assumption))
   refine t_appendAll (enc := encHR) (z := .agg #[.int .i64 0, .int .i64 0, .slice none 0 0]) (bytes := 40) (k := 3) (base := bk82) (xs := ((V.rs.take a) ++ [(⟨x.h, x.p, none, 0, 0, 0, []⟩ : HR)])) (ys := (V.rs.drop a)) underlying34 (by kernel_rfl) rfl (by decide) (fun _ => rfl) (by intro x; simp [encHR, Value.oneCell']) rfl rfl rfl rfl A141 (Sl.dropN (l := a) (D144.sl (fun _ => rfl)) hcap) (by omega) (by rw [List.length_append, List.length_take]; simp only [List.length_cons, List.length_nil]; omega) (by rw [List.length_drop]; omega) (by decide) (fun ao145 gb146 cp147 w148 A149 u150 gegb146 lngb146 => ?_)
   have zu150 := u150.size
   have lt_gb146 := A149.lt
   refine go ?_
   refine x_s fun w152 sw152 B154 u153 => ?_
   refine go ?_
   refine x_s fun w157 sw157 B159 u158 => ?_
   refine go ?_
   refine x_s fun w162 sw162 B164 u163 => ?_
   refine go ?_
   refine f_ret2 (v1 := .agg #[.int .i64 x.m, .slice ao145 (((((V.rs.take a) ++ [(⟨x.h, x.p, none, 0, 0, 0, []⟩ : HR)]) ++ (V.rs.drop a))).length) cp147, .slice V.al V.ld.length V.cl, .slice V.au V.un.length V.cu, .int .i64 V.wk]) (v2 := .int .i64 0) results59 ⟨_, _, rfl, run_loadVarN (vs := [.int .i64 x.m, .slice ao145 (((((V.rs.take a) ++ [(⟨x.h, x.p, none, 0, 0, 0, []⟩ : HR)]) ++ (V.rs.drop a))).length) cp147, .slice V.al V.ld.length V.cl, .slice V.au V.un.length V.cu, .int .i64 V.wk]) isAgg37 sizeOf37 rfl (B164.at.sub 0 5)⟩ rfl ?_
   have D167 := (((A149.keep u153 (fun hb => show ¬ (gb146 = bk2) by first | omega | assumption)).keep u158 (fun hb => show ¬ (gb146 = bk2) by first | omega | assumption)).keep u163 (fun hb => show ¬ (gb146 = bk12) by first | omega | assumption))
   obtain ⟨gz, hz⟩ := Acc.lower (base' := base) D167 (by omega) h0
   have hxl : V.rs.take a ++ [(⟨x.h, x.p, none, 0, 0, 0, []⟩ : HR)] ++ V.rs.drop a = V.rs.take a ++ (⟨x.h, x.p, none, 0, 0, 0, []⟩ : HR) :: V.rs.drop a := by simp
   rw [hxl] at hz
   have he : stepP V.st x = (0, { V.st with hs := V.st.hs.take a ++ (⟨x.h, x.p, []⟩ : Hul) :: V.st.hs.drop a }) := by rw [stpB hx g18 g56 hpk, if_neg hz8]
   obtain ⟨hc1, hc2, hc3⟩ := hI.keepC (((((E103.u.next u142 (fun i hi h => by omega)).next u150 (fun i hi h => by omega)).next u153 (fun i hi h => by omega)).next u158 (fun i hi h => by omega)).next u163 (fun i hi h => by omega))
   exact ⟨⟨⟨x.m, V.rs.take a ++ (⟨x.h, x.p, none, 0, 0, 0, []⟩ : HR) :: V.rs.drop a, ao145, gz, cp147, V.ld, V.al, V.gl, V.cl, V.un, V.au, V.gu, V.cu, V.wk⟩, by rw [he, ← hxl], ⟨hz, (ca_ins hc1 ⟨rfl, Acc.nil _ _ _ _ _ h0 (by omega)⟩), hc2, hc3⟩, fun _ => by rw [he]; simp [SG.st, HR.hul]⟩, u_d⟩
  refine go ?_
  refine y_sliceFrom (a) underlying34 sizeOf46 rfl rfl rfl rfl rfl (by omega) (by omega) (y_same 76 (v := .slice (subAddr V.ah V.ch a 3) ((V.rs.drop a).length) (V.ch - a)) rfl (by rw [List.length_drop]) ?_)
  refine go ?_
  refine x_l fun bk168 w169 ebk168 sbk168 B170 u171 => ?_
  refine go ?_
  have D173 := ((A92.keep u97 (fun _ h => h)).keep u171 (fun _ h => h))
  refine t_append (z := .agg #[.int .i64 0, .int .i64 0, .slice none 0 0]) (bytes := 40) (k := 3) (base := bk82) (⟨x.h, x.p, none, 0, 0, 0, []⟩ : HR) underlying34 (by kernel_rfl) rfl (by decide) (fun _ => rfl) (by intro x; simp [encHR, Value.oneCell']) rfl rfl rfl rfl D173 B170 (by omega) (by rw [List.length_take]; omega) (by decide) (fun ao174 gb175 cp176 w177 A178 u179 gegb175 lngb175 => ?_)
  have zu179 := u179.size
  have lt_gb175 := A178.lt
  refine go ?_
  have D181 := ((((D87.keep u93 (fun hb => show ¬ ((V.gh = bk82 ∧ bk82 ≤ V.gh)) by first | omega | assumption)).keep u97 (fun _ h => h)).keep u171 (fun _ h => h)).keep u179 (fun hb => show ¬ ((V.gh = gb89 ∧ bk82 ≤ V.gh)) by first | omega | assumption))
  refine t_appendAll (enc := encHR) (z := .agg #[.int .i64 0, .int .i64 0, .slice none 0 0]) (bytes := 40) (k := 3) (base := bk82) (xs := ((V.rs.take a) ++ [(⟨x.h, x.p, none, 0, 0, 0, []⟩ : HR)])) (ys := (V.rs.drop a)) underlying34 (by kernel_rfl) rfl (by decide) (fun _ => rfl) (by intro x; simp [encHR, Value.oneCell']) rfl rfl rfl rfl A178 (Sl.dropN (l := a) (D181.sl (fun _ => rfl)) hcap) (by omega) (by rw [List.length_append, List.length_take]; simp only [List.length_cons, List.length_nil]; omega) (by rw [List.length_drop]; omega) (by decide) (fun ao182 gb183 cp184 w185 A186 u187 gegb183 lngb183 => ?_)
  have zu187 := u187.size
  have lt_gb183 := A186.lt
  refine go ?_
  refine x_s fun w189 sw189 B191 u190 => ?_
  refine go ?_
  refine x_s fun w194 sw194 B196 u195 => ?_
  refine go ?_
  refine x_s fun w199 sw199 B201 u200 => ?_
  refine go ?_
  refine f_ret2 (v1 := .agg #[.int .i64 x.m, .slice ao182 (((((V.rs.take a) ++ [(⟨x.h, x.p, none, 0, 0, 0, []⟩ : HR)]) ++ (V.rs.drop a))).length) cp184, .slice V.al V.ld.length V.cl, .slice V.au V.un.length V.cu, .int .i64 V.wk]) (v2 := .int .i64 0) results59 ⟨_, _, rfl, run_loadVarN (vs := [.int .i64 x.m, .slice ao182 (((((V.rs.take a) ++ [(⟨x.h, x.p, none, 0, 0, 0, []⟩ : HR)]) ++ (V.rs.drop a))).length) cp184, .slice V.al V.ld.length V.cl, .slice V.au V.un.length V.cu, .int .i64 V.wk]) isAgg37 sizeOf37 rfl (B201.at.sub 0 5)⟩ rfl ?_
  have D204 := (((A186.keep u190 (fun hb => show ¬ (gb183 = bk2) by first | omega | assumption)).keep u195 (fun hb => show ¬ (gb183 = bk2) by first | omega | assumption)).keep u200 (fun hb => show ¬ (gb183 = bk12) by first | omega | assumption))
  obtain ⟨gz, hz⟩ := Acc.lower (base' := base) D204 (by omega) h0
  have hxl : V.rs.take a ++ [(⟨x.h, x.p, none, 0, 0, 0, []⟩ : HR)] ++ V.rs.drop a = V.rs.take a ++ (⟨x.h, x.p, none, 0, 0, 0, []⟩ : HR) :: V.rs.drop a := by simp
  rw [hxl] at hz
  have he : stepP V.st x = (0, { V.st with hs := V.st.hs.take a ++ (⟨x.h, x.p, []⟩ : Hul) :: V.st.hs.drop a }) := by rw [stpB hx g18 g56 hpk, if_neg hz8]
  obtain ⟨hc1, hc2, hc3⟩ := hI.keepC ((((((E98.u.nx u171).next u179 (fun i hi h => by omega)).next u187 (fun i hi h => by omega)).next u190 (fun i hi h => by omega)).next u195 (fun i hi h => by omega)).next u200 (fun i hi h => by omega))
  exact ⟨⟨⟨x.m, V.rs.take a ++ (⟨x.h, x.p, none, 0, 0, 0, []⟩ : HR) :: V.rs.drop a, ao182, gz, cp184, V.ld, V.al, V.gl, V.cl, V.un, V.au, V.gu, V.cu, V.wk⟩, by rw [he, ← hxl], ⟨hz, (ca_ins hc1 ⟨rfl, Acc.nil _ _ _ _ _ h0 (by omega)⟩), hc2, hc3⟩, fun _ => by rw [he]; simp [SG.st, HR.hul]⟩, u_d⟩
 refine go ?_
 refine q_b (fun g84 => ?_) fun g84 => ?_
 ·
  have hz8 : ¬ (a < V.rs.length ∧ (nth V.rs a).n = x.h) := by
    have h9 : z7 = false := by simpa using g84
    rw [hz7] at h9
    exact of_decide_eq_false h9
  refine go ?_
  refine x_s fun w208 sw208 B210 u209 => ?_
  refine go ?_
  refine f_ret2 (v1 := .agg #[.int .i64 V.m, .slice V.ah V.rs.length V.ch, .slice V.al V.ld.length V.cl, .slice V.au V.un.length V.cu, .int .i64 V.wk]) (v2 := .int .i64 7) results59 ⟨_, _, rfl, run_loadVarN (vs := [.int .i64 V.m, .slice V.ah V.rs.length V.ch, .slice V.al V.ld.length V.cl, .slice V.au V.un.length V.cu, .int .i64 V.wk]) isAgg37 sizeOf37 rfl (B210.at.sub 0 5)⟩ rfl ?_
  have D212 := ((((((((hH.keep u5 (fun _ h => h)).keep u10 (fun _ h => h)).keep u15 (fun _ h => h)).keep u21 (fun _ h => h)).keep u42 (fun _ h => h)).keep u51 (fun _ h => h)).keep u64 (fun _ h => h)).keep u209 (fun hb => show ¬ (V.gh = bk12) by first | omega | assumption))
  have he := stp7 hx g18 g56 hpk hz8
  obtain ⟨hc1, hc2, hc3⟩ := hI.keepC (E70.u.next u209 (fun i hi h => by omega))
  exact ⟨⟨V, by rw [he], ⟨D212, hc1, hc2, hc3⟩, fun h9 => by rw [he] at h9; simp at h9⟩, u_d⟩
 have hz8 : (a < V.rs.length ∧ (nth V.rs a).n = x.h) := by
   have h9 : z7 = true := by simpa using g84
   rw [hz7] at h9
   exact of_decide_eq_true h9
 have hna := nth_mem hz8.1
 have hbg : base ≤ V.gh := hH.ge (by omega)
 have hrh := hok.rhul _ hna
 have hclen := hrh.2.2.1.len
 have hct : ∀ y ∈ (nth V.rs a).c, 0 ≤ y.t ∧ y.t ≤ 1000000000000 := fun y hy => by have := (hrh.2.2.1.2 y hy).2; omega
 have htr := fun b => tonP_range (bill := b) hct
 have hstD := stpD hx g18 g56 hpk hz8
 refine go ?_
 have D214 := (((((((hH.keep u5 (fun _ h => h)).keep u10 (fun _ h => h)).keep u15 (fun _ h => h)).keep u21 (fun _ h => h)).keep u42 (fun _ h => h)).keep u51 (fun _ h => h)).keep u64 (fun _ h => h))
 refine g_i a (D214.sl (fun _ => rfl)) (fun _ => ?_)
 refine go ?_
 refine q_p (fun g92 => ?_) fun g92 => ?_
 ·
  refine go ?_
  refine c_drawnM follows (fun _ => False) (OTl [0, 2, 4, 6, 10, 12, 9, 14, 16]) (by kernel_rfl) fun w220 u221 => ?_
  have zu221 := u221.size
  have E222 := Sc.mk (E70.u.nx u221)
  refine go ?_
  refine x_c func105 rfl rfl (rTons_c (nth V.rs a).c (nth V.rs a).ao (nth V.rs a).g 0 (nth V.rs a).cp 0 _ (((hI.ca _ hna).2.keep E222.u (fun hb hs => (hI.ca _ hna).2.neA hI.ha (by decide) hb hbg hs.1)).sl (fun _ => rfl)) hclen hct) ?_
  rintro _ w224 ⟨rfl, u225⟩ zu225
  have E227 := Sc.mk (E222.u.nx u225)
  have htb := htr 0
  refine go ?_
  refine q_p (fun g101 => ?_) fun g101 => ?_
  ·
   refine go ?_
   refine x_s fun w229 sw229 B231 u230 => ?_
   refine go ?_
   refine f_ret2 (v1 := .agg #[.int .i64 V.m, .slice V.ah V.rs.length V.ch, .slice V.al V.ld.length V.cl, .slice V.au V.un.length V.cu, .int .i64 V.wk]) (v2 := .int .i64 8) results59 ⟨_, _, rfl, run_loadVarN (vs := [.int .i64 V.m, .slice V.ah V.rs.length V.ch, .slice V.al V.ld.length V.cl, .slice V.au V.un.length V.cu, .int .i64 V.wk]) isAgg37 sizeOf37 rfl (B231.at.sub 0 5)⟩ rfl ?_
   have D233 := (((D214.keep u221 (fun _ h => h)).keep u225 (fun _ h => h)).keep u230 (fun hb => show ¬ (V.gh = bk12) by first | omega | assumption))
   have he : stepP V.st x = (8, V.st) := by rw [hstD, if_pos g92, loadP_v hz8.1, if_pos (by omega)]
   obtain ⟨hc1, hc2, hc3⟩ := hI.keepC (E227.u.next u230 (fun i hi h => by omega))
   exact ⟨⟨V, by rw [he], ⟨D233, hc1, hc2, hc3⟩, fun h9 => by rw [he] at h9; simp at h9⟩, u_d⟩
  refine go ?_
  refine c_drawnM follows (fun i => i = V.gh ∨ i = bk2) (.look 0 (.look 1 (.look 2 (.look 3 (.look 5 (.look 6 (.look 7 (.look 8 (.look 10 (.look 12 (.look 13 (.look 14 (.look 15 (.act 4 (.act 9 (.act 11 (.act 16 (.look 17 (.look 18 (.act 19 (.look 20 (.act 21 .done .stop)) .stop))) .stop) .stop) (.act 11 (.act 9 (.act 16 (.look 17 (.look 18 (.act 19 (.look 20 (.act 21 .done .stop)) .stop))) .stop) .stop) .stop)) (.act 11 (.act 4 (.act 9 (.act 16 (.look 17 (.look 18 (.act 19 (.look 20 (.act 21 .done .stop)) .stop))) .stop) .stop) .stop) .stop))))))))))))))) (by kernel_rfl) fun w234 u235 => ?_
  have zu235 := u235.size
  have E236 := Sc.mk (E227.u.nx u235)
  refine go ?_
  refine s_or ?_ ?_
  ·
   refine go ?_
   refine s_or ?_ ?_
   ·
    refine go ?_
    refine x_c func106 rfl rfl (radd_c (nth V.rs a).c (nth V.rs a).ao (nth V.rs a).g 0 (nth V.rs a).cp x.b x.t _ (((hI.ca _ hna).2.keep E236.u (fun hb hs => (hI.ca _ hna).2.neA hI.ha (by decide) hb hbg hs.1)).sl (fun _ => rfl)) hclen hct (by omega) (by omega) (by omega)) ?_
    rintro _ w239 ⟨⟨an237, gn237, cn237, rfl, hFn237⟩, u240⟩ zu240
    obtain ⟨yn237, hyn237, hygn237⟩ := Acc.lowG (base' := base) hFn237 (by omega) h0 (by omega)
    have ltyn237 := hyn237.lt
    refine go ?_
    have D243 := (((((((((((hL.keep u5 (fun _ h => h)).keep u10 (fun _ h => h)).keep u15 (fun _ h => h)).keep u21 (fun _ h => h)).keep u42 (fun _ h => h)).keep u51 (fun _ h => h)).keep u64 (fun _ h => h)).keep u221 (fun _ h => h)).keep u225 (fun _ h => h)).keep u235 (fun _ h => h)).keep u240 (fun _ h => h))
    refine x_c func106 rfl rfl (radd_c V.ld V.al V.gl 0 V.cl x.b x.t _ (D243.sl (fun _ => rfl)) hlldlen hlldt (by omega) (by omega) (by omega)) ?_
    rintro _ w246 ⟨⟨an244, gn244, cn244, rfl, hFn244⟩, u247⟩ zu247
    obtain ⟨yn244, hyn244, hygn244⟩ := Acc.lowG (base' := base) hFn244 (by omega) h0 (by omega)
    have ltyn244 := hyn244.lt
    refine go ?_
    have D250 := (((((D214.keep u221 (fun _ h => h)).keep u225 (fun _ h => h)).keep u235 (fun _ h => h)).keep u240 (fun _ h => h)).keep u247 (fun _ h => h))
    refine t_storeA (vs := [.slice an237 (List.length (bookP x.b x.t (nth V.rs a).c)) cn237]) (j := a) (o' := 2) (k := 3) (⟨(nth V.rs a).n, (nth V.rs a).p, an237, yn237, 0, cn237, (bookP x.b x.t (nth V.rs a).c)⟩ : HR) (fun _ => rfl) sizeOf35 rfl rfl (by omega) rfl D250 (by first | omega | (simp only [List.length_set, eRuns_len]; omega)) rfl rfl (by decide) (by simp [Value.oneCell']) rfl (fun w251 R253 u252 => ?_)
    have zu252 := u252.size
    refine go ?_
    refine x_s fun w255 sw255 B257 u256 => ?_
    refine go ?_
    refine q_p (fun g125 => ?_) fun g125 => ?_
    ·
     exact (by omega : False).elim
    refine go ?_
    refine q_p (fun g166 => ?_) fun g166 => ?_
    ·
     exact (by omega : False).elim
    refine go ?_
    refine x_s fun w264 sw264 B266 u265 => ?_
    refine go ?_
    refine x_s fun w269 sw269 B271 u270 => ?_
    refine go ?_
    refine f_ret2 (v1 := .agg #[.int .i64 x.m, .slice V.ah V.rs.length V.ch, .slice an244 (List.length (bookP x.b x.t V.ld)) cn244, .slice V.au V.un.length V.cu, .int .i64 V.wk]) (v2 := .int .i64 0) results59 ⟨_, _, rfl, run_loadVarN (vs := [.int .i64 x.m, .slice V.ah V.rs.length V.ch, .slice an244 (List.length (bookP x.b x.t V.ld)) cn244, .slice V.au V.un.length V.cu, .int .i64 V.wk]) isAgg37 sizeOf37 rfl (B271.at.sub 0 5)⟩ rfl ?_
    have D273 := (((R253.keep u256 (fun hb => show ¬ (V.gh = bk2) by first | omega | assumption)).keep u265 (fun hb => show ¬ (V.gh = bk2) by first | omega | assumption)).keep u270 (fun hb => show ¬ (V.gh = bk12) by first | omega | assumption))
    have D274 := (((((hyn237.keep u247 (fun _ h => h)).keep u252 (fun hb => by have h9 := hygn237 hb; show ¬ (yn237 = V.gh); first | omega | assumption)).keep u256 (fun hb => by have h9 := hygn237 hb; show ¬ (yn237 = bk2); first | omega | assumption)).keep u265 (fun hb => by have h9 := hygn237 hb; show ¬ (yn237 = bk2); first | omega | assumption)).keep u270 (fun hb => by have h9 := hygn237 hb; show ¬ (yn237 = bk12); first | omega | assumption))
    have D275 := ((((hyn244.keep u252 (fun hb => by have h9 := hygn244 hb; show ¬ (yn244 = V.gh); first | omega | assumption)).keep u256 (fun hb => by have h9 := hygn244 hb; show ¬ (yn244 = bk2); first | omega | assumption)).keep u265 (fun hb => by have h9 := hygn244 hb; show ¬ (yn244 = bk2); first | omega | assumption)).keep u270 (fun hb => by have h9 := hygn244 hb; show ¬ (yn244 = bk12); first | omega | assumption))
    have he : stepP V.st x = (0, { V.st with hs := V.st.hs.set a ⟨(nth V.rs a).n, (nth V.rs a).p, bookP x.b x.t (nth V.rs a).c⟩, ld := bookP x.b x.t V.ld }) := by rw [hstD, if_pos g92, loadP_v hz8.1, if_neg (by omega)]
    obtain ⟨hc1, hc2, hc3⟩ := hI.keepC ((((((E236.u.nx u240).nx u247).next u252 (fun i hi h => by omega)).next u256 (fun i hi h => by omega)).next u265 (fun i hi h => by omega)).next u270 (fun i hi h => by omega))
    exact ⟨⟨⟨x.m, V.rs.set a (⟨(nth V.rs a).n, (nth V.rs a).p, an237, yn237, 0, cn237, (bookP x.b x.t (nth V.rs a).c)⟩ : HR), V.ah, V.gh, V.ch, (bookP x.b x.t V.ld), an244, yn244, cn244, V.un, V.au, V.gu, V.cu, V.wk⟩, by rw [he, List.length_set], ⟨D273, (ca_set hc1 ⟨rfl, D274⟩), D275, hc3⟩, fun _ => by rw [he]; simp [SG.st, HR.hul, List.map_set]⟩, u_d⟩
   refine go ?_
   refine x_c func106 rfl rfl (radd_c (nth V.rs a).c (nth V.rs a).ao (nth V.rs a).g 0 (nth V.rs a).cp x.b x.t _ (((hI.ca _ hna).2.keep E236.u (fun hb hs => (hI.ca _ hna).2.neA hI.ha (by decide) hb hbg hs.1)).sl (fun _ => rfl)) hclen hct (by omega) (by omega) (by omega)) ?_
   rintro _ w278 ⟨⟨an276, gn276, cn276, rfl, hFn276⟩, u279⟩ zu279
   obtain ⟨yn276, hyn276, hygn276⟩ := Acc.lowG (base' := base) hFn276 (by omega) h0 (by omega)
   have ltyn276 := hyn276.lt
   refine go ?_
   have D282 := (((((((((((hL.keep u5 (fun _ h => h)).keep u10 (fun _ h => h)).keep u15 (fun _ h => h)).keep u21 (fun _ h => h)).keep u42 (fun _ h => h)).keep u51 (fun _ h => h)).keep u64 (fun _ h => h)).keep u221 (fun _ h => h)).keep u225 (fun _ h => h)).keep u235 (fun _ h => h)).keep u279 (fun _ h => h))
   refine x_c func106 rfl rfl (radd_c V.ld V.al V.gl 0 V.cl x.b x.t _ (D282.sl (fun _ => rfl)) hlldlen hlldt (by omega) (by omega) (by omega)) ?_
   rintro _ w285 ⟨⟨an283, gn283, cn283, rfl, hFn283⟩, u286⟩ zu286
   obtain ⟨yn283, hyn283, hygn283⟩ := Acc.lowG (base' := base) hFn283 (by omega) h0 (by omega)
   have ltyn283 := hyn283.lt
   refine go ?_
   have D289 := (((((D214.keep u221 (fun _ h => h)).keep u225 (fun _ h => h)).keep u235 (fun _ h => h)).keep u279 (fun _ h => h)).keep u286 (fun _ h => h))
   refine t_storeA (vs := [.slice an276 (List.length (bookP x.b x.t (nth V.rs a).c)) cn276]) (j := a) (o' := 2) (k := 3) (⟨(nth V.rs a).n, (nth V.rs a).p, an276, yn276, 0, cn276, (bookP x.b x.t (nth V.rs a).c)⟩ : HR) (fun _ => rfl) sizeOf35 rfl rfl (by omega) rfl D289 (by first | omega | (simp only [List.length_set, eRuns_len]; omega)) rfl rfl (by decide) (by simp [Value.oneCell']) rfl (fun w290 R292 u291 => ?_)
   have zu291 := u291.size
   refine go ?_
   refine x_s fun w294 sw294 B296 u295 => ?_
   refine go ?_
   refine q_p (fun g125 => ?_) fun g125 => ?_
   ·
    exact (by omega : False).elim
   refine go ?_
   refine q_p (fun g166 => ?_) fun g166 => ?_
   ·
    exact (by omega : False).elim
   refine go ?_
   refine x_s fun w303 sw303 B305 u304 => ?_
   refine go ?_
   refine x_s fun w308 sw308 B310 u309 => ?_
   refine go ?_
   refine f_ret2 (v1 := .agg #[.int .i64 x.m, .slice V.ah V.rs.length V.ch, .slice an283 (List.length (bookP x.b x.t V.ld)) cn283, .slice V.au V.un.length V.cu, .int .i64 V.wk]) (v2 := .int .i64 0) results59 ⟨_, _, rfl, run_loadVarN (vs := [.int .i64 x.m, .slice V.ah V.rs.length V.ch, .slice an283 (List.length (bookP x.b x.t V.ld)) cn283, .slice V.au V.un.length V.cu, .int .i64 V.wk]) isAgg37 sizeOf37 rfl (B310.at.sub 0 5)⟩ rfl ?_
   have D312 := (((R292.keep u295 (fun hb => show ¬ (V.gh = bk2) by first | omega | assumption)).keep u304 (fun hb => show ¬ (V.gh = bk2) by first | omega | assumption)).keep u309 (fun hb => show ¬ (V.gh = bk12) by first | omega | assumption))
   have D313 := (((((hyn276.keep u286 (fun _ h => h)).keep u291 (fun hb => by have h9 := hygn276 hb; show ¬ (yn276 = V.gh); first | omega | assumption)).keep u295 (fun hb => by have h9 := hygn276 hb; show ¬ (yn276 = bk2); first | omega | assumption)).keep u304 (fun hb => by have h9 := hygn276 hb; show ¬ (yn276 = bk2); first | omega | assumption)).keep u309 (fun hb => by have h9 := hygn276 hb; show ¬ (yn276 = bk12); first | omega | assumption))
   have D314 := ((((hyn283.keep u291 (fun hb => by have h9 := hygn283 hb; show ¬ (yn283 = V.gh); first | omega | assumption)).keep u295 (fun hb => by have h9 := hygn283 hb; show ¬ (yn283 = bk2); first | omega | assumption)).keep u304 (fun hb => by have h9 := hygn283 hb; show ¬ (yn283 = bk2); first | omega | assumption)).keep u309 (fun hb => by have h9 := hygn283 hb; show ¬ (yn283 = bk12); first | omega | assumption))
   have he : stepP V.st x = (0, { V.st with hs := V.st.hs.set a ⟨(nth V.rs a).n, (nth V.rs a).p, bookP x.b x.t (nth V.rs a).c⟩, ld := bookP x.b x.t V.ld }) := by rw [hstD, if_pos g92, loadP_v hz8.1, if_neg (by omega)]
   obtain ⟨hc1, hc2, hc3⟩ := hI.keepC ((((((E236.u.nx u279).nx u286).next u291 (fun i hi h => by omega)).next u295 (fun i hi h => by omega)).next u304 (fun i hi h => by omega)).next u309 (fun i hi h => by omega))
   exact ⟨⟨⟨x.m, V.rs.set a (⟨(nth V.rs a).n, (nth V.rs a).p, an276, yn276, 0, cn276, (bookP x.b x.t (nth V.rs a).c)⟩ : HR), V.ah, V.gh, V.ch, (bookP x.b x.t V.ld), an283, yn283, cn283, V.un, V.au, V.gu, V.cu, V.wk⟩, by rw [he, List.length_set], ⟨D312, (ca_set hc1 ⟨rfl, D313⟩), D314, hc3⟩, fun _ => by rw [he]; simp [SG.st, HR.hul, List.map_set]⟩, u_d⟩
  refine go ?_
  refine x_c func106 rfl rfl (radd_c (nth V.rs a).c (nth V.rs a).ao (nth V.rs a).g 0 (nth V.rs a).cp x.b x.t _ (((hI.ca _ hna).2.keep E236.u (fun hb hs => (hI.ca _ hna).2.neA hI.ha (by decide) hb hbg hs.1)).sl (fun _ => rfl)) hclen hct (by omega) (by omega) (by omega)) ?_
  rintro _ w317 ⟨⟨an315, gn315, cn315, rfl, hFn315⟩, u318⟩ zu318
  obtain ⟨yn315, hyn315, hygn315⟩ := Acc.lowG (base' := base) hFn315 (by omega) h0 (by omega)
  have ltyn315 := hyn315.lt
  refine go ?_
  have D321 := (((((((((((hL.keep u5 (fun _ h => h)).keep u10 (fun _ h => h)).keep u15 (fun _ h => h)).keep u21 (fun _ h => h)).keep u42 (fun _ h => h)).keep u51 (fun _ h => h)).keep u64 (fun _ h => h)).keep u221 (fun _ h => h)).keep u225 (fun _ h => h)).keep u235 (fun _ h => h)).keep u318 (fun _ h => h))
  refine x_c func106 rfl rfl (radd_c V.ld V.al V.gl 0 V.cl x.b x.t _ (D321.sl (fun _ => rfl)) hlldlen hlldt (by omega) (by omega) (by omega)) ?_
  rintro _ w324 ⟨⟨an322, gn322, cn322, rfl, hFn322⟩, u325⟩ zu325
  obtain ⟨yn322, hyn322, hygn322⟩ := Acc.lowG (base' := base) hFn322 (by omega) h0 (by omega)
  have ltyn322 := hyn322.lt
  refine go ?_
  have D328 := (((((D214.keep u221 (fun _ h => h)).keep u225 (fun _ h => h)).keep u235 (fun _ h => h)).keep u318 (fun _ h => h)).keep u325 (fun _ h => h))
  refine t_storeA (vs := [.slice an315 (List.length (bookP x.b x.t (nth V.rs a).c)) cn315]) (j := a) (o' := 2) (k := 3) (⟨(nth V.rs a).n, (nth V.rs a).p, an315, yn315, 0, cn315, (bookP x.b x.t (nth V.rs a).c)⟩ : HR) (fun _ => rfl) sizeOf35 rfl rfl (by omega) rfl D328 (by first | omega | (simp only [List.length_set, eRuns_len]; omega)) rfl rfl (by decide) (by simp [Value.oneCell']) rfl (fun w329 R331 u330 => ?_)
  have zu330 := u330.size
  refine go ?_
  refine x_s fun w333 sw333 B335 u334 => ?_
  refine go ?_
  refine q_p (fun g125 => ?_) fun g125 => ?_
  ·
   exact (by omega : False).elim
  refine go ?_
  refine q_p (fun g166 => ?_) fun g166 => ?_
  ·
   exact (by omega : False).elim
  refine go ?_
  refine x_s fun w342 sw342 B344 u343 => ?_
  refine go ?_
  refine x_s fun w347 sw347 B349 u348 => ?_
  refine go ?_
  refine f_ret2 (v1 := .agg #[.int .i64 x.m, .slice V.ah V.rs.length V.ch, .slice an322 (List.length (bookP x.b x.t V.ld)) cn322, .slice V.au V.un.length V.cu, .int .i64 V.wk]) (v2 := .int .i64 0) results59 ⟨_, _, rfl, run_loadVarN (vs := [.int .i64 x.m, .slice V.ah V.rs.length V.ch, .slice an322 (List.length (bookP x.b x.t V.ld)) cn322, .slice V.au V.un.length V.cu, .int .i64 V.wk]) isAgg37 sizeOf37 rfl (B349.at.sub 0 5)⟩ rfl ?_
  have D351 := (((R331.keep u334 (fun hb => show ¬ (V.gh = bk2) by first | omega | assumption)).keep u343 (fun hb => show ¬ (V.gh = bk2) by first | omega | assumption)).keep u348 (fun hb => show ¬ (V.gh = bk12) by first | omega | assumption))
  have D352 := (((((hyn315.keep u325 (fun _ h => h)).keep u330 (fun hb => by have h9 := hygn315 hb; show ¬ (yn315 = V.gh); first | omega | assumption)).keep u334 (fun hb => by have h9 := hygn315 hb; show ¬ (yn315 = bk2); first | omega | assumption)).keep u343 (fun hb => by have h9 := hygn315 hb; show ¬ (yn315 = bk2); first | omega | assumption)).keep u348 (fun hb => by have h9 := hygn315 hb; show ¬ (yn315 = bk12); first | omega | assumption))
  have D353 := ((((hyn322.keep u330 (fun hb => by have h9 := hygn322 hb; show ¬ (yn322 = V.gh); first | omega | assumption)).keep u334 (fun hb => by have h9 := hygn322 hb; show ¬ (yn322 = bk2); first | omega | assumption)).keep u343 (fun hb => by have h9 := hygn322 hb; show ¬ (yn322 = bk2); first | omega | assumption)).keep u348 (fun hb => by have h9 := hygn322 hb; show ¬ (yn322 = bk12); first | omega | assumption))
  have he : stepP V.st x = (0, { V.st with hs := V.st.hs.set a ⟨(nth V.rs a).n, (nth V.rs a).p, bookP x.b x.t (nth V.rs a).c⟩, ld := bookP x.b x.t V.ld }) := by rw [hstD, if_pos g92, loadP_v hz8.1, if_neg (by omega)]
  obtain ⟨hc1, hc2, hc3⟩ := hI.keepC ((((((E236.u.nx u318).nx u325).next u330 (fun i hi h => by omega)).next u334 (fun i hi h => by omega)).next u343 (fun i hi h => by omega)).next u348 (fun i hi h => by omega))
  exact ⟨⟨⟨x.m, V.rs.set a (⟨(nth V.rs a).n, (nth V.rs a).p, an315, yn315, 0, cn315, (bookP x.b x.t (nth V.rs a).c)⟩ : HR), V.ah, V.gh, V.ch, (bookP x.b x.t V.ld), an322, yn322, cn322, V.un, V.au, V.gu, V.cu, V.wk⟩, by rw [he, List.length_set], ⟨D351, (ca_set hc1 ⟨rfl, D352⟩), D353, hc3⟩, fun _ => by rw [he]; simp [SG.st, HR.hul, List.map_set]⟩, u_d⟩
 refine go ?_
 refine q_p (fun g125 => ?_) fun g125 => ?_
 ·
  refine go ?_
  refine c_drawnM follows (fun _ => False) (OTl [0, 2, 4, 6, 8, 10, 12]) (by kernel_rfl) fun w358 u359 => ?_
  have zu359 := u359.size
  have E360 := Sc.mk (E70.u.nx u359)
  refine go ?_
  refine q_p (fun g132 => ?_) fun g132 => ?_
  ·
   refine go ?_
   refine x_s fun w362 sw362 B364 u363 => ?_
   refine go ?_
   refine f_ret2 (v1 := .agg #[.int .i64 V.m, .slice V.ah V.rs.length V.ch, .slice V.al V.ld.length V.cl, .slice V.au V.un.length V.cu, .int .i64 V.wk]) (v2 := .int .i64 9) results59 ⟨_, _, rfl, run_loadVarN (vs := [.int .i64 V.m, .slice V.ah V.rs.length V.ch, .slice V.al V.ld.length V.cl, .slice V.au V.un.length V.cu, .int .i64 V.wk]) isAgg37 sizeOf37 rfl (B364.at.sub 0 5)⟩ rfl ?_
   have D366 := ((D214.keep u359 (fun _ h => h)).keep u363 (fun hb => show ¬ (V.gh = bk12) by first | omega | assumption))
   have he : stepP V.st x = (9, V.st) := by rw [hstD, if_neg g92, if_pos g125, sailP_v hz8.1, if_pos (by omega)]
   obtain ⟨hc1, hc2, hc3⟩ := hI.keepC (E360.u.next u363 (fun i hi h => by omega))
   exact ⟨⟨V, by rw [he], ⟨D366, hc1, hc2, hc3⟩, fun h9 => by rw [he] at h9; simp at h9⟩, u_d⟩
  have hmr := mul_range (a := tonP 0 (nth V.rs a).c) (m := 100000) (b := max ((nth V.rs a).p - x.p) (x.p - (nth V.rs a).p)) (n := 100000) (by have := htr 0; omega) (by omega)
  have hwk := hok.wk
  change 0 ≤ V.wk ∧ V.wk ≤ T * 100000 at hwk
  refine go ?_
  refine c_drawnM follows (fun i => i = bk2) (.look 0 (.look 2 (.look 3 (.look 4 (.look 5 (.look 7 (.look 8 (.look 9 (.look 10 (.look 11 (.look 12 (.look 13 (.look 14 (.look 15 (.look 16 (.look 17 (.look 18 (.look 19 (.look 20 (.look 21 (.act 1 (.act 6 (.look 22 (.look 23 (.look 24 (.act 25 .done .stop)))) .stop) (.act 6 (.look 22 (.act 1 (.look 23 (.look 24 (.act 25 .done .stop))) .stop)) .stop)))))))))))))))))))))) (by kernel_rfl) fun w368 u369 => ?_
  have zu369 := u369.size
  have E370 := Sc.mk (E360.u.nx u369)
  refine go ?_
  refine y_max rfl rfl rfl rfl (s_or ?_ ?_)
  ·
   refine go ?_
   refine x_c func105 rfl rfl (rTons_c (nth V.rs a).c (nth V.rs a).ao (nth V.rs a).g 0 (nth V.rs a).cp 0 _ (((hI.ca _ hna).2.keep E370.u (fun hb hs => (hI.ca _ hna).2.neA hI.ha (by decide) hb hbg hs.1)).sl (fun _ => rfl)) hclen hct) ?_
   rintro _ w372 ⟨rfl, u373⟩ zu373
   have htb := htr 0
   refine go ?_
   refine x_s fun w376 sw376 B378 u377 => ?_
   refine go ?_
   have D380 := ((((D214.keep u359 (fun _ h => h)).keep u369 (fun _ h => h)).keep u373 (fun _ h => h)).keep u377 (fun hb => show ¬ (V.gh = bk2) by first | omega | assumption))
   refine t_storeA (vs := [.int .i64 x.p]) (j := a) (o' := 1) (k := 3) (⟨(nth V.rs a).n, x.p, (nth V.rs a).ao, (nth V.rs a).g, (nth V.rs a).o, (nth V.rs a).cp, (nth V.rs a).c⟩ : HR) (fun _ => rfl) sizeOf3 rfl rfl (by omega) rfl D380 (by first | omega | (simp only [List.length_set, eRuns_len]; omega)) rfl rfl (by decide) (by simp [Value.oneCell']) rfl (fun w381 R383 u382 => ?_)
   have zu382 := u382.size
   refine go ?_
   refine q_p (fun g166 => ?_) fun g166 => ?_
   ·
    exact (by omega : False).elim
   refine go ?_
   refine x_s fun w388 sw388 B390 u389 => ?_
   refine go ?_
   refine x_s fun w393 sw393 B395 u394 => ?_
   refine go ?_
   refine f_ret2 (v1 := .agg #[.int .i64 x.m, .slice V.ah V.rs.length V.ch, .slice V.al V.ld.length V.cl, .slice V.au V.un.length V.cu, .int .i64 (V.wk + ((tonP 0 (nth V.rs a).c) * (max (((nth V.rs a).p) - x.p) (x.p - ((nth V.rs a).p)))))]) (v2 := .int .i64 0) results59 ⟨_, _, rfl, run_loadVarN (vs := [.int .i64 x.m, .slice V.ah V.rs.length V.ch, .slice V.al V.ld.length V.cl, .slice V.au V.un.length V.cu, .int .i64 (V.wk + ((tonP 0 (nth V.rs a).c) * (max (((nth V.rs a).p) - x.p) (x.p - ((nth V.rs a).p)))))]) isAgg37 sizeOf37 rfl (B395.at.sub 0 5)⟩ rfl ?_
   have D397 := ((R383.keep u389 (fun hb => show ¬ (V.gh = bk2) by first | omega | assumption)).keep u394 (fun hb => show ¬ (V.gh = bk12) by first | omega | assumption))
   have he : stepP V.st x = (0, { V.st with wk := V.wk + tonP 0 (nth V.rs a).c * max (x.p - (nth V.rs a).p) (-(x.p - (nth V.rs a).p)), hs := V.st.hs.set a ⟨(nth V.rs a).n, x.p, (nth V.rs a).c⟩ }) := by rw [hstD, if_neg g92, if_pos g125, sailP_v hz8.1, if_neg (by omega)]
   obtain ⟨hc1, hc2, hc3⟩ := hI.keepC (((((E370.u.nx u373).next u377 (fun i hi h => by omega)).next u382 (fun i hi h => by omega)).next u389 (fun i hi h => by omega)).next u394 (fun i hi h => by omega))
   exact ⟨⟨⟨x.m, V.rs.set a (⟨(nth V.rs a).n, x.p, (nth V.rs a).ao, (nth V.rs a).g, (nth V.rs a).o, (nth V.rs a).cp, (nth V.rs a).c⟩ : HR), V.ah, V.gh, V.ch, V.ld, V.al, V.gl, V.cl, V.un, V.au, V.gu, V.cu, V.wk + tonP 0 (nth V.rs a).c * max ((nth V.rs a).p - x.p) (x.p - (nth V.rs a).p)⟩, by rw [he, List.length_set], ⟨D397, (ca_set hc1 ⟨(hc1 _ hna).1, (hc1 _ hna).2⟩), hc2, hc3⟩, fun _ => by rw [he]; simp only [SG.st, HR.hul, List.map_set]; rw [show max ((nth V.rs a).p - x.p) (x.p - (nth V.rs a).p) = max (x.p - (nth V.rs a).p) (-(x.p - (nth V.rs a).p)) by omega]⟩, u_d⟩
  refine go ?_
  refine x_c func105 rfl rfl (rTons_c (nth V.rs a).c (nth V.rs a).ao (nth V.rs a).g 0 (nth V.rs a).cp 0 _ (((hI.ca _ hna).2.keep E370.u (fun hb hs => (hI.ca _ hna).2.neA hI.ha (by decide) hb hbg hs.1)).sl (fun _ => rfl)) hclen hct) ?_
  rintro _ w399 ⟨rfl, u400⟩ zu400
  have htb := htr 0
  refine go ?_
  refine x_s fun w403 sw403 B405 u404 => ?_
  refine go ?_
  have D407 := ((((D214.keep u359 (fun _ h => h)).keep u369 (fun _ h => h)).keep u400 (fun _ h => h)).keep u404 (fun hb => show ¬ (V.gh = bk2) by first | omega | assumption))
  refine t_storeA (vs := [.int .i64 x.p]) (j := a) (o' := 1) (k := 3) (⟨(nth V.rs a).n, x.p, (nth V.rs a).ao, (nth V.rs a).g, (nth V.rs a).o, (nth V.rs a).cp, (nth V.rs a).c⟩ : HR) (fun _ => rfl) sizeOf3 rfl rfl (by omega) rfl D407 (by first | omega | (simp only [List.length_set, eRuns_len]; omega)) rfl rfl (by decide) (by simp [Value.oneCell']) rfl (fun w408 R410 u409 => ?_)
  have zu409 := u409.size
  refine go ?_
  refine q_p (fun g166 => ?_) fun g166 => ?_
  ·
   exact (by omega : False).elim
  refine go ?_
  refine x_s fun w415 sw415 B417 u416 => ?_
  refine go ?_
  refine x_s fun w420 sw420 B422 u421 => ?_
  refine go ?_
  refine f_ret2 (v1 := .agg #[.int .i64 x.m, .slice V.ah V.rs.length V.ch, .slice V.al V.ld.length V.cl, .slice V.au V.un.length V.cu, .int .i64 (V.wk + ((tonP 0 (nth V.rs a).c) * (max (((nth V.rs a).p) - x.p) (x.p - ((nth V.rs a).p)))))]) (v2 := .int .i64 0) results59 ⟨_, _, rfl, run_loadVarN (vs := [.int .i64 x.m, .slice V.ah V.rs.length V.ch, .slice V.al V.ld.length V.cl, .slice V.au V.un.length V.cu, .int .i64 (V.wk + ((tonP 0 (nth V.rs a).c) * (max (((nth V.rs a).p) - x.p) (x.p - ((nth V.rs a).p)))))]) isAgg37 sizeOf37 rfl (B422.at.sub 0 5)⟩ rfl ?_
  have D424 := ((R410.keep u416 (fun hb => show ¬ (V.gh = bk2) by first | omega | assumption)).keep u421 (fun hb => show ¬ (V.gh = bk12) by first | omega | assumption))
  have he : stepP V.st x = (0, { V.st with wk := V.wk + tonP 0 (nth V.rs a).c * max (x.p - (nth V.rs a).p) (-(x.p - (nth V.rs a).p)), hs := V.st.hs.set a ⟨(nth V.rs a).n, x.p, (nth V.rs a).c⟩ }) := by rw [hstD, if_neg g92, if_pos g125, sailP_v hz8.1, if_neg (by omega)]
  obtain ⟨hc1, hc2, hc3⟩ := hI.keepC (((((E370.u.nx u400).next u404 (fun i hi h => by omega)).next u409 (fun i hi h => by omega)).next u416 (fun i hi h => by omega)).next u421 (fun i hi h => by omega))
  exact ⟨⟨⟨x.m, V.rs.set a (⟨(nth V.rs a).n, x.p, (nth V.rs a).ao, (nth V.rs a).g, (nth V.rs a).o, (nth V.rs a).cp, (nth V.rs a).c⟩ : HR), V.ah, V.gh, V.ch, V.ld, V.al, V.gl, V.cl, V.un, V.au, V.gu, V.cu, V.wk + tonP 0 (nth V.rs a).c * max ((nth V.rs a).p - x.p) (x.p - (nth V.rs a).p)⟩, by rw [he, List.length_set], ⟨D424, (ca_set hc1 ⟨(hc1 _ hna).1, (hc1 _ hna).2⟩), hc2, hc3⟩, fun _ => by rw [he]; simp only [SG.st, HR.hul, List.map_set]; rw [show max ((nth V.rs a).p - x.p) (x.p - (nth V.rs a).p) = max (x.p - (nth V.rs a).p) (-(x.p - (nth V.rs a).p)) by omega]⟩, u_d⟩
 refine go ?_
 refine q_p (fun g166 => ?_) fun g166 => ?_
 ·
  refine go ?_
  refine c_drawnM follows (fun _ => False) (OTl [0, 2, 4, 6, 8, 10, 14, 16, 13, 18]) (by kernel_rfl) fun w429 u430 => ?_
  have zu430 := u430.size
  have E431 := Sc.mk (E70.u.nx u430)
  refine go ?_
  refine x_c func105 rfl rfl (rTons_c (nth V.rs a).c (nth V.rs a).ao (nth V.rs a).g 0 (nth V.rs a).cp x.b _ (((hI.ca _ hna).2.keep E431.u (fun hb hs => (hI.ca _ hna).2.neA hI.ha (by decide) hb hbg hs.1)).sl (fun _ => rfl)) hclen hct) ?_
  rintro _ w433 ⟨rfl, u434⟩ zu434
  have E436 := Sc.mk (E431.u.nx u434)
  have htb := htr x.b
  refine go ?_
  refine q_p (fun g176 => ?_) fun g176 => ?_
  ·
   refine go ?_
   refine x_s fun w438 sw438 B440 u439 => ?_
   refine go ?_
   refine f_ret2 (v1 := .agg #[.int .i64 V.m, .slice V.ah V.rs.length V.ch, .slice V.al V.ld.length V.cl, .slice V.au V.un.length V.cu, .int .i64 V.wk]) (v2 := .int .i64 3) results59 ⟨_, _, rfl, run_loadVarN (vs := [.int .i64 V.m, .slice V.ah V.rs.length V.ch, .slice V.al V.ld.length V.cl, .slice V.au V.un.length V.cu, .int .i64 V.wk]) isAgg37 sizeOf37 rfl (B440.at.sub 0 5)⟩ rfl ?_
   have D442 := (((D214.keep u430 (fun _ h => h)).keep u434 (fun _ h => h)).keep u439 (fun hb => show ¬ (V.gh = bk12) by first | omega | assumption))
   have he : stepP V.st x = (3, V.st) := by rw [hstD, if_neg g92, if_neg g125, unloadP_v hz8.1, if_pos (by omega)]
   obtain ⟨hc1, hc2, hc3⟩ := hI.keepC (E436.u.next u439 (fun i hi h => by omega))
   exact ⟨⟨V, by rw [he], ⟨D442, hc1, hc2, hc3⟩, fun h9 => by rw [he] at h9; simp at h9⟩, u_d⟩
  refine go ?_
  refine c_drawnM follows (fun i => i = V.gh ∨ i = bk2) (.look 0 (.look 1 (.look 2 (.look 3 (.look 5 (.look 6 (.look 7 (.look 8 (.look 9 (.look 11 (.look 13 (.look 14 (.look 15 (.look 16 (.act 4 (.act 10 (.act 12 (.act 17 (.look 18 (.look 19 (.act 20 (.look 21 (.act 22 .done .stop)) .stop))) .stop) .stop) (.act 12 (.act 10 (.act 17 (.look 18 (.look 19 (.act 20 (.look 21 (.act 22 .done .stop)) .stop))) .stop) .stop) .stop)) (.act 12 (.act 4 (.act 10 (.act 17 (.look 18 (.look 19 (.act 20 (.look 21 (.act 22 .done .stop)) .stop))) .stop) .stop) .stop) .stop)))))))))))))))) (by kernel_rfl) fun w443 u444 => ?_
  have zu444 := u444.size
  have E445 := Sc.mk (E436.u.nx u444)
  refine go ?_
  refine y_neg rfl rfl rfl (by omega) ?_
  refine go ?_
  refine s_or ?_ ?_
  ·
   refine go ?_
   refine s_or ?_ ?_
   ·
    refine go ?_
    refine x_c func106 rfl rfl (radd_c (nth V.rs a).c (nth V.rs a).ao (nth V.rs a).g 0 (nth V.rs a).cp x.b (-x.t) _ (((hI.ca _ hna).2.keep E445.u (fun hb hs => (hI.ca _ hna).2.neA hI.ha (by decide) hb hbg hs.1)).sl (fun _ => rfl)) hclen hct (by omega) (by omega) (by omega)) ?_
    rintro _ w448 ⟨⟨an446, gn446, cn446, rfl, hFn446⟩, u449⟩ zu449
    obtain ⟨yn446, hyn446, hygn446⟩ := Acc.lowG (base' := base) hFn446 (by omega) h0 (by omega)
    have ltyn446 := hyn446.lt
    refine go ?_
    have D452 := (((((((((((hU.keep u5 (fun _ h => h)).keep u10 (fun _ h => h)).keep u15 (fun _ h => h)).keep u21 (fun _ h => h)).keep u42 (fun _ h => h)).keep u51 (fun _ h => h)).keep u64 (fun _ h => h)).keep u430 (fun _ h => h)).keep u434 (fun _ h => h)).keep u444 (fun _ h => h)).keep u449 (fun _ h => h))
    refine x_c func106 rfl rfl (radd_c V.un V.au V.gu 0 V.cu x.b x.t _ (D452.sl (fun _ => rfl)) hlunlen hlunt (by omega) (by omega) (by omega)) ?_
    rintro _ w455 ⟨⟨an453, gn453, cn453, rfl, hFn453⟩, u456⟩ zu456
    obtain ⟨yn453, hyn453, hygn453⟩ := Acc.lowG (base' := base) hFn453 (by omega) h0 (by omega)
    have ltyn453 := hyn453.lt
    refine go ?_
    have D459 := (((((D214.keep u430 (fun _ h => h)).keep u434 (fun _ h => h)).keep u444 (fun _ h => h)).keep u449 (fun _ h => h)).keep u456 (fun _ h => h))
    refine t_storeA (vs := [.slice an446 (List.length (bookP x.b (-x.t) (nth V.rs a).c)) cn446]) (j := a) (o' := 2) (k := 3) (⟨(nth V.rs a).n, (nth V.rs a).p, an446, yn446, 0, cn446, (bookP x.b (-x.t) (nth V.rs a).c)⟩ : HR) (fun _ => rfl) sizeOf35 rfl rfl (by omega) rfl D459 (by first | omega | (simp only [List.length_set, eRuns_len]; omega)) rfl rfl (by decide) (by simp [Value.oneCell']) rfl (fun w460 R462 u461 => ?_)
    have zu461 := u461.size
    refine go ?_
    refine x_s fun w464 sw464 B466 u465 => ?_
    refine go ?_
    refine x_s fun w469 sw469 B471 u470 => ?_
    refine go ?_
    refine x_s fun w474 sw474 B476 u475 => ?_
    refine go ?_
    refine f_ret2 (v1 := .agg #[.int .i64 x.m, .slice V.ah V.rs.length V.ch, .slice V.al V.ld.length V.cl, .slice an453 (List.length (bookP x.b x.t V.un)) cn453, .int .i64 V.wk]) (v2 := .int .i64 0) results59 ⟨_, _, rfl, run_loadVarN (vs := [.int .i64 x.m, .slice V.ah V.rs.length V.ch, .slice V.al V.ld.length V.cl, .slice an453 (List.length (bookP x.b x.t V.un)) cn453, .int .i64 V.wk]) isAgg37 sizeOf37 rfl (B476.at.sub 0 5)⟩ rfl ?_
    have D478 := (((R462.keep u465 (fun hb => show ¬ (V.gh = bk2) by first | omega | assumption)).keep u470 (fun hb => show ¬ (V.gh = bk2) by first | omega | assumption)).keep u475 (fun hb => show ¬ (V.gh = bk12) by first | omega | assumption))
    have D479 := (((((hyn446.keep u456 (fun _ h => h)).keep u461 (fun hb => by have h9 := hygn446 hb; show ¬ (yn446 = V.gh); first | omega | assumption)).keep u465 (fun hb => by have h9 := hygn446 hb; show ¬ (yn446 = bk2); first | omega | assumption)).keep u470 (fun hb => by have h9 := hygn446 hb; show ¬ (yn446 = bk2); first | omega | assumption)).keep u475 (fun hb => by have h9 := hygn446 hb; show ¬ (yn446 = bk12); first | omega | assumption))
    have D480 := ((((hyn453.keep u461 (fun hb => by have h9 := hygn453 hb; show ¬ (yn453 = V.gh); first | omega | assumption)).keep u465 (fun hb => by have h9 := hygn453 hb; show ¬ (yn453 = bk2); first | omega | assumption)).keep u470 (fun hb => by have h9 := hygn453 hb; show ¬ (yn453 = bk2); first | omega | assumption)).keep u475 (fun hb => by have h9 := hygn453 hb; show ¬ (yn453 = bk12); first | omega | assumption))
    have he : stepP V.st x = (0, { V.st with hs := V.st.hs.set a ⟨(nth V.rs a).n, (nth V.rs a).p, bookP x.b (-x.t) (nth V.rs a).c⟩, un := bookP x.b x.t V.un }) := by rw [hstD, if_neg g92, if_neg g125, unloadP_v hz8.1, if_neg (by omega)]
    obtain ⟨hc1, hc2, hc3⟩ := hI.keepC ((((((E445.u.nx u449).nx u456).next u461 (fun i hi h => by omega)).next u465 (fun i hi h => by omega)).next u470 (fun i hi h => by omega)).next u475 (fun i hi h => by omega))
    exact ⟨⟨⟨x.m, V.rs.set a (⟨(nth V.rs a).n, (nth V.rs a).p, an446, yn446, 0, cn446, (bookP x.b (-x.t) (nth V.rs a).c)⟩ : HR), V.ah, V.gh, V.ch, V.ld, V.al, V.gl, V.cl, (bookP x.b x.t V.un), an453, yn453, cn453, V.wk⟩, by rw [he, List.length_set], ⟨D478, (ca_set hc1 ⟨rfl, D479⟩), hc2, D480⟩, fun _ => by rw [he]; simp [SG.st, HR.hul, List.map_set]⟩, u_d⟩
   refine go ?_
   refine x_c func106 rfl rfl (radd_c (nth V.rs a).c (nth V.rs a).ao (nth V.rs a).g 0 (nth V.rs a).cp x.b (-x.t) _ (((hI.ca _ hna).2.keep E445.u (fun hb hs => (hI.ca _ hna).2.neA hI.ha (by decide) hb hbg hs.1)).sl (fun _ => rfl)) hclen hct (by omega) (by omega) (by omega)) ?_
   rintro _ w483 ⟨⟨an481, gn481, cn481, rfl, hFn481⟩, u484⟩ zu484
   obtain ⟨yn481, hyn481, hygn481⟩ := Acc.lowG (base' := base) hFn481 (by omega) h0 (by omega)
   have ltyn481 := hyn481.lt
   refine go ?_
   have D487 := (((((((((((hU.keep u5 (fun _ h => h)).keep u10 (fun _ h => h)).keep u15 (fun _ h => h)).keep u21 (fun _ h => h)).keep u42 (fun _ h => h)).keep u51 (fun _ h => h)).keep u64 (fun _ h => h)).keep u430 (fun _ h => h)).keep u434 (fun _ h => h)).keep u444 (fun _ h => h)).keep u484 (fun _ h => h))
   refine x_c func106 rfl rfl (radd_c V.un V.au V.gu 0 V.cu x.b x.t _ (D487.sl (fun _ => rfl)) hlunlen hlunt (by omega) (by omega) (by omega)) ?_
   rintro _ w490 ⟨⟨an488, gn488, cn488, rfl, hFn488⟩, u491⟩ zu491
   obtain ⟨yn488, hyn488, hygn488⟩ := Acc.lowG (base' := base) hFn488 (by omega) h0 (by omega)
   have ltyn488 := hyn488.lt
   refine go ?_
   have D494 := (((((D214.keep u430 (fun _ h => h)).keep u434 (fun _ h => h)).keep u444 (fun _ h => h)).keep u484 (fun _ h => h)).keep u491 (fun _ h => h))
   refine t_storeA (vs := [.slice an481 (List.length (bookP x.b (-x.t) (nth V.rs a).c)) cn481]) (j := a) (o' := 2) (k := 3) (⟨(nth V.rs a).n, (nth V.rs a).p, an481, yn481, 0, cn481, (bookP x.b (-x.t) (nth V.rs a).c)⟩ : HR) (fun _ => rfl) sizeOf35 rfl rfl (by omega) rfl D494 (by first | omega | (simp only [List.length_set, eRuns_len]; omega)) rfl rfl (by decide) (by simp [Value.oneCell']) rfl (fun w495 R497 u496 => ?_)
   have zu496 := u496.size
   refine go ?_
   refine x_s fun w499 sw499 B501 u500 => ?_
   refine go ?_
   refine x_s fun w504 sw504 B506 u505 => ?_
   refine go ?_
   refine x_s fun w509 sw509 B511 u510 => ?_
   refine go ?_
   refine f_ret2 (v1 := .agg #[.int .i64 x.m, .slice V.ah V.rs.length V.ch, .slice V.al V.ld.length V.cl, .slice an488 (List.length (bookP x.b x.t V.un)) cn488, .int .i64 V.wk]) (v2 := .int .i64 0) results59 ⟨_, _, rfl, run_loadVarN (vs := [.int .i64 x.m, .slice V.ah V.rs.length V.ch, .slice V.al V.ld.length V.cl, .slice an488 (List.length (bookP x.b x.t V.un)) cn488, .int .i64 V.wk]) isAgg37 sizeOf37 rfl (B511.at.sub 0 5)⟩ rfl ?_
   have D513 := (((R497.keep u500 (fun hb => show ¬ (V.gh = bk2) by first | omega | assumption)).keep u505 (fun hb => show ¬ (V.gh = bk2) by first | omega | assumption)).keep u510 (fun hb => show ¬ (V.gh = bk12) by first | omega | assumption))
   have D514 := (((((hyn481.keep u491 (fun _ h => h)).keep u496 (fun hb => by have h9 := hygn481 hb; show ¬ (yn481 = V.gh); first | omega | assumption)).keep u500 (fun hb => by have h9 := hygn481 hb; show ¬ (yn481 = bk2); first | omega | assumption)).keep u505 (fun hb => by have h9 := hygn481 hb; show ¬ (yn481 = bk2); first | omega | assumption)).keep u510 (fun hb => by have h9 := hygn481 hb; show ¬ (yn481 = bk12); first | omega | assumption))
   have D515 := ((((hyn488.keep u496 (fun hb => by have h9 := hygn488 hb; show ¬ (yn488 = V.gh); first | omega | assumption)).keep u500 (fun hb => by have h9 := hygn488 hb; show ¬ (yn488 = bk2); first | omega | assumption)).keep u505 (fun hb => by have h9 := hygn488 hb; show ¬ (yn488 = bk2); first | omega | assumption)).keep u510 (fun hb => by have h9 := hygn488 hb; show ¬ (yn488 = bk12); first | omega | assumption))
   have he : stepP V.st x = (0, { V.st with hs := V.st.hs.set a ⟨(nth V.rs a).n, (nth V.rs a).p, bookP x.b (-x.t) (nth V.rs a).c⟩, un := bookP x.b x.t V.un }) := by rw [hstD, if_neg g92, if_neg g125, unloadP_v hz8.1, if_neg (by omega)]
   obtain ⟨hc1, hc2, hc3⟩ := hI.keepC ((((((E445.u.nx u484).nx u491).next u496 (fun i hi h => by omega)).next u500 (fun i hi h => by omega)).next u505 (fun i hi h => by omega)).next u510 (fun i hi h => by omega))
   exact ⟨⟨⟨x.m, V.rs.set a (⟨(nth V.rs a).n, (nth V.rs a).p, an481, yn481, 0, cn481, (bookP x.b (-x.t) (nth V.rs a).c)⟩ : HR), V.ah, V.gh, V.ch, V.ld, V.al, V.gl, V.cl, (bookP x.b x.t V.un), an488, yn488, cn488, V.wk⟩, by rw [he, List.length_set], ⟨D513, (ca_set hc1 ⟨rfl, D514⟩), hc2, D515⟩, fun _ => by rw [he]; simp [SG.st, HR.hul, List.map_set]⟩, u_d⟩
  refine go ?_
  refine x_c func106 rfl rfl (radd_c (nth V.rs a).c (nth V.rs a).ao (nth V.rs a).g 0 (nth V.rs a).cp x.b (-x.t) _ (((hI.ca _ hna).2.keep E445.u (fun hb hs => (hI.ca _ hna).2.neA hI.ha (by decide) hb hbg hs.1)).sl (fun _ => rfl)) hclen hct (by omega) (by omega) (by omega)) ?_
  rintro _ w518 ⟨⟨an516, gn516, cn516, rfl, hFn516⟩, u519⟩ zu519
  obtain ⟨yn516, hyn516, hygn516⟩ := Acc.lowG (base' := base) hFn516 (by omega) h0 (by omega)
  have ltyn516 := hyn516.lt
  refine go ?_
  have D522 := (((((((((((hU.keep u5 (fun _ h => h)).keep u10 (fun _ h => h)).keep u15 (fun _ h => h)).keep u21 (fun _ h => h)).keep u42 (fun _ h => h)).keep u51 (fun _ h => h)).keep u64 (fun _ h => h)).keep u430 (fun _ h => h)).keep u434 (fun _ h => h)).keep u444 (fun _ h => h)).keep u519 (fun _ h => h))
  refine x_c func106 rfl rfl (radd_c V.un V.au V.gu 0 V.cu x.b x.t _ (D522.sl (fun _ => rfl)) hlunlen hlunt (by omega) (by omega) (by omega)) ?_
  rintro _ w525 ⟨⟨an523, gn523, cn523, rfl, hFn523⟩, u526⟩ zu526
  obtain ⟨yn523, hyn523, hygn523⟩ := Acc.lowG (base' := base) hFn523 (by omega) h0 (by omega)
  have ltyn523 := hyn523.lt
  refine go ?_
  have D529 := (((((D214.keep u430 (fun _ h => h)).keep u434 (fun _ h => h)).keep u444 (fun _ h => h)).keep u519 (fun _ h => h)).keep u526 (fun _ h => h))
  refine t_storeA (vs := [.slice an516 (List.length (bookP x.b (-x.t) (nth V.rs a).c)) cn516]) (j := a) (o' := 2) (k := 3) (⟨(nth V.rs a).n, (nth V.rs a).p, an516, yn516, 0, cn516, (bookP x.b (-x.t) (nth V.rs a).c)⟩ : HR) (fun _ => rfl) sizeOf35 rfl rfl (by omega) rfl D529 (by first | omega | (simp only [List.length_set, eRuns_len]; omega)) rfl rfl (by decide) (by simp [Value.oneCell']) rfl (fun w530 R532 u531 => ?_)
  have zu531 := u531.size
  refine go ?_
  refine x_s fun w534 sw534 B536 u535 => ?_
  refine go ?_
  refine x_s fun w539 sw539 B541 u540 => ?_
  refine go ?_
  refine x_s fun w544 sw544 B546 u545 => ?_
  refine go ?_
  refine f_ret2 (v1 := .agg #[.int .i64 x.m, .slice V.ah V.rs.length V.ch, .slice V.al V.ld.length V.cl, .slice an523 (List.length (bookP x.b x.t V.un)) cn523, .int .i64 V.wk]) (v2 := .int .i64 0) results59 ⟨_, _, rfl, run_loadVarN (vs := [.int .i64 x.m, .slice V.ah V.rs.length V.ch, .slice V.al V.ld.length V.cl, .slice an523 (List.length (bookP x.b x.t V.un)) cn523, .int .i64 V.wk]) isAgg37 sizeOf37 rfl (B546.at.sub 0 5)⟩ rfl ?_
  have D548 := (((R532.keep u535 (fun hb => show ¬ (V.gh = bk2) by first | omega | assumption)).keep u540 (fun hb => show ¬ (V.gh = bk2) by first | omega | assumption)).keep u545 (fun hb => show ¬ (V.gh = bk12) by first | omega | assumption))
  have D549 := (((((hyn516.keep u526 (fun _ h => h)).keep u531 (fun hb => by have h9 := hygn516 hb; show ¬ (yn516 = V.gh); first | omega | assumption)).keep u535 (fun hb => by have h9 := hygn516 hb; show ¬ (yn516 = bk2); first | omega | assumption)).keep u540 (fun hb => by have h9 := hygn516 hb; show ¬ (yn516 = bk2); first | omega | assumption)).keep u545 (fun hb => by have h9 := hygn516 hb; show ¬ (yn516 = bk12); first | omega | assumption))
  have D550 := ((((hyn523.keep u531 (fun hb => by have h9 := hygn523 hb; show ¬ (yn523 = V.gh); first | omega | assumption)).keep u535 (fun hb => by have h9 := hygn523 hb; show ¬ (yn523 = bk2); first | omega | assumption)).keep u540 (fun hb => by have h9 := hygn523 hb; show ¬ (yn523 = bk2); first | omega | assumption)).keep u545 (fun hb => by have h9 := hygn523 hb; show ¬ (yn523 = bk12); first | omega | assumption))
  have he : stepP V.st x = (0, { V.st with hs := V.st.hs.set a ⟨(nth V.rs a).n, (nth V.rs a).p, bookP x.b (-x.t) (nth V.rs a).c⟩, un := bookP x.b x.t V.un }) := by rw [hstD, if_neg g92, if_neg g125, unloadP_v hz8.1, if_neg (by omega)]
  obtain ⟨hc1, hc2, hc3⟩ := hI.keepC ((((((E445.u.nx u519).nx u526).next u531 (fun i hi h => by omega)).next u535 (fun i hi h => by omega)).next u540 (fun i hi h => by omega)).next u545 (fun i hi h => by omega))
  exact ⟨⟨⟨x.m, V.rs.set a (⟨(nth V.rs a).n, (nth V.rs a).p, an516, yn516, 0, cn516, (bookP x.b (-x.t) (nth V.rs a).c)⟩ : HR), V.ah, V.gh, V.ch, V.ld, V.al, V.gl, V.cl, (bookP x.b x.t V.un), an523, yn523, cn523, V.wk⟩, by rw [he, List.length_set], ⟨D548, (ca_set hc1 ⟨rfl, D549⟩), hc2, D550⟩, fun _ => by rw [he]; simp [SG.st, HR.hul, List.map_set]⟩, u_d⟩
 exact (by omega : False).elim

end Go.Proofs.YtjdcpnaocjddoaaGreatDoor
