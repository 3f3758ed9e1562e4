/-
  Part 20 of the proof: contracts and plain laws. Conditions: none.
-/
import Derived.Test.YtagmkfbbhfaceaaGreatDoorRows
import Derived.Handed
import Derived.LaidLaws
import Derived.Lib.LaidTab
import Derived.Test.YtagmkfbbhfaceaaGreatDoorCK19
namespace Go.Proofs.YtagmkfbbhfaceaaGreatDoor
open Go Go.RowKit Go.Proofs.Tryz
set_option maxRecDepth 10000
set_option maxHeartbeats 4000000 in
set_option maxRecDepth 20000 in
theorem TopWorkShared_c (l : List Ent) (al : Option Addr) (bl ol cl : Nat) (ct : Int) (w0 : World) (hl : Sl encEnt 6 w0 al bl ol l) (_hll : l.length ≤ 9223372036854775807) (hct : 0 ≤ ct ∧ ct ≤ 4294967295) (hT : Tab10 w0) (hpos : 0 < w0.heap.size) :
    CallsV Tryz.prog 6 [.slice al l.length cl, .int .u32 ct] w0 (fun x w' => x = .bool true ∧ Ext w0 w') := by
 refine f_n func6 ?_
 refine go ?_
 refine x_l fun bk3 w4 ebk3 sbk3 B5 u6 => ?_
 refine go ?_
 refine x_l5 (fun _ => False) [0, 1] (fun (j : Nat) (gs : List Ent) (q1 : Option Addr) (q2 : Nat) (q3 : Nat) => [(5, .slice q1 gs.length q3), (6, .int .i64 (j : Int))]) (fun j gs q1 q2 q3 w => (j ≤ l.length) ∧ (Acc encEnt 6 41 bk3 w q1 q2 q3 gs) ∧ (WInv gs) ∧ (gs.length ≤ j) ∧ (gs.length ≤ 30)) (fun j gs q1 q2 q3 => l.length - j) 0 ([]) (some ⟨bk3, 0, none⟩) bk3 0 ⟨(Nat.zero_le _), (Acc.ofBlk (xs := ([] : List Ent)) encEnt 6 (fun _ => rfl) B5 (Nat.le_refl _) (by decide)), WInv.zero, (Nat.le_refl _), (Nat.zero_le _)⟩ ?_
 rintro j gs q1 q2 q3 w11 ⟨hj, hA, hW, hgj, hg30⟩ u12 zu12 K10 hK10
 have lt_q2 := hA.lt
 have hgl := hA.lt
 refine st1 ?_
 refine x_k1 (fun _ => False) [0, 1, 5, 6] (fun (z8 : Bool) => [(34, .bool z8)]) (fun z8 w => (z8 = decide (j < l.length ∧ j < 30))) (fun K19 hK19 => ?_) ?_
 ·
  refine go ?_
  refine t_splitp 31 rfl (fun g31 => ?_) (fun g31 => ?_)
  ·
   refine go ?_
   exact hK19 (decide ((j : Int) < 30)) (by first | exact (decide_eq_false (by omega)).symm | exact (decide_eq_true (by omega)).symm | exact decide_eq_decide.2 (by omega))
  refine go ?_
  exact hK19 false (by first | exact (decide_eq_false (by omega)).symm | exact (decide_eq_true (by omega)).symm | exact decide_eq_decide.2 (by omega))
 rintro z8 w20 hz8 u21 zu21
 have E22 := Sc.mk ((((Upd.refl (fun _ => False) w0).nx u6).next u12 (fun i hi h => by omega)).nx u21)
 refine q_b (fun g34 => ?_) fun g34 => ?_
 ·
  have hzj : (j < l.length ∧ j < 30) := by rw [hz8] at g34; exact of_decide_eq_true g34
  refine go ?_
  refine c_drawnM follows (fun _ => False) (.look 1 (.look 3 (.look 4 (.look 5 (.look 6 (.act 0 (.act 2 (.act 7 (.act 8 (.look 9 .done) .stop) .stop) (.act 7 (.act 2 (.act 8 (.look 9 .done) .stop) .stop) .stop)) (.act 7 (.act 0 (.act 2 (.act 8 (.look 9 .done) .stop) .stop) .stop) .stop))))))) (by kernel_rfl) fun w25 u26 => ?_
  have zu26 := u26.size
  refine go ?_
  refine y_i j (hl.keep (E22.u.nx u26) (fun _ h => h)) (fun _ => ?_)
  refine go ?_
  refine s_or ?_ ?_
  ·
   refine go ?_
   refine x_l fun bk29 w30 ebk29 sbk29 B31 u32 => ?_
   refine go ?_
   refine s_or ?_ ?_
   ·
    refine go ?_
    have D34 := (((hA.keep u21 (fun _ h => h)).keep u26 (fun _ h => h)).keep u32 (fun _ h => h))
    refine t_copy (enc := encEnt) (z := .agg #[.int .i64 0, .int .i64 0, .int .i64 0, .int .i64 0, .int .i64 0, .int .i64 0]) (bytes := 48) (k := 6) (ys := gs) underlying22 (by kernel_rfl) rfl (by decide) (fun _ => rfl) (by intro x; simp [encEnt, Value.oneCell']) rfl rfl rfl rfl B31 (D34.sl (fun _ => rfl)) (by omega) (by decide) (fun ao35 gb36 cp37 w38 A39 u40 gegb36 => ?_)
    have zu40 := u40.size
    have lt_gb36 := A39.lt
    refine go ?_
    refine x_l fun bk42 w43 ebk42 sbk42 B44 u45 => ?_
    refine go ?_
    have D47 := (A39.keep u45 (fun _ h => h))
    refine t_append (z := .agg #[.int .i64 0, .int .i64 0, .int .i64 0, .int .i64 0, .int .i64 0, .int .i64 0]) (bytes := 48) (k := 6) (base := bk29) (nth l j) underlying22 (by kernel_rfl) rfl (by decide) (fun _ => rfl) (by intro x; simp [encEnt, Value.oneCell']) rfl rfl rfl rfl D47 B44 (by omega) (by omega) (by decide) (fun ao48 gb49 cp50 w51 A52 u53 gegb49 lngb49 => ?_)
    have zu53 := u53.size
    have lt_gb49 := A52.lt
    refine go ?_
    refine x_l fun bk56 w57 ebk56 sbk56 B58 u59 => ?_
    refine go ?_
    have D61 := (A52.keep u59 (fun _ h => h))
    refine t_copy (enc := encEnt) (z := .agg #[.int .i64 0, .int .i64 0, .int .i64 0, .int .i64 0, .int .i64 0, .int .i64 0]) (bytes := 48) (k := 6) (ys := (gs ++ [(nth l j)])) underlying22 (by kernel_rfl) rfl (by decide) (fun _ => rfl) (by intro x; simp [encEnt, Value.oneCell']) rfl rfl rfl rfl B58 (D61.sl (fun _ => rfl)) (by omega) (by decide) (fun ao62 gb63 cp64 w65 A66 u67 gegb63 => ?_)
    have zu67 := u67.size
    have lt_gb63 := A66.lt
    refine x_c func19 rfl rfl (Rep0_c (gs ++ [(nth l j)]) ao62 gb63 0 cp64 _ (A66.sl (fun _ => rfl)) (by rw [List.length_append]; simp only [List.length_cons, List.length_nil]; omega) (by omega)) ?_
    rintro _ w71 ⟨⟨V69, rfl, hIV69, hstV69, hFV69⟩, u72⟩ zu72
    refine go ?_
    refine x_n fun bk75 w76 ebk75 sbk75 B77 u78 => ?_
    refine x_s fun w80 sw80 B82 u81 => ?_
    refine go ?_
    refine q_p (fun g56 => ?_) fun g56 => ?_
    ·
     have hW2 := hW.more hg30 g56
     refine go ?_
     have D85 := ((((D61.keep u67 (fun hb => show ¬ ((gb49 = bk56 ∧ bk56 ≤ gb49)) by first | omega | assumption)).keep u72 (fun _ h => h)).keep u78 (fun _ h => h)).keep u81 (fun hb => show ¬ (gb49 = bk75) by first | omega | assumption))
     obtain ⟨gz, hz⟩ := Acc.lower (base' := bk3) D85 (by omega) (by omega)
     exact hK10 (j + 1) (gs ++ [(nth l j)]) ao48 gz cp50 ⟨(by omega), hz, hW2, (by rw [List.length_append]; simp only [List.length_cons, List.length_nil]; omega), (by rw [List.length_append]; simp only [List.length_cons, List.length_nil]; omega)⟩
    refine go ?_
    
    have D86 := ((((((((D34.keep u40 (fun hb => show ¬ ((q2 = bk29 ∧ bk29 ≤ q2)) by first | omega | assumption)).keep u45 (fun _ h => h)).keep u53 (fun hb => show ¬ ((q2 = gb36 ∧ bk29 ≤ q2)) by first | omega | assumption)).keep u59 (fun _ h => h)).keep u67 (fun hb => show ¬ ((q2 = bk56 ∧ bk56 ≤ q2)) by first | omega | assumption)).keep u72 (fun _ h => h)).keep u78 (fun _ h => h)).keep u81 (fun hb => show ¬ (q2 = bk75) by first | omega | assumption))
    exact hK10 (j + 1) gs q1 q2 q3 ⟨(by omega), D86, hW, (by omega), (by omega)⟩
   refine go ?_
   refine x_l fun bk87 w88 ebk87 sbk87 B89 u90 => ?_
   refine go ?_
   have B92 := (B31.kx u90)
   have D93 := ((((hA.keep u21 (fun _ h => h)).keep u26 (fun _ h => h)).keep u32 (fun _ h => h)).keep u90 (fun _ h => h))
   refine t_copy (enc := encEnt) (z := .agg #[.int .i64 0, .int .i64 0, .int .i64 0, .int .i64 0, .int .i64 0, .int .i64 0]) (bytes := 48) (k := 6) (ys := gs) underlying22 (by kernel_rfl) rfl (by decide) (fun _ => rfl) (by intro x; simp [encEnt, Value.oneCell']) rfl rfl rfl rfl B92 (D93.sl (fun _ => rfl)) (by omega) (by decide) (fun ao94 gb95 cp96 w97 A98 u99 gegb95 => ?_)
   have zu99 := u99.size
   have lt_gb95 := A98.lt
   refine go ?_
   have B101 := (B89.keep u99 (by omega))
   refine t_append (z := .agg #[.int .i64 0, .int .i64 0, .int .i64 0, .int .i64 0, .int .i64 0, .int .i64 0]) (bytes := 48) (k := 6) (base := bk29) (nth l j) underlying22 (by kernel_rfl) rfl (by decide) (fun _ => rfl) (by intro x; simp [encEnt, Value.oneCell']) rfl rfl rfl rfl A98 B101 (by omega) (by omega) (by decide) (fun ao102 gb103 cp104 w105 A106 u107 gegb103 lngb103 => ?_)
   have zu107 := u107.size
   have lt_gb103 := A106.lt
   refine go ?_
   refine x_l fun bk110 w111 ebk110 sbk110 B112 u113 => ?_
   refine go ?_
   have D115 := (A106.keep u113 (fun _ h => h))
   refine t_copy (enc := encEnt) (z := .agg #[.int .i64 0, .int .i64 0, .int .i64 0, .int .i64 0, .int .i64 0, .int .i64 0]) (bytes := 48) (k := 6) (ys := (gs ++ [(nth l j)])) underlying22 (by kernel_rfl) rfl (by decide) (fun _ => rfl) (by intro x; simp [encEnt, Value.oneCell']) rfl rfl rfl rfl B112 (D115.sl (fun _ => rfl)) (by omega) (by decide) (fun ao116 gb117 cp118 w119 A120 u121 gegb117 => ?_)
   have zu121 := u121.size
   have lt_gb117 := A120.lt
   refine x_c func19 rfl rfl (Rep0_c (gs ++ [(nth l j)]) ao116 gb117 0 cp118 _ (A120.sl (fun _ => rfl)) (by rw [List.length_append]; simp only [List.length_cons, List.length_nil]; omega) (by omega)) ?_
   rintro _ w125 ⟨⟨V123, rfl, hIV123, hstV123, hFV123⟩, u126⟩ zu126
   refine go ?_
   refine x_n fun bk129 w130 ebk129 sbk129 B131 u132 => ?_
   refine x_s fun w134 sw134 B136 u135 => ?_
   refine go ?_
   refine q_p (fun g56 => ?_) fun g56 => ?_
   ·
    have hW2 := hW.more hg30 g56
    refine go ?_
    have D139 := ((((D115.keep u121 (fun hb => show ¬ ((gb103 = bk110 ∧ bk110 ≤ gb103)) by first | omega | assumption)).keep u126 (fun _ h => h)).keep u132 (fun _ h => h)).keep u135 (fun hb => show ¬ (gb103 = bk129) by first | omega | assumption))
    obtain ⟨gz, hz⟩ := Acc.lower (base' := bk3) D139 (by omega) (by omega)
    exact hK10 (j + 1) (gs ++ [(nth l j)]) ao102 gz cp104 ⟨(by omega), hz, hW2, (by rw [List.length_append]; simp only [List.length_cons, List.length_nil]; omega), (by rw [List.length_append]; simp only [List.length_cons, List.length_nil]; omega)⟩
   refine go ?_
   
   have D140 := (((((((D93.keep u99 (fun hb => show ¬ ((q2 = bk29 ∧ bk29 ≤ q2)) by first | omega | assumption)).keep u107 (fun hb => show ¬ ((q2 = gb95 ∧ bk29 ≤ q2)) by first | omega | assumption)).keep u113 (fun _ h => h)).keep u121 (fun hb => show ¬ ((q2 = bk110 ∧ bk110 ≤ q2)) by first | omega | assumption)).keep u126 (fun _ h => h)).keep u132 (fun _ h => h)).keep u135 (fun hb => show ¬ (q2 = bk129) by first | omega | assumption))
   exact hK10 (j + 1) gs q1 q2 q3 ⟨(by omega), D140, hW, (by omega), (by omega)⟩
  refine go ?_
  refine x_l fun bk141 w142 ebk141 sbk141 B143 u144 => ?_
  refine go ?_
  refine x_l fun bk146 w147 ebk146 sbk146 B148 u149 => ?_
  refine go ?_
  have D151 := ((((hA.keep u21 (fun _ h => h)).keep u26 (fun _ h => h)).keep u144 (fun _ h => h)).keep u149 (fun _ h => h))
  refine t_copy (enc := encEnt) (z := .agg #[.int .i64 0, .int .i64 0, .int .i64 0, .int .i64 0, .int .i64 0, .int .i64 0]) (bytes := 48) (k := 6) (ys := gs) underlying22 (by kernel_rfl) rfl (by decide) (fun _ => rfl) (by intro x; simp [encEnt, Value.oneCell']) rfl rfl rfl rfl B148 (D151.sl (fun _ => rfl)) (by omega) (by decide) (fun ao152 gb153 cp154 w155 A156 u157 gegb153 => ?_)
  have zu157 := u157.size
  have lt_gb153 := A156.lt
  refine go ?_
  have B159 := ((B143.kx u149).keep u157 (by omega))
  refine t_append (z := .agg #[.int .i64 0, .int .i64 0, .int .i64 0, .int .i64 0, .int .i64 0, .int .i64 0]) (bytes := 48) (k := 6) (base := bk146) (nth l j) underlying22 (by kernel_rfl) rfl (by decide) (fun _ => rfl) (by intro x; simp [encEnt, Value.oneCell']) rfl rfl rfl rfl A156 B159 (by omega) (by omega) (by decide) (fun ao160 gb161 cp162 w163 A164 u165 gegb161 lngb161 => ?_)
  have zu165 := u165.size
  have lt_gb161 := A164.lt
  refine go ?_
  refine x_l fun bk168 w169 ebk168 sbk168 B170 u171 => ?_
  refine go ?_
  have D173 := (A164.keep u171 (fun _ h => h))
  refine t_copy (enc := encEnt) (z := .agg #[.int .i64 0, .int .i64 0, .int .i64 0, .int .i64 0, .int .i64 0, .int .i64 0]) (bytes := 48) (k := 6) (ys := (gs ++ [(nth l j)])) underlying22 (by kernel_rfl) rfl (by decide) (fun _ => rfl) (by intro x; simp [encEnt, Value.oneCell']) rfl rfl rfl rfl B170 (D173.sl (fun _ => rfl)) (by omega) (by decide) (fun ao174 gb175 cp176 w177 A178 u179 gegb175 => ?_)
  have zu179 := u179.size
  have lt_gb175 := A178.lt
  refine x_c func19 rfl rfl (Rep0_c (gs ++ [(nth l j)]) ao174 gb175 0 cp176 _ (A178.sl (fun _ => rfl)) (by rw [List.length_append]; simp only [List.length_cons, List.length_nil]; omega) (by omega)) ?_
  rintro _ w183 ⟨⟨V181, rfl, hIV181, hstV181, hFV181⟩, u184⟩ zu184
  refine go ?_
  refine x_n fun bk187 w188 ebk187 sbk187 B189 u190 => ?_
  refine x_s fun w192 sw192 B194 u193 => ?_
  refine go ?_
  refine q_p (fun g56 => ?_) fun g56 => ?_
  ·
   have hW2 := hW.more hg30 g56
   refine go ?_
   have D197 := ((((D173.keep u179 (fun hb => show ¬ ((gb161 = bk168 ∧ bk168 ≤ gb161)) by first | omega | assumption)).keep u184 (fun _ h => h)).keep u190 (fun _ h => h)).keep u193 (fun hb => show ¬ (gb161 = bk187) by first | omega | assumption))
   obtain ⟨gz, hz⟩ := Acc.lower (base' := bk3) D197 (by omega) (by omega)
   exact hK10 (j + 1) (gs ++ [(nth l j)]) ao160 gz cp162 ⟨(by omega), hz, hW2, (by rw [List.length_append]; simp only [List.length_cons, List.length_nil]; omega), (by rw [List.length_append]; simp only [List.length_cons, List.length_nil]; omega)⟩
  refine go ?_
  
  have D198 := (((((((D151.keep u157 (fun hb => show ¬ ((q2 = bk146 ∧ bk146 ≤ q2)) by first | omega | assumption)).keep u165 (fun hb => show ¬ ((q2 = gb153 ∧ bk146 ≤ q2)) by first | omega | assumption)).keep u171 (fun _ h => h)).keep u179 (fun hb => show ¬ ((q2 = bk168 ∧ bk168 ≤ q2)) by first | omega | assumption)).keep u184 (fun _ h => h)).keep u190 (fun _ h => h)).keep u193 (fun hb => show ¬ (q2 = bk187) by first | omega | assumption))
  exact hK10 (j + 1) gs q1 q2 q3 ⟨(by omega), D198, hW, (by omega), (by omega)⟩
 have hzj : ¬ (j < l.length ∧ j < 30) := by rw [hz8] at g34; exact of_decide_eq_false g34
 refine go ?_
 refine x_l fun bk200 w201 ebk200 sbk200 B202 u203 => ?_
 refine go ?_
 have D205 := ((hA.keep u21 (fun _ h => h)).keep u203 (fun _ h => h))
 refine t_copy (enc := encEnt) (z := .agg #[.int .i64 0, .int .i64 0, .int .i64 0, .int .i64 0, .int .i64 0, .int .i64 0]) (bytes := 48) (k := 6) (ys := gs) underlying22 (by kernel_rfl) rfl (by decide) (fun _ => rfl) (by intro x; simp [encEnt, Value.oneCell']) rfl rfl rfl rfl B202 (D205.sl (fun _ => rfl)) (by omega) (by decide) (fun ao206 gb207 cp208 w209 A210 u211 gegb207 => ?_)
 have zu211 := u211.size
 have lt_gb207 := A210.lt
 refine x_c func19 rfl rfl (Rep0_c gs ao206 gb207 0 cp208 _ (A210.sl (fun _ => rfl)) (by omega) (by omega)) ?_
 rintro _ w215 ⟨⟨V213, rfl, hIV213, hstV213, hFV213⟩, u216⟩ zu216
 have hrq : repP zSea gs = (0, 0, stt gs) := rep_okR (by omega) hW.ok
 have hs1 : V213.st = stt gs := by rw [hstV213, hrq]
 have hwk : V213.wk = (stt gs).wk := congrArg Sea.wk hs1
 have hld : V213.ld = (stt gs).ld := congrArg Sea.ld hs1
 obtain ⟨⟨hk0, hk1⟩, hl30, hsum, hpos9⟩ := hW.all hg30
 rw [← hld] at hl30 hsum hpos9
 rw [← hwk] at hsum hk0 hk1
 clear hs1
 iterate 4 refine st1 ?_
 refine t_same 66 (v := .int .i64 0) rfl (congrArg (Value.int .i64) (by rw [hrq])) ?_
 refine x_n fun bk219 w220 ebk219 sbk219 B221 u222 => ?_
 refine x_s fun w224 sw224 B226 u225 => ?_
 iterate 13 refine st1 ?_
 refine t_same 72 (v := .bool false) rfl (congrArg Value.bool (decide_eq_false (by omega))) ?_
 refine go ?_
 refine c_drawnM follows (fun _ => False) (OTl [2, 4, 1, 6, 8]) (by kernel_rfl) fun w231 u232 => ?_
 have zu232 := u232.size
 refine go ?_
 refine x_l fun bk234 w235 ebk234 sbk234 B236 u237 => ?_
 refine go ?_
 refine x_l4 (fun i => i = bk234 ∨ w235.heap.size ≤ i) [1, 5, 11] (fun (i : Nat) (a7 : Option Addr) (g7 : Nat) (c7 : Nat) => [(14, .slice a7 ((wkL gs (V213.ld.take i)).length) c7), (15, .int .i64 (V213.wk - sumW (fW gs) (V213.ld.take i))), (16, .int .i64 (i : Int))]) (fun i a7 g7 c7 w => (i ≤ V213.ld.length) ∧ (Acc encI 1 3 bk234 w a7 g7 c7 (wkL gs (V213.ld.take i))) ∧ (g7 = bk234 ∨ w235.heap.size ≤ g7)) (fun i a7 g7 c7 => V213.ld.length - i) 0 (some ⟨bk234, 0, none⟩) bk234 0 ⟨(Nat.zero_le _), (Acc.ofBlk (xs := ([] : List Int)) encI 1 (fun _ => rfl) B236 (Nat.le_refl _) (by decide)), (.inl rfl)⟩ ?_ (h0 := by exact ⟨rfl, (congrArg (fun z => some (Value.int .i64 z)) (by show V213.wk = V213.wk - 0; omega)), rfl, rfl, rfl, rfl, trivial⟩)
 rintro i a7 g7 c7 w242 ⟨hi, hAw, hg7⟩ u243 zu243 K241 hK241
 have E244 := Sc.mk ((((((((E22.u.nx u203).next u211 (fun i hi h => by omega)).nx u216).nx u222).next u225 (fun i hi h => by omega)).nx u232).nx u237).next u243 (fun i hi h => by omega))
 have lt_g7 := hAw.lt
 have hwl := wkL_len gs (V213.ld.take i)
 rw [List.length_take] at hwl
 refine go ?_
 refine q_p (fun g81 => ?_) fun g81 => ?_
 ·
  have hmem : (nth V213.ld i) ∈ (stt gs).ld := hld ▸ nth_mem (xs := V213.ld) (i := i) (by omega)
  obtain ⟨he1, he2, he3⟩ := hW.each hg30 hmem
  have hpi := sumW_part (f := fW gs) (l := V213.ld) hpos9 i
  have hpi2 := sumW_part (f := fW gs) (l := V213.ld) hpos9 (i + 1)
  have hst9 := sumW_take (fW gs) (l := V213.ld) (i := i) (by omega)
  rw [hst9] at hpi2
  refine go ?_
  refine x_l fun bk249 w250 ebk249 sbk249 B251 u252 => ?_
  refine go ?_
  refine x_l4 (fun i => i = bk249 ∨ w250.heap.size ≤ i) [1, 5, 11, 14, 15, 16] (fun (k : Nat) (a6 : Option Addr) (g6 : Nat) (c6 : Nat) => [(17, .slice a6 (((gs.take k).filter (ownE (nth V213.ld i).b)).length) c6), (18, .int .i64 (k : Int))]) (fun k a6 g6 c6 w => (k ≤ gs.length) ∧ (Acc encEnt 6 41 bk249 w a6 g6 c6 ((gs.take k).filter (ownE (nth V213.ld i).b))) ∧ (g6 = bk249 ∨ w250.heap.size ≤ g6)) (fun k a6 g6 c6 => gs.length - k) 0 (some ⟨bk249, 0, none⟩) bk249 0 ⟨(Nat.zero_le _), (Acc.ofBlk (xs := ([] : List Ent)) encEnt 6 (fun _ => rfl) B251 (Nat.le_refl _) (by decide)), (.inl rfl)⟩ ?_
  rintro k a6 g6 c6 w257 ⟨hk, hAo, hg6⟩ u258 zu258 K256 hK256
  have lt_g6 := hAo.lt
  have hol := filter_len (gs := gs.take k) (p := ownE (nth V213.ld i).b)
  rw [List.length_take] at hol
  refine go ?_
  refine q_p (fun g88 => ?_) fun g88 => ?_
  ·
   refine go ?_
   have D264 := (((((((((D205.keep u211 (fun hb => show ¬ ((q2 = bk200 ∧ bk200 ≤ q2)) by first | omega | assumption)).keep u216 (fun _ h => h)).keep u222 (fun _ h => h)).keep u225 (fun hb => show ¬ (q2 = bk219) by first | omega | assumption)).keep u232 (fun _ h => h)).keep u237 (fun _ h => h)).keep u243 (fun hb => show ¬ (q2 = bk234 ∨ w235.heap.size ≤ q2) by first | omega | assumption)).keep u252 (fun _ h => h)).keep u258 (fun hb => show ¬ (q2 = bk249 ∨ w250.heap.size ≤ q2) by first | omega | assumption))
   refine g_i k (D264.sl (fun _ => rfl)) (fun _ => ?_)
   refine go ?_
   refine x_n fun bk266 w267 ebk266 sbk266 B268 u269 => ?_
   refine x_s fun w271 sw271 B273 u272 => ?_
   iterate 2 refine st1 ?_
   refine x_k1 (fun _ => False) [1, 5, 11, 14, 15, 16, 17, 18, 19] (fun (z9 : Bool) => [(113, .bool z9)]) (fun z9 w => (z9 = decide ((nth gs k).k = 1 ∨ (nth gs k).k = 3 ∨ (nth gs k).b = (nth V213.ld i).b))) (fun K279 hK279 => ?_) ?_
   ·
    refine c_drawnM follows (fun _ => False) (OTl [0, 2, 4, 6, 8, 10, 12, 14, 16, 18, 20, 22, 24, 26, 28, 30, 32, 34, 36]) (by kernel_rfl) fun w282 u283 => ?_
    have zu283 := u283.size
    refine go ?_
    refine y_splitp 98 rfl (fun g98 => ?_) (fun g98 => ?_)
    ·
     refine go ?_
     exact hK279 true (by first | exact (decide_eq_false (by omega)).symm | exact (decide_eq_true (by omega)).symm | exact decide_eq_decide.2 (by omega))
    refine go ?_
    refine y_splitp 103 rfl (fun g103 => ?_) (fun g103 => ?_)
    ·
     refine go ?_
     exact hK279 true (by first | exact (decide_eq_false (by omega)).symm | exact (decide_eq_true (by omega)).symm | exact decide_eq_decide.2 (by omega))
    refine go ?_
    refine y_i i (hIV213.keepH (((((((((((Upd.refl (fun i => w215.heap.size ≤ i) _).nx u222).next u225 (fun i hi (h : i = bk219) => show w215.heap.size ≤ i by first | omega | assumption)).nx u232).nx u237).next u243 (fun i hi (h : i = bk234 ∨ w235.heap.size ≤ i) => show w215.heap.size ≤ i by first | omega | assumption)).nx u252).next u258 (fun i hi (h : i = bk249 ∨ w250.heap.size ≤ i) => show w215.heap.size ≤ i by first | omega | assumption)).nx u269).next u272 (fun i hi (h : i = bk266) => show w215.heap.size ≤ i by first | omega | assumption)).nx u283)).ls (fun _ => ?_)
    refine go ?_
    exact hK279 (decide ((nth gs k).b = (nth V213.ld i).b)) (by first | exact (decide_eq_false (by omega)).symm | exact (decide_eq_true (by omega)).symm | exact decide_eq_decide.2 (by omega))
   rintro z9 w280 hz9 u281 zu281
   refine q_b (fun g113 => ?_) fun g113 => ?_
   ·
    have hzb : ((nth gs k).k = 1 ∨ (nth gs k).k = 3 ∨ (nth gs k).b = (nth V213.ld i).b) := by rw [hz9] at g113; exact of_decide_eq_true g113
    have hfl := filt_take (gs := gs) (ownE (nth V213.ld i).b) (k := k) (by omega)
    rw [if_pos (show ownE (nth V213.ld i).b (nth gs k) = true from decide_eq_true hzb)] at hfl
    refine go ?_
    refine x_l fun bk287 w288 ebk287 sbk287 B289 u290 => ?_
    have D292 := ((((hAo.keep u269 (fun _ h => h)).keep u272 (fun hb => show ¬ (g6 = bk266) by first | omega | assumption)).keep u281 (fun _ h => h)).keep u290 (fun _ h => h))
    refine t_append (z := .agg #[.int .i64 0, .int .i64 0, .int .i64 0, .int .i64 0, .int .i64 0, .int .i64 0]) (bytes := 48) (k := 6) (base := bk249) (nth gs k) underlying22 (by kernel_rfl) rfl (by decide) (fun _ => rfl) (by intro x; simp [encEnt, Value.oneCell']) rfl rfl rfl rfl D292 B289 (by omega) (by omega) (by decide) (fun ao293 gb294 cp295 w296 A297 u298 gegb294 lngb294 => ?_)
    have zu298 := u298.size
    have lt_gb294 := A297.lt
    refine go ?_
    exact hK256 (k + 1) ao293 gb294 cp295 ⟨(by omega), (by rw [hfl]; exact A297), (show gb294 = bk249 ∨ w250.heap.size ≤ gb294 by omega)⟩ (hs := by exact ⟨(by rw [hfl]; rfl), rfl, rfl, rfl, rfl, rfl, rfl, rfl, trivial⟩)
   have hzb : ¬ ((nth gs k).k = 1 ∨ (nth gs k).k = 3 ∨ (nth gs k).b = (nth V213.ld i).b) := by rw [hz9] at g113; exact of_decide_eq_false g113
   have hfl := filt_take (gs := gs) (ownE (nth V213.ld i).b) (k := k) (by omega)
   rw [if_neg (show ¬ ownE (nth V213.ld i).b (nth gs k) = true from fun h => hzb (of_decide_eq_true h)), List.append_nil] at hfl
   refine go ?_
   have D300 := (((hAo.keep u269 (fun _ h => h)).keep u272 (fun hb => show ¬ (g6 = bk266) by first | omega | assumption)).keep u281 (fun _ h => h))
   exact hK256 (k + 1) a6 g6 c6 ⟨(by omega), (by rw [hfl]; exact D300), (show g6 = bk249 ∨ w250.heap.size ≤ g6 by omega)⟩ (hs := by exact ⟨(by rw [hfl]; rfl), rfl, rfl, rfl, rfl, rfl, rfl, rfl, trivial⟩)
  refine go ?_
  refine x_c func19 rfl rfl (Rep0_c ((gs.take k).filter (ownE (nth V213.ld i).b)) a6 g6 0 c6 _ (hAo.sl (fun _ => rfl)) (by have h9 := filter_len (gs := gs.take k) (p := ownE (nth V213.ld i).b); rw [List.length_take] at h9; omega) (by omega)) ?_
  rintro _ w304 ⟨⟨V302, rfl, hIV302, hstV302, hFV302⟩, u305⟩ zu305
  have hon : ((gs.take k).filter (ownE (nth V213.ld i).b)) = gs.filter (ownE (nth V213.ld i).b) := by rw [List.take_of_length_le (by omega)]
  have hrq2 : (repP zSea ((gs.take k).filter (ownE (nth V213.ld i).b))) = (0, 0, stt (gs.filter (ownE (nth V213.ld i).b))) := by rw [hon]; exact he1
  have hs2 : V302.st = stt (gs.filter (ownE (nth V213.ld i).b)) := by rw [hstV302, hrq2]
  have hld2 : V302.ld = [(nth V213.ld i)] := (congrArg Sea.ld hs2).trans he2
  have hwk2 : V302.wk = (fW gs (nth V213.ld i).b) := congrArg Sea.wk hs2
  have hl2 : V302.ld.length = 1 := by rw [hld2]; rfl
  clear hs2 hon
  iterate 4 refine st1 ?_
  refine t_same 124 (v := .int .i64 0) rfl (congrArg (Value.int .i64) (by rw [hrq2])) ?_
  refine x_n fun bk308 w309 ebk308 sbk308 B310 u311 => ?_
  refine x_s fun w313 sw313 B315 u314 => ?_
  refine go ?_
  refine c_drawnM follows (fun _ => False) (OTl [0, 2, 4, 6, 8, 10, 12, 14, 16, 18, 20, 22, 24, 26, 28, 30, 32, 34, 36, 38, 40, 42, 44, 46, 48]) (by kernel_rfl) fun w319 u320 => ?_
  have zu320 := u320.size
  iterate 6 refine st1 ?_
  refine y_same 130 (v := .bool false) rfl (congrArg Value.bool (decide_eq_false (by omega))) ?_
  iterate 6 refine st1 ?_
  refine y_same 136 (v := .bool false) rfl (congrArg Value.bool (decide_eq_false (by omega))) ?_
  refine go ?_
  refine y_i 0 (hIV302.keepH ((((Upd.refl (fun i => w304.heap.size ≤ i) _).nx u311).next u314 (fun i hi (h : i = bk308) => show w304.heap.size ≤ i by first | omega | assumption)).nx u320)).ls (fun _ => ?_)
  refine st1 ?_
  refine y_same 142 (v := .agg #[.int .i64 ((nth V213.ld i).b), .int .i64 ((nth V213.ld i).t)]) rfl (congrArg (fun c : Crg => Value.agg #[.int .i64 c.b, .int .i64 c.t]) (show nth V302.ld 0 = (nth V213.ld i) by rw [hld2]; rfl)) ?_
  refine go ?_
  refine y_i i (hIV213.keepH ((((((((((((Upd.refl (fun i => w215.heap.size ≤ i) _).nx u222).next u225 (fun i hi (h : i = bk219) => show w215.heap.size ≤ i by first | omega | assumption)).nx u232).nx u237).next u243 (fun i hi (h : i = bk234 ∨ w235.heap.size ≤ i) => show w215.heap.size ≤ i by first | omega | assumption)).nx u252).next u258 (fun i hi (h : i = bk249 ∨ w250.heap.size ≤ i) => show w215.heap.size ≤ i by first | omega | assumption)).nx u305).nx u311).next u314 (fun i hi (h : i = bk308) => show w215.heap.size ≤ i by first | omega | assumption)).nx u320)).ls (fun _ => ?_)
  refine go ?_
  refine y_neS (xs := [.int .i64 ((nth V213.ld i).b), .int .i64 ((nth V213.ld i).t)]) (ys := [.int .i64 ((nth V213.ld i).b), .int .i64 ((nth V213.ld i).t)]) (by kernel_rfl) (eqIn72 9998 ((nth V213.ld i).b) ((nth V213.ld i).t) ((nth V213.ld i).b) ((nth V213.ld i).t)) rfl rfl rfl rfl (y_samehd (v := .bool false) (by simp) (y_same 148 (v := .bool false) rfl (congrArg Value.bool (by simp)) ?_))
  refine go ?_
  refine c_drawnM follows (fun i => (i = g7 ∧ bk234 ≤ i)) (OTl [0, 2, 4, 10, 12, 14, 16, 7, 9, 18, 20]) (by kernel_rfl) fun w324 u325 => ?_
  have zu325 := u325.size
  iterate 3 refine st1 ?_
  refine y_same 152 (v := .int .i64 (fW gs (nth V213.ld i).b)) rfl (congrArg (Value.int .i64) hwk2) ?_
  iterate 3 refine st1 ?_
  refine y_same 157 (v := .int .i64 (fW gs (nth V213.ld i).b)) rfl (congrArg (Value.int .i64) hwk2) ?_
  refine go ?_
  refine x_l fun bk327 w328 ebk327 sbk327 B329 u330 => ?_
  refine go ?_
  have D332 := ((((((((hAw.keep u252 (fun _ h => h)).keep u258 (fun hb => show ¬ (g7 = bk249 ∨ w250.heap.size ≤ g7) by first | omega | assumption)).keep u305 (fun _ h => h)).keep u311 (fun _ h => h)).keep u314 (fun hb => show ¬ (g7 = bk308) by first | omega | assumption)).keep u320 (fun _ h => h)).keep u325 (fun _ h => h)).keep u330 (fun _ h => h))
  refine t_append (z := .int .i64 0) (bytes := 8) (k := 1) (base := bk234) (fW gs (nth V213.ld i).b) underlying28 (by kernel_rfl) rfl (by decide) (fun _ => rfl) (by intro x; simp [encI, Value.oneCell']) rfl rfl rfl rfl D332 B329 (by omega) (by omega) (by decide) (fun ao333 gb334 cp335 w336 A337 u338 gegb334 lngb334 => ?_)
  have zu338 := u338.size
  have lt_gb334 := A337.lt
  refine go ?_
  exact hK241 (i + 1) ao333 gb334 cp335 ⟨(by omega), (by rw [wkL_next (by omega)]; exact A337), (show gb334 = bk234 ∨ w235.heap.size ≤ gb334 by omega)⟩ (hs := by exact ⟨(by rw [wkL_next (by omega)]; rfl), (congrArg (fun z => some (Value.int .i64 z)) (by rw [hst9]; omega)), rfl, rfl, rfl, rfl, trivial⟩)
 have hin : i = V213.ld.length := by omega
 have hti : V213.ld.take i = V213.ld := List.take_of_length_le (by omega)
 have hA9 : preS (wkL gs (V213.ld.take i)) (wkL gs (V213.ld.take i)).length = V213.wk := by rw [wkL_len, preS_wkL (Nat.le_refl _), List.take_length, hti, hsum]
 have hws9 : ∀ x ∈ (wkL gs (V213.ld.take i)), 0 ≤ x := fun x hx => by
   obtain ⟨c, hc, rfl⟩ := List.mem_map.1 hx
   exact hpos9 c (List.mem_of_mem_take hc)
 have hsA : sumW (fW gs) (V213.ld.take i) = V213.wk := by rw [hti, hsum]
 iterate 11 refine st1 ?_
 refine t_same 160 (v := .bool false) rfl (congrArg Value.bool (decide_eq_false (by omega))) ?_
 refine go ?_
 rcases (show V213.wk = 0 ∨ 0 < V213.wk by omega) with hw9 | hw9
 ·
  refine go ?_
  refine t_conv underlying94 underlying3 rfl rfl rfl (IntWalk.i64_in _ (by omega)) ?_
  refine x_l fun bk343 w344 ebk343 sbk343 B345 u346 => ?_
  refine go ?_
  have D348 := (hAw.keep u346 (fun _ h => h))
  refine t_copy (enc := encI) (z := .int .i64 0) (bytes := 8) (k := 1) (ys := (wkL gs (V213.ld.take i))) underlying28 (by kernel_rfl) rfl (by decide) (fun _ => rfl) (by intro x; simp [encI, Value.oneCell']) rfl rfl rfl rfl B345 (D348.sl (fun _ => rfl)) (by omega) (by decide) (fun ao349 gb350 cp351 w352 A353 u354 gegb350 => ?_)
  have zu354 := u354.size
  have lt_gb350 := A353.lt
  refine x_c func26 rfl rfl (Split0_c ct (wkL gs (V213.ld.take i)) ao349 gb350 0 cp351 _ (A353.sl (fun _ => rfl)) (by omega) hws9 hct (by rw [hA9]; exact hw9)) ?_
  rintro _ w357 ⟨rfl, u358⟩ zu358
  iterate 13 refine st1 ?_
  refine t_same 172 (v := .bool true) rfl (congrArg Value.bool (decide_eq_true (by exact hw9))) ?_
  refine go ?_
  refine x_c func8 rfl rfl (knownLogs_c _ (hT.ext (((E244.u.nx u346).next u354 (fun i hi h => by omega)).nx u358)) (by omega)) ?_
  rintro _ w365 ⟨rfl, u366⟩ zu366
  refine go ?_
  refine x_c func27 rfl rfl (knownShares_c _) ?_
  rintro _ w370 ⟨rfl, u371⟩ zu371
  refine go ?_
  refine f_1 results6 ?_
  exact ⟨rfl, u_d⟩
 refine go ?_
 refine t_conv underlying94 underlying3 rfl rfl rfl (IntWalk.i64_in _ (by omega)) ?_
 refine x_l fun bk374 w375 ebk374 sbk374 B376 u377 => ?_
 refine go ?_
 have D379 := (hAw.keep u377 (fun _ h => h))
 refine t_copy (enc := encI) (z := .int .i64 0) (bytes := 8) (k := 1) (ys := (wkL gs (V213.ld.take i))) underlying28 (by kernel_rfl) rfl (by decide) (fun _ => rfl) (by intro x; simp [encI, Value.oneCell']) rfl rfl rfl rfl B376 (D379.sl (fun _ => rfl)) (by omega) (by decide) (fun ao380 gb381 cp382 w383 A384 u385 gegb381 => ?_)
 have zu385 := u385.size
 have lt_gb381 := A384.lt
 refine x_c func26 rfl rfl ((Split_c ct (wkL gs (V213.ld.take i)) ao380 gb381 0 cp382 _ (A384.sl (fun _ => rfl)) (by omega) hws9 hct (by rw [hA9]; exact hw9) (by rw [hA9]; omega)).mono fun v w h => by rw [hA9] at h; exact h) ?_
 rintro _ w388 ⟨⟨aS, gS, cS, rfl, hSh, hgS⟩, u389⟩ zu389
 have hsl := spA_len (n := ct) (a := V213.wk) (ws := (wkL gs (V213.ld.take i))) (wkL gs (V213.ld.take i)).length
 iterate 13 refine st1 ?_
 refine t_same 172 (v := .bool false) rfl (congrArg Value.bool (decide_eq_false (by omega))) ?_
 iterate 16 refine st1 ?_
 refine t_same 193 (v := .bool false) rfl (congrArg Value.bool (decide_eq_false (by exact fun h => h (by rw [hsl])))) ?_
 refine go ?_
 refine t_conv underlying94 underlying3 rfl rfl rfl (IntWalk.i64_in _ (by omega)) ?_
 refine go ?_
 refine x_l1 (fun _ => False) [14, 23] (fun (m : Nat) => [(24, .int .i64 (ct - preS (spA ct V213.wk (wkL gs (V213.ld.take i)) (wkL gs (V213.ld.take i)).length) m)), (25, .int .i64 (m : Int))]) (fun m w => (m ≤ (wkL gs (V213.ld.take i)).length)) (fun m => (wkL gs (V213.ld.take i)).length - m) 0 (Nat.zero_le _) ?_ (h0 := by exact ⟨(congrArg (fun z => some (Value.int .i64 z)) (by show ct = ct - 0; omega)), rfl, rfl, rfl, trivial⟩)
 rintro m w400 hm u401 zu401 K399 hK399
 refine go ?_
 refine q_p (fun g200 => ?_) fun g200 => ?_
 ·
  have hsm := share_at (n := ct) hct.1 hw9 hws9 hA9 (m := m) (by omega)
  refine go ?_
  have D408 := (hSh.keep u401 (fun _ h => h))
  refine g_i m D408 (fun _ => ?_)
  iterate 2 refine st1 ?_
  refine t_same 207 (v := .bool false) rfl (congrArg Value.bool (decide_eq_false (by omega))) ?_
  refine go ?_
  have D410 := (((D379.keep u385 (fun hb => show ¬ ((g7 = bk374 ∧ bk374 ≤ g7)) by first | omega | assumption)).keep u389 (fun _ h => h)).keep u401 (fun _ h => h))
  refine g_i m (D410.sl (fun _ => rfl)) (fun _ => ?_)
  refine go ?_
  refine t_splitp 214 rfl (fun g214 => ?_) (fun g214 => ?_)
  ·
   refine go ?_
   refine g_i m D408 (fun _ => ?_)
   iterate 2 refine st1 ?_
   refine t_same 219 (v := .bool false) rfl (congrArg Value.bool (decide_eq_false (by exact fun h => h (hsm.2.1 (by omega))))) ?_
   refine go ?_
   refine g_i m D408 (fun _ => ?_)
   refine go ?_
   exact hK399 (m + 1) (by omega) (hs := by exact ⟨(congrArg (fun z => some (Value.int .i64 z)) (by rw [preS]; omega)), rfl, rfl, rfl, trivial⟩)
  refine go ?_
  refine g_i m D408 (fun _ => ?_)
  refine go ?_
  exact hK399 (m + 1) (by omega) (hs := by exact ⟨(congrArg (fun z => some (Value.int .i64 z)) (by rw [preS]; omega)), rfl, rfl, rfl, trivial⟩)
 have hfin : preS (spA ct V213.wk (wkL gs (V213.ld.take i)) (wkL gs (V213.ld.take i)).length) m = ct := by rw [show m = (wkL gs (V213.ld.take i)).length by omega]; exact share_all hw9 hA9
 iterate 10 refine st1 ?_
 refine t_same 229 (v := .bool true) rfl (congrArg Value.bool (decide_eq_true (by omega))) ?_
 refine go ?_
 refine x_c func8 rfl rfl (knownLogs_c _ (hT.ext ((((E244.u.nx u377).next u385 (fun i hi h => by omega)).nx u389).nx u401)) (by omega)) ?_
 rintro _ w417 ⟨rfl, u418⟩ zu418
 refine go ?_
 refine x_c func27 rfl rfl (knownShares_c _) ?_
 rintro _ w422 ⟨rfl, u423⟩ zu423
 refine go ?_
 refine f_1 results6 ?_
 exact ⟨rfl, u_d⟩

end Go.Proofs.YtagmkfbbhfaceaaGreatDoor
namespace Go.Proofs.YtagmkfbbhfaceaaGreatDoor
open Go Go.RowKit
set_option maxRecDepth 10000
/-! ### the witness: a world in which the listed variables hold what is told of them -/
def litC : DataW Unit → Value
  | .lit (.int k n) => .int k n
  | _ => .int .i64 0
def aggC : DataW Unit → List Value
  | .agg l => l.map litC
  | _ => []
def strC : DataW Unit → Value
  | .iface _ (.ptr (.agg [.lit (.string s)])) => .string ⟨s.toArray⟩
  | _ => .int .i64 0
def setC (cs : List Value) : Obj → Obj
  | .cells _ t f => .cells cs.toArray t f
  | o => o
noncomputable def laidWorld (os : Os) : World :=
  { World.holding Tryz.prog os ⟨#[], #[], []⟩ with heap := (((((((World.holding Tryz.prog os ⟨#[], #[], []⟩).heap.modify 8 (setC (aggC Rows.laid_math_bits_deBruijn32tab))).modify 9 (setC (aggC Rows.laid_math_bits_deBruijn64tab))).modify 5 (setC (aggC Rows.laid_internal_strconv_uint64pow10))).modify 4 (setC [.iface 352 (.pointer (some ⟨15, 0, none⟩))])).modify 3 (setC [.iface 352 (.pointer (some ⟨16, 0, none⟩))])).push (.cells #[strC Rows.laid_strconv_ErrRange] 353 (0, 0))).push (.cells #[strC Rows.laid_strconv_ErrSyntax] 353 (0, 0)) }
theorem laid_met (os : Os) (args : Array Value) : laidMet Tryz.prog Rows.topSailedLogRow.laid ((laidWorld os).forCall (fun _ _ => 0) ⟨#[], args, []⟩).memory :=
  laidMet_of_run' 8 (by kernel_rfl) (by kernel_rfl)
theorem glob5 : Tryz.prog.globalNamed "internal/strconv.uint64pow10" = some 5 := by kernel_rfl
theorem glob5t : (Tryz.prog.globals[5]?).map (·.type) = some 372 := by kernel_rfl
theorem tab_of_laid {W : World} (h : laidMet Tryz.prog Rows.topSailedLogRow.laid W) : Tab10 W := by
  have e : (Rows.laid_internal_strconv_uint64pow10 : DataW Unit) = Lib.tabData .u64 Lib.pow10Tab := by kernel_rfl
  obtain ⟨ps, ⟨_, _, _, _, _, _, _, _, _, _, ⟨_, _, _, _, _, _, _, _, _, _, ⟨g', t', cs, fuel, p, q, hg', ht', hvar, hd, _, _⟩, _⟩, _⟩, _⟩ := h
  obtain rfl := Option.some.inj (glob5.symm.trans hg')
  obtain rfl := Option.some.inj (glob5t.symm.trans ht')
  unfold Tab10 Lib.TabIs
  rw [hvar, ← Lib.cells_of_tab (t := 372) (e := 225) (n := 20) (k := .u64) (zs := Lib.pow10Tab) Tryz.underlying372 Tryz.underlying225 (by kernel_rfl) (by kernel_rfl) (by rw [← e]; exact hd)]
theorem tab_pos {w : World} (h : Tab10 w) : 0 < w.heap.size := by
  unfold Tab10 Lib.TabIs World.var? at h
  rw [glob5] at h
  simp only [Option.bind_some] at h
  rcases Nat.lt_or_ge 5 w.heap.size with q | q
  · omega
  · rw [Array.getElem?_eq_none q] at h; cases h

end Go.Proofs.YtagmkfbbhfaceaaGreatDoor
