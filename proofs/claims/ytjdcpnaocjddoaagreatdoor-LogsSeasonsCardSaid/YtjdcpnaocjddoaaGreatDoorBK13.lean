/-
  Part 13 of the proof: contracts and plain laws. Conditions: none.
-/
import Derived.Test.YtjdcpnaocjddoaaGreatDoorRows
import Derived.Handed
import Derived.LaidLaws
import Derived.Lib.LaidTab
import Derived.Test.YtjdcpnaocjddoaaGreatDoorBK12
namespace Go.Proofs.YtjdcpnaocjddoaaGreatDoor
open Go Go.RowKit Go.Proofs.Tryz
set_option maxHeartbeats 4000000 in
theorem LogsSeasons_c (l : List Ent) (al : Option Addr) (bl ol cl : Nat) (cut : Int) (w0 : World) (hl : Sl encEnt 6 w0 al bl ol l) (hcut : 0 ≤ cut ∧ cut ≤ 255) (hT : Tab10 w0) (hpos : 0 < w0.heap.size) :
    CallsV Tryz.prog 5 [.slice al l.length cl, .int .u8 cut] w0 (fun v w' => v = .bool true ∧ Ext w0 w') := by
 have E0 := Sc.mk (Upd.refl (fun _ => False) w0)
 refine f_n func5 ?_
 refine go ?_
 refine q_p (fun g31 => ?_) fun g31 => ?_
 ·
  refine go ?_
  refine x_c func13 rfl rfl (known_c _ (hT.ext E0.u) (by omega)) ?_
  rintro _ w6 ⟨rfl, u7⟩ zu7
  refine go ?_
  refine f_1 results5 ?_
  exact ⟨rfl, u_d⟩
 refine go ?_
 refine x_l fun bk11 w12 ebk11 sbk11 B13 u14 => ?_
 refine go ?_
 refine x_n fun bk16 w17 ebk16 sbk16 B18 u19 => ?_
 refine go ?_
 refine x_s fun w21 sw21 B23 u22 => ?_
 refine go ?_
 have B27 := ((B13.kx u19).keep u22 (by omega))
 refine x_l4 (fun i => i = bk16 ∨ i = bk11 ∨ w21.heap.size ≤ i) [0, 1, 6] (fun (j : Nat) (gs : List Ent) (q : (Option Addr × Nat × Nat)) (V : SG) => [(5, .slice q.1 gs.length q.2.2), (7, .int .i64 (j : Int))]) (fun j gs q V w => Blk w bk16 37 [.int .i64 V.m, .slice V.ah V.rs.length V.ch, .slice V.al V.ld.length V.cl, .slice V.au V.un.length V.cu, .int .i64 V.wk] ∧ (j ≤ l.length) ∧ (gs.length ≤ j) ∧ (Acc encEnt 6 43 bk11 w q.1 q.2.1 q.2.2 gs) ∧ (q.2.1 = bk11 ∨ w21.heap.size ≤ q.2.1) ∧ (SIn w V 0 0 0) ∧ (SeaF w21.heap.size V) ∧ (runP zSea 0 gs = (0, 0, V.st)) ∧ (SeaOk (100000 * (j : Int)) V.st) ∧ (Bal V.st)) (fun j gs q V => l.length - j) 0 ([]) (some ⟨bk11, 0, none⟩, bk11, 0) SG0 ⟨B23, (Nat.zero_le _), (Nat.le_refl _), (Acc.ofBlk (xs := ([] : List Ent)) encEnt 6 (fun _ => rfl) B27 (Nat.le_refl _) (by decide)), (.inl rfl), (SIn.zero (by omega)), (SeaF.zero _), rfl, seaOk_zero, Bal.zero⟩ ?_
 rintro j gs q V w29 ⟨I31, hj, hgj, hA, hgW, hI, hF, hrun, hok, hbal⟩ u30 zu30 K28 hK28
 have E32 := Sc.mk ((((E0.u.nx u14).nx u19).next u22 (fun i hi h => by omega)).next u30 (fun i hi h => by omega))
 have lt_q_2_1 := hA.lt
 have hFV := hF
 have hgl := hA.lt
 have hr1 := rep1 V.st (nth l j)
 refine go ?_
 refine q_p (fun g38 => ?_) fun g38 => ?_
 ·
  have hblt := hl.lt (by omega)
  iterate 4 refine st1 ?_
  refine x_k2 (fun _ => False) [0, 1, 5, 6, 7] (fun (Z : SG) (bz : Nat) => [(8, .pointer (some ⟨bz, 0, none⟩)), (9, .int .i64 ((repP V.st [(nth l j)]).2.1 : Int)), (10, .int .i64 ((repP V.st [(nth l j)]).1))]) (fun Z bz w => (Blk w bz 37 [.int .i64 Z.m, .slice Z.ah Z.rs.length Z.ch, .slice Z.al Z.ld.length Z.cl, .slice Z.au Z.un.length Z.cu, .int .i64 Z.wk]) ∧ (SIn w Z 0 0 0) ∧ (Z.st = (repP V.st [(nth l j)]).2.2) ∧ (SeaF w29.heap.size Z) ∧ (w29.heap.size ≤ bz)) (fun K40 hK40 => ?_) ?_
  ·
   refine c_drawnM follows (fun _ => False) (.look 0 (.look 1 (.look 2 (.look 3 (.look 4 (.act 5 (.act 6 (.look 7 (.look 8 (.look 9 (.look 10 (.act 11 (.act 12 (.look 13 (.look 14 .done)) .stop) .stop))))) (.act 11 (.act 6 (.look 7 (.look 8 (.look 9 (.look 10 (.act 12 (.look 13 (.look 14 .done)) .stop))))) .stop) .stop)) (.act 11 (.act 5 (.act 6 (.look 7 (.look 8 (.look 9 (.look 10 (.act 12 (.look 13 (.look 14 .done)) .stop))))) .stop) .stop) .stop))))))) (by kernel_rfl) fun w43 u44 => ?_
   have zu44 := u44.size
   refine go ?_
   refine y_i j (hl.keep (E32.u.nx u44) (fun _ h => h)) (fun _ => ?_)
   refine go ?_
   refine s_or ?_ ?_
   ·
    refine go ?_
    refine x_l fun bk47 w48 ebk47 sbk47 B49 u50 => ?_
    refine go ?_
    refine s_or ?_ ?_
    ·
     refine go ?_
     refine x_c func20 rfl rfl (Rep_c ([(nth l j)]) (some ⟨bk47, 0, none⟩) bk47 0 1 V (100000 * (j : Int)) _ (Sl.one (x := (nth l j)) B49) (by simp) (by omega) (hI.keepN hFV (((Upd.refl (fun i => i < w21.heap.size) _).nx u44).nx u50) (fun i h => h)) hok (by omega)) ?_
     rintro _ w54 ⟨⟨V52, rfl, hIV52, hstV52, hFV52⟩, u55⟩ zu55
     refine go ?_
     refine x_n fun bk58 w59 ebk58 sbk58 B60 u61 => ?_
     refine go ?_
     refine x_s fun w63 sw63 B65 u64 => ?_
     refine go ?_
     exact hK40 V52 bk58 ⟨B65, (hIV52.keepN hFV52 (((Upd.refl (fun i => i < w48.heap.size) _).nx u61).next u64 (fun i hi (h : i = bk58) => show i < w48.heap.size by first | omega | assumption)) (fun i h => h)), hstV52, (hFV52.mono (by omega)), (by omega)⟩
    refine go ?_
    refine x_n fun bk67 w68 ebk67 sbk67 B69 u70 => ?_
    refine go ?_
    have B73 := (B49.kx u70)
    refine x_c func20 rfl rfl (Rep_c ([(nth l j)]) (some ⟨bk47, 0, none⟩) bk47 0 1 V (100000 * (j : Int)) _ (Sl.one (x := (nth l j)) B73) (by simp) (by omega) (hI.keepN hFV ((((Upd.refl (fun i => i < w21.heap.size) _).nx u44).nx u50).nx u70) (fun i h => h)) hok (by omega)) ?_
    rintro _ w75 ⟨⟨V72, rfl, hIV72, hstV72, hFV72⟩, u76⟩ zu76
    refine go ?_
    refine x_s fun w79 sw79 B81 u80 => ?_
    refine go ?_
    exact hK40 V72 bk67 ⟨B81, (hIV72.keepN hFV72 ((Upd.refl (fun i => i < w68.heap.size) _).next u80 (fun i hi (h : i = bk67) => show i < w68.heap.size by first | omega | assumption)) (fun i h => h)), hstV72, (hFV72.mono (by omega)), (by omega)⟩
   refine go ?_
   refine x_n fun bk83 w84 ebk83 sbk83 B85 u86 => ?_
   refine go ?_
   refine x_l fun bk88 w89 ebk88 sbk88 B90 u91 => ?_
   refine go ?_
   refine x_c func20 rfl rfl (Rep_c ([(nth l j)]) (some ⟨bk88, 0, none⟩) bk88 0 1 V (100000 * (j : Int)) _ (Sl.one (x := (nth l j)) B90) (by simp) (by omega) (hI.keepN hFV ((((Upd.refl (fun i => i < w21.heap.size) _).nx u44).nx u86).nx u91) (fun i h => h)) hok (by omega)) ?_
   rintro _ w95 ⟨⟨V93, rfl, hIV93, hstV93, hFV93⟩, u96⟩ zu96
   refine go ?_
   refine x_s fun w99 sw99 B101 u100 => ?_
   refine go ?_
   exact hK40 V93 bk83 ⟨B101, (hIV93.keepN hFV93 ((Upd.refl (fun i => i < w89.heap.size) _).next u100 (fun i hi (h : i = bk83) => show i < w89.heap.size by first | omega | assumption)) (fun i h => h)), hstV93, (hFV93.mono (by omega)), (by omega)⟩
  rintro Z bz w41 ⟨hBZ, hIZ, hstZ, hFZ, hgeZ⟩ u42 zu42
  refine go ?_
  refine q_p (fun g53 => ?_) fun g53 => ?_
  ·
   have hx := hr1.2 g53
   obtain ⟨z1, z2, z3, z4, z5⟩ := st_zero (hstZ.trans hx.2)
   iterate 5 refine st1 ?_
   refine t_same 55 (v := .bool false) rfl (congrArg Value.bool (decide_eq_false (by rw [hx.1]; simp))) ?_
   iterate 13 refine st1 ?_
   refine t_same 68 (v := .bool false) rfl (congrArg Value.bool (decide_eq_false (by omega))) ?_
   iterate 5 refine st1 ?_
   refine t_same 73 (v := .bool false) rfl (congrArg Value.bool (decide_eq_false (by omega))) ?_
   iterate 5 refine st1 ?_
   refine t_same 78 (v := .bool false) rfl (congrArg Value.bool (decide_eq_false (by omega))) ?_
   refine go ?_
   have B108 := (I31.kx u42)
   have D109 := (hA.keep u42 (fun _ h => h))
   exact hK28 (j + 1) gs q V ⟨B108, (by omega), (by omega), D109, (by omega), (hI.keepN hFV ((Upd.refl (fun i => i < w21.heap.size) _).nx u42) (fun i h => h)), hF, hrun, (hok.mono (by omega) (by omega)), hbal⟩
  have hx := hr1.1 (by omega)
  refine go ?_
  refine c_drawnM follows (fun i => (i = q.2.1 ∧ bk11 ≤ i) ∨ i = bk16) (OTl [0, 2, 4, 6, 8, 10, 13, 15, 17, 18]) (by kernel_rfl) fun w110 u111 => ?_
  have zu111 := u111.size
  refine go ?_
  refine y_i j (hl.keep ((E32.u.nx u42).nx u111) (fun _ h => h)) (fun _ => ?_)
  refine go ?_
  refine x_l fun bk114 w115 ebk114 sbk114 B116 u117 => ?_
  refine go ?_
  have D119 := (((hA.keep u42 (fun _ h => h)).keep u111 (fun _ h => h)).keep u117 (fun _ h => h))
  refine t_append (z := .agg #[.int .i64 0, .int .i64 0, .int .i64 0, .int .i64 0, .int .i64 0, .int .i64 0]) (bytes := 48) (k := 6) (base := bk11) (nth l j) underlying22 (by kernel_rfl) rfl (by decide) (fun _ => rfl) (by intro x; simp [encEnt, Value.oneCell']) rfl rfl rfl rfl D119 B116 (by omega) (by omega) (by decide) (fun ao120 gb121 cp122 w123 A124 u125 gegb121 lngb121 => ?_)
  have zu125 := u125.size
  have lt_gb121 := A124.lt
  refine go ?_
  refine x_s fun w127 sw127 B129 u128 => ?_
  refine go ?_
  have D131 := (A124.keep u128 (fun hb => show ¬ (gb121 = bk16) by first | omega | assumption))
  exact hK28 (j + 1) (gs ++ [(nth l j)]) (ao120, gb121, cp122) Z ⟨B129, (by omega), (by rw [List.length_append]; simp only [List.length_cons, List.length_nil]; omega), D131, (show gb121 = bk11 ∨ w21.heap.size ≤ gb121 by omega), (hIZ.keepN hFZ (((((Upd.refl (fun i => i < w29.heap.size) _).nx u111).nx u117).next u125 (fun i hi (h : (i = q.2.1 ∧ bk11 ≤ i)) => show i < w29.heap.size by first | omega | assumption)).next u128 (fun i hi (h : i = bk16) => show i < w29.heap.size by first | omega | assumption)) (fun i h => h)), (hFZ.mono (by omega)), (by rw [(show Z.st = { (stepP V.st (nth l j)).2 with m := (nth l j).m } by rw [hstZ, hx.2])]; exact runP_snoc hrun hx.1), (by rw [(show Z.st = { (stepP V.st (nth l j)).2 with m := (nth l j).m } by rw [hstZ, hx.2])]; have h9 := hok.step (by omega) hx.1; rwa [show 100000 * (j : Int) + 100000 = 100000 * ((j + 1 : Nat) : Int) by omega] at h9), (by rw [(show Z.st = { (stepP V.st (nth l j)).2 with m := (nth l j).m } by rw [hstZ, hx.2])]; exact hbal.step hx.1)⟩
 obtain ⟨k9, hk9, hk9l⟩ : ∃ k : Nat, (k : Int) = cut % ((gs.length : Int) + 1) ∧ k ≤ gs.length := ⟨(cut % ((gs.length : Int) + 1)).toNat, Int.toNat_of_nonneg (Int.emod_nonneg _ (by omega)), by have := Int.emod_lt_of_pos cut (show 0 < (gs.length : Int) + 1 by omega); omega⟩
 obtain ⟨H9, hH1, hH2, hokH⟩ := runP_cut k9 hrun (by omega)
 have hall := rep_of_run (by omega) hrun
 obtain ⟨p1, p2, p3, p4⟩ := hok.parts
 have hcap9 := hA.cap_le
 have htl9 : (gs.take k9).length = k9 := by rw [List.length_take]; omega
 have hdl9 : (gs.drop k9).length = gs.length - k9 := List.length_drop
 have hun : CgOk (100000 * (j : Int)) V.un := hok.un
 have hld : CgOk (100000 * (j : Int)) V.ld := hok.ld
 refine go ?_
 refine t_conv underlying5 underlying3 rfl rfl rfl (IntWalk.i64_in _ (by omega)) ?_
 refine go ?_
 refine t_rem rfl rfl rfl rfl (by omega) (by omega) (t_same 93 (v := .int .i64 (k9 : Int)) rfl (congrArg (Value.int .i64) hk9.symm) ?_)
 refine go ?_
 refine x_c func14 rfl rfl (entries_c gs q.1 q.2.1 0 q.2.2 _ (hA.sl (fun _ => rfl)) (by omega) (by omega)) ?_
 rintro _ w136 ⟨⟨ae134, ge134, ce134, rfl, hFe134⟩, u137⟩ zu137
 have lt_ge134 := hFe134.lt
 refine x_c func20 rfl rfl (Rep0_c gs ae134 ge134 0 ce134 _ (hFe134.sl (fun _ => rfl)) (by omega) (by omega)) ?_
 rintro _ w142 ⟨⟨V140, rfl, hIV140, hstV140, hFV140⟩, u143⟩ zu143
 have hsV1409 : V140.st = V.st := by rw [hstV140, hall]
 refine go ?_
 refine x_n fun bk146 w147 ebk146 sbk146 B148 u149 => ?_
 refine x_s fun w151 sw151 B153 u152 => ?_
 refine go ?_
 refine t_sliceTo ((gs.take k9).length) underlying22 sizeOf43 rfl rfl rfl rfl (by omega) (by omega) ?_
 have D156 := ((((hA.keep u137 (fun _ h => h)).keep u143 (fun _ h => h)).keep u149 (fun _ h => h)).keep u152 (fun hb => show ¬ (q.2.1 = bk146) by first | omega | assumption))
 refine x_c func14 rfl rfl (entries_c (gs.take k9) (subAddr q.1 q.2.2 0 6) q.2.1 0 q.2.2 _ (Sl.takeN (n := k9) (D156.sl (fun _ => rfl)) hcap9) (by omega) (by omega)) ?_
 rintro _ w159 ⟨⟨ae157, ge157, ce157, rfl, hFe157⟩, u160⟩ zu160
 have lt_ge157 := hFe157.lt
 refine x_c func20 rfl rfl (Rep0_c (gs.take k9) ae157 ge157 0 ce157 _ (hFe157.sl (fun _ => rfl)) (by omega) (by omega)) ?_
 rintro _ w165 ⟨⟨V163, rfl, hIV163, hstV163, hFV163⟩, u166⟩ zu166
 have hsV1639 : V163.st = H9 := by rw [hstV163, hH1]
 refine go ?_
 refine x_n fun bk169 w170 ebk169 sbk169 B171 u172 => ?_
 refine x_s fun w174 sw174 B176 u175 => ?_
 iterate 4 refine st1 ?_
 refine x_k2 (fun _ => False) [6, 12, 14, 17] (fun (Y : SG) (by9 : Nat) => [(18, .pointer (some ⟨by9, 0, none⟩)), (20, .int .i64 0)]) (fun Y by9 w => (Blk w by9 37 [.int .i64 Y.m, .slice Y.ah Y.rs.length Y.ch, .slice Y.al Y.ld.length Y.cl, .slice Y.au Y.un.length Y.cu, .int .i64 Y.wk]) ∧ (SIn w Y 0 0 0) ∧ (Y.st = V.st) ∧ (w174.heap.size ≤ by9)) (fun K182 hK182 => ?_) ?_
 ·
  refine c_drawnM follows (fun _ => False) (.look 0 (.look 1 (.look 2 (.look 3 (.act 4 (.act 5 (.look 6 (.look 7 (.look 8 (.look 9 (.act 10 (.act 11 (.look 12 (.look 13 .done)) .stop) .stop))))) (.act 10 (.act 5 (.look 6 (.look 7 (.look 8 (.look 9 (.act 11 (.look 12 (.look 13 .done)) .stop))))) .stop) .stop)) (.act 10 (.act 4 (.act 5 (.look 6 (.look 7 (.look 8 (.look 9 (.act 11 (.look 12 (.look 13 .done)) .stop))))) .stop) .stop) .stop)))))) (by kernel_rfl) fun w185 u186 => ?_
  have zu186 := u186.size
  refine go ?_
  refine y_sliceFrom (k9) underlying22 sizeOf43 rfl rfl rfl rfl rfl (by omega) (by omega) (y_same 116 (v := .slice (subAddr q.1 q.2.2 k9 6) ((gs.drop k9).length) (q.2.2 - k9)) rfl (by rw [List.length_drop]) (s_or ?_ ?_))
  ·
   refine go ?_
   have D188 := (((((D156.keep u160 (fun _ h => h)).keep u166 (fun _ h => h)).keep u172 (fun _ h => h)).keep u175 (fun hb => show ¬ (q.2.1 = bk169) by first | omega | assumption)).keep u186 (fun _ h => h))
   refine x_c func14 rfl rfl (entries_c (gs.drop k9) (subAddr q.1 q.2.2 k9 6) q.2.1 (0 + k9 * 6) (q.2.2 - k9) _ (Sl.dropN (l := k9) (D188.sl (fun _ => rfl)) hcap9) (by omega) (by omega)) ?_
   rintro _ w191 ⟨⟨ae189, ge189, ce189, rfl, hFe189⟩, u192⟩ zu192
   have lt_ge189 := hFe189.lt
   refine go ?_
   refine s_or ?_ ?_
   ·
    refine go ?_
    refine x_c func20 rfl rfl (Rep_c (gs.drop k9) ae189 ge189 0 ce189 V163 (100000 * ((gs.take k9).length : Int)) _ (hFe189.sl (fun _ => rfl)) (by omega) (by omega) (hIV163.keepN hFV163 (((((Upd.refl (fun i => i < w159.heap.size) _).nx u172).next u175 (fun i hi (h : i = bk169) => show i < w159.heap.size by first | omega | assumption)).nx u186).nx u192) (fun i h => h)) (by rw [hsV1639]; exact hokH) (by omega)) ?_
    rintro _ w197 ⟨⟨V195, rfl, hIV195, hstV195, hFV195⟩, u198⟩ zu198
    have hsV1959 : V195.st = V.st := by rw [hstV195, hsV1639, hH2]
    refine go ?_
    refine x_n fun bk201 w202 ebk201 sbk201 B203 u204 => ?_
    refine go ?_
    refine x_s fun w206 sw206 B208 u207 => ?_
    refine go ?_
    exact hK182 V195 bk201 ⟨B208, (hIV195.keepN hFV195 (((Upd.refl (fun i => i < w191.heap.size) _).nx u204).next u207 (fun i hi (h : i = bk201) => show i < w191.heap.size by first | omega | assumption)) (fun i h => h)), hsV1959, (by omega)⟩ (hs := by exact ⟨rfl, (congrArg (fun z => some (Value.int .i64 z)) (by rw [hsV1639, hH2])), rfl, rfl, rfl, rfl, trivial⟩)
   refine go ?_
   refine x_n fun bk210 w211 ebk210 sbk210 B212 u213 => ?_
   refine go ?_
   have D216 := (hFe189.keep u213 (fun _ h => h))
   refine x_c func20 rfl rfl (Rep_c (gs.drop k9) ae189 ge189 0 ce189 V163 (100000 * ((gs.take k9).length : Int)) _ (D216.sl (fun _ => rfl)) (by omega) (by omega) (hIV163.keepN hFV163 ((((((Upd.refl (fun i => i < w159.heap.size) _).nx u172).next u175 (fun i hi (h : i = bk169) => show i < w159.heap.size by first | omega | assumption)).nx u186).nx u192).nx u213) (fun i h => h)) (by rw [hsV1639]; exact hokH) (by omega)) ?_
   rintro _ w218 ⟨⟨V215, rfl, hIV215, hstV215, hFV215⟩, u219⟩ zu219
   have hsV2159 : V215.st = V.st := by rw [hstV215, hsV1639, hH2]
   refine go ?_
   refine x_s fun w222 sw222 B224 u223 => ?_
   refine go ?_
   exact hK182 V215 bk210 ⟨B224, (hIV215.keepN hFV215 ((Upd.refl (fun i => i < w211.heap.size) _).next u223 (fun i hi (h : i = bk210) => show i < w211.heap.size by first | omega | assumption)) (fun i h => h)), hsV2159, (by omega)⟩ (hs := by exact ⟨rfl, (congrArg (fun z => some (Value.int .i64 z)) (by rw [hsV1639, hH2])), rfl, rfl, rfl, rfl, trivial⟩)
  refine go ?_
  refine x_n fun bk226 w227 ebk226 sbk226 B228 u229 => ?_
  refine go ?_
  have D231 := ((((((D156.keep u160 (fun _ h => h)).keep u166 (fun _ h => h)).keep u172 (fun _ h => h)).keep u175 (fun hb => show ¬ (q.2.1 = bk169) by first | omega | assumption)).keep u186 (fun _ h => h)).keep u229 (fun _ h => h))
  refine x_c func14 rfl rfl (entries_c (gs.drop k9) (subAddr q.1 q.2.2 k9 6) q.2.1 (0 + k9 * 6) (q.2.2 - k9) _ (Sl.dropN (l := k9) (D231.sl (fun _ => rfl)) hcap9) (by omega) (by omega)) ?_
  rintro _ w234 ⟨⟨ae232, ge232, ce232, rfl, hFe232⟩, u235⟩ zu235
  have lt_ge232 := hFe232.lt
  refine go ?_
  refine x_c func20 rfl rfl (Rep_c (gs.drop k9) ae232 ge232 0 ce232 V163 (100000 * ((gs.take k9).length : Int)) _ (hFe232.sl (fun _ => rfl)) (by omega) (by omega) (hIV163.keepN hFV163 ((((((Upd.refl (fun i => i < w159.heap.size) _).nx u172).next u175 (fun i hi (h : i = bk169) => show i < w159.heap.size by first | omega | assumption)).nx u186).nx u229).nx u235) (fun i h => h)) (by rw [hsV1639]; exact hokH) (by omega)) ?_
  rintro _ w240 ⟨⟨V238, rfl, hIV238, hstV238, hFV238⟩, u241⟩ zu241
  have hsV2389 : V238.st = V.st := by rw [hstV238, hsV1639, hH2]
  refine go ?_
  refine x_s fun w244 sw244 B246 u245 => ?_
  refine go ?_
  exact hK182 V238 bk226 ⟨B246, (hIV238.keepN hFV238 ((Upd.refl (fun i => i < w234.heap.size) _).next u245 (fun i hi (h : i = bk226) => show i < w234.heap.size by first | omega | assumption)) (fun i h => h)), hsV2389, (by omega)⟩ (hs := by exact ⟨rfl, (congrArg (fun z => some (Value.int .i64 z)) (by rw [hsV1639, hH2])), rfl, rfl, rfl, rfl, trivial⟩)
 rintro Y by9 w183 ⟨hBY, hIY, hsY9, hgeY⟩ u184 zu184
 iterate 5 refine st1 ?_
 refine t_same 123 (v := .bool false) rfl (congrArg Value.bool (decide_eq_false (by rw [hall]; simp))) ?_
 iterate 3 refine st1 ?_
 refine t_same 126 (v := .bool false) rfl (congrArg Value.bool (decide_eq_false (by rw [hH1]; simp))) ?_
 refine go ?_
 refine x_c func23 rfl rfl (alike_c V140 V 0 0 0 0 0 0 _ (hIV140.keepN hFV140 ((((((((Upd.refl (fun i => i < w136.heap.size) _).nx u149).next u152 (fun i hi (h : i = bk146) => show i < w136.heap.size by first | omega | assumption)).nx u160).nx u166).nx u172).next u175 (fun i hi (h : i = bk169) => show i < w136.heap.size by first | omega | assumption)).nx u184) (fun i h => h)) (hI.ext ((((((((((Upd.refl (fun _ => False) _).nx u137).nx u143).nx u149).next u152 (fun i hi (h : i = bk146) => show False by first | omega | assumption)).nx u160).nx u166).nx u172).next u175 (fun i hi (h : i = bk169) => show False by first | omega | assumption)).nx u184)) hsV1409 (by have := SG_parts hsV1409; omega) (by have := SG_parts hsV1409; omega) (by have := SG_parts hsV1409; omega) (SG_cs hsV1409 p4)) ?_
 rintro _ w252 ⟨rfl, u253⟩ zu253
 refine go ?_
 refine x_c func23 rfl rfl (alike_c Y V 0 0 0 0 0 0 _ (hIY.ext ((Upd.refl (fun _ => False) _).nx u253)) (hI.ext (((((((((((Upd.refl (fun _ => False) _).nx u137).nx u143).nx u149).next u152 (fun i hi (h : i = bk146) => show False by first | omega | assumption)).nx u160).nx u166).nx u172).next u175 (fun i hi (h : i = bk169) => show False by first | omega | assumption)).nx u184).nx u253)) hsY9 (by have := SG_parts hsY9; omega) (by have := SG_parts hsY9; omega) (by have := SG_parts hsY9; omega) (SG_cs hsY9 p4)) ?_
 rintro _ w257 ⟨rfl, u258⟩ zu258
 refine go ?_
 refine t_makemap rfl rfl (fun bk262 w263 ebk262 sbk262 M264 u265 => ?_)
 have zu265 := u265.size
 refine go ?_
 refine x_l2 (fun i => i = bk262) [6, 21] (fun (i : Nat) (m : List (Int × Int)) => [(22, .int .i64 (allR 0 (V.rs.take i))), (23, .int .i64 (i : Int))]) (fun i m w => (i ≤ V.rs.length) ∧ (MapG cdI m w bk262) ∧ (MapT m (fun b => allR b (V.rs.take i)))) (fun i m => V.rs.length - i) 0 ([]) ⟨(Nat.zero_le _), (MapG.ofMemo M264), (fun b _ => rfl)⟩ ?_
 rintro i m w270 ⟨hi, hmg, hm1⟩ u271 zu271 K269 hK269
 have hmlt := hmg.lt
 refine go ?_
 refine q_p (fun g149 => ?_) fun g149 => ?_
 ·
  have hni := nth_mem (show i < V.rs.length by omega)
  have hci := (hok.rhul _ hni).2.2.1
  have hti := (hok.rhul _ hni).2.2.2
  have hpi := p4 _ hni
  have hai := hok.hulls 0 i
  have hti0 := (hci.sum (by decide) 0).1
  refine go ?_
  refine g_i i (hI.ext ((((((((((((((Upd.refl (fun _ => False) _).nx u137).nx u143).nx u149).next u152 (fun i hi (h : i = bk146) => show False by first | omega | assumption)).nx u160).nx u166).nx u172).next u175 (fun i hi (h : i = bk169) => show False by first | omega | assumption)).nx u184).nx u253).nx u258).nx u265).next u271 (fun i hi (h : i = bk262) => show False by first | omega | assumption))).hs (fun _ => ?_)
  refine go ?_
  refine x_n fun bk278 w279 ebk278 sbk278 B280 u281 => ?_
  refine x_s fun w283 sw283 B285 u284 => ?_
  iterate 4 refine st1 ?_
  refine x_k1 (fun _ => False) [6, 21, 22, 23, 24, 25] (fun (z9 : Unit) => [(170, .bool false)]) (fun z9 w => True) (fun K292 hK292 => ?_) ?_
  ·
   refine c_drawnM follows (fun _ => False) (OTl [0, 2, 4, 6, 8, 10, 12, 14, 16, 18, 20, 22, 24, 26]) (by kernel_rfl) fun w295 u296 => ?_
   have zu296 := u296.size
   refine go ?_
   refine y_splitp 159 rfl (fun g159 => ?_) (fun g159 => ?_)
   ·
    refine go ?_
    refine y_i (i - 1) (hI.ext (((((((((((((((((Upd.refl (fun _ => False) _).nx u137).nx u143).nx u149).next u152 (fun i hi (h : i = bk146) => show False by first | omega | assumption)).nx u160).nx u166).nx u172).next u175 (fun i hi (h : i = bk169) => show False by first | omega | assumption)).nx u184).nx u253).nx u258).nx u265).next u271 (fun i hi (h : i = bk262) => show False by first | omega | assumption)).nx u281).next u284 (fun i hi (h : i = bk278) => show False by first | omega | assumption)).nx u296)).hs (fun _ => ?_)
    iterate 3 refine st1 ?_
    refine y_same 169 (v := .bool false) rfl (congrArg Value.bool (decide_eq_false (by have := hok.asc (i - 1) i (by omega) (by simp [SG.st]; omega); simp only [SG.st] at this; rw [nth_mapG (by omega), nth_mapG (by omega)] at this; simp only [HR.hul] at this; omega))) ?_
    refine go ?_
    exact hK292 () trivial
   refine go ?_
   exact hK292 () trivial
  rintro z9 w293 _ u294 zu294
  refine go ?_
  have D302 := (((hmg.keep u281 (fun h => h)).keep u284 (show ¬ (bk262 = bk278) by omega)).keep u294 (fun h => h))
  refine x_l2 (fun i => i = bk262) [6, 21, 22, 23, 24] (fun (k : Nat) (m2 : List (Int × Int)) => [(25, .int .i64 (tonP 0 ((nth V.rs i).c.take k))), (26, .int .i64 (k : Int))]) (fun k m2 w => (k ≤ (nth V.rs i).c.length) ∧ (MapG cdI m2 w bk262) ∧ (MapT m2 (fun b => allR b (V.rs.take i) + tonP b ((nth V.rs i).c.take k)))) (fun k m2 => (nth V.rs i).c.length - k) 0 m ⟨(Nat.zero_le _), D302, (fun b hb => (hm1 b hb).trans (show allR b (V.rs.take i) = allR b (V.rs.take i) + 0 by omega))⟩ ?_
  rintro k m2 w304 ⟨hk, hmg2, hm2⟩ u305 zu305 K303 hK303
  refine go ?_
  refine q_p (fun g175 => ?_) fun g175 => ?_
  ·
   have hglt := (hI.cs _ hni).lt (show 0 < (nth V.rs i).c.length by omega)
   have hck := hci.at_ (show k < (nth V.rs i).c.length by omega)
   have htk := tonP_take (b := 0) hci.pos k
   have htk1 := tonP_take (b := 0) hci.pos (k + 1)
   rw [tonP_next (show k < (nth V.rs i).c.length by omega), if_pos (.inl rfl)] at htk1
   have hmb : gI m2 (nth (nth V.rs i).c k).b = allR (nth (nth V.rs i).c k).b (V.rs.take i) + tonP (nth (nth V.rs i).c k).b ((nth V.rs i).c.take k) := hm2 _ (by omega)
   have hhb := hok.hulls (nth (nth V.rs i).c k).b i
   have htb := tonP_take (b := (nth (nth V.rs i).c k).b) hci.pos k
   have htb2 := tonP_le (b := (nth (nth V.rs i).c k).b) hci.pos
   iterate 5 refine st1 ?_
   refine x_k1 (fun _ => False) [6, 21, 22, 23, 24, 25, 26] (fun (z9 : Unit) => [(204, .bool false)]) (fun z9 w => True) (fun K315 hK315 => ?_) ?_
   ·
    refine c_drawnM follows (fun _ => False) (OTl [0, 2, 4, 6, 8, 10, 12, 14, 16, 18, 20, 22, 24, 26, 28, 30, 32, 34, 36, 38, 40, 42, 44, 46, 48, 50, 52]) (by kernel_rfl) fun w318 u319 => ?_
    have zu319 := u319.size
    refine go ?_
    refine y_i k (((hI.ext (((((((((((((((((((Upd.refl (fun _ => False) _).nx u137).nx u143).nx u149).next u152 (fun i hi (h : i = bk146) => show False by first | omega | assumption)).nx u160).nx u166).nx u172).next u175 (fun i hi (h : i = bk169) => show False by first | omega | assumption)).nx u184).nx u253).nx u258).nx u265).next u271 (fun i hi (h : i = bk262) => show False by first | omega | assumption)).nx u281).next u284 (fun i hi (h : i = bk278) => show False by first | omega | assumption)).nx u294).next u305 (fun i hi (h : i = bk262) => show False by first | omega | assumption)).nx u319))).cs _ hni) (fun _ => ?_)
    iterate 3 refine st1 ?_
    refine y_same 184 (v := .bool false) rfl (congrArg Value.bool (decide_eq_false (by omega))) ?_
    refine go ?_
    refine y_splitp 188 rfl (fun g188 => ?_) (fun g188 => ?_)
    ·
     refine go ?_
     refine y_i k (((hI.ext (((((((((((((((((((Upd.refl (fun _ => False) _).nx u137).nx u143).nx u149).next u152 (fun i hi (h : i = bk146) => show False by first | omega | assumption)).nx u160).nx u166).nx u172).next u175 (fun i hi (h : i = bk169) => show False by first | omega | assumption)).nx u184).nx u253).nx u258).nx u265).next u271 (fun i hi (h : i = bk262) => show False by first | omega | assumption)).nx u281).next u284 (fun i hi (h : i = bk278) => show False by first | omega | assumption)).nx u294).next u305 (fun i hi (h : i = bk262) => show False by first | omega | assumption)).nx u319))).cs _ hni) (fun _ => ?_)
     refine go ?_
     refine y_i (k - 1) (((hI.ext (((((((((((((((((((Upd.refl (fun _ => False) _).nx u137).nx u143).nx u149).next u152 (fun i hi (h : i = bk146) => show False by first | omega | assumption)).nx u160).nx u166).nx u172).next u175 (fun i hi (h : i = bk169) => show False by first | omega | assumption)).nx u184).nx u253).nx u258).nx u265).next u271 (fun i hi (h : i = bk262) => show False by first | omega | assumption)).nx u281).next u284 (fun i hi (h : i = bk278) => show False by first | omega | assumption)).nx u294).next u305 (fun i hi (h : i = bk262) => show False by first | omega | assumption)).nx u319))).cs _ hni) (fun _ => ?_)
     iterate 3 refine st1 ?_
     refine y_same 202 (v := .bool false) rfl (congrArg Value.bool (decide_eq_false (by have := hci.1 (k - 1) k (by omega) (by omega); simp only [] at this; omega))) ?_
     refine go ?_
     exact hK315 () trivial
    refine go ?_
    exact hK315 () trivial
   rintro z9 w316 _ u317 zu317
   refine go ?_
   refine c_drawnM follows (fun i => i = bk262) (OTl [0, 2, 4, 6, 8, 10, 12, 16, 18, 20, 22, 24, 26, 15, 28, 31]) (by kernel_rfl) fun w326 u327 => ?_
   have zu327 := u327.size
   refine go ?_
   refine y_i k (((hI.ext ((((((((((((((((((((Upd.refl (fun _ => False) _).nx u137).nx u143).nx u149).next u152 (fun i hi (h : i = bk146) => show False by first | omega | assumption)).nx u160).nx u166).nx u172).next u175 (fun i hi (h : i = bk169) => show False by first | omega | assumption)).nx u184).nx u253).nx u258).nx u265).next u271 (fun i hi (h : i = bk262) => show False by first | omega | assumption)).nx u281).next u284 (fun i hi (h : i = bk278) => show False by first | omega | assumption)).nx u294).next u305 (fun i hi (h : i = bk262) => show False by first | omega | assumption)).nx u317).nx u327))).cs _ hni) (fun _ => ?_)
   refine go ?_
   refine y_i k (((hI.ext ((((((((((((((((((((Upd.refl (fun _ => False) _).nx u137).nx u143).nx u149).next u152 (fun i hi (h : i = bk146) => show False by first | omega | assumption)).nx u160).nx u166).nx u172).next u175 (fun i hi (h : i = bk169) => show False by first | omega | assumption)).nx u184).nx u253).nx u258).nx u265).next u271 (fun i hi (h : i = bk262) => show False by first | omega | assumption)).nx u281).next u284 (fun i hi (h : i = bk278) => show False by first | omega | assumption)).nx u294).next u305 (fun i hi (h : i = bk262) => show False by first | omega | assumption)).nx u317).nx u327))).cs _ hni) (fun _ => ?_)
   refine go ?_
   have D331 := ((hmg2.keep u317 (fun h => h)).keep u327 (fun h => h))
   refine t_getI (a := (nth (nth V.rs i).c k).b) (m := m2) underlying3 underlying44 zeroValue3 rfl rfl rfl rfl D331 ?_
   refine go ?_
   refine t_mapI (a := ((nth ((nth V.rs i).c) k).b)) (v := ((gI m2 (nth (nth V.rs i).c k).b) + ((nth ((nth V.rs i).c) k).t))) (m := m2) underlying3 underlying44 rfl rfl rfl rfl D331 (fun w332 sw332 M333 u334 => ?_)
   refine go ?_
   refine g_i k (((hI.ext (((((((((((((((((((((Upd.refl (fun _ => False) _).nx u137).nx u143).nx u149).next u152 (fun i hi (h : i = bk146) => show False by first | omega | assumption)).nx u160).nx u166).nx u172).next u175 (fun i hi (h : i = bk169) => show False by first | omega | assumption)).nx u184).nx u253).nx u258).nx u265).next u271 (fun i hi (h : i = bk262) => show False by first | omega | assumption)).nx u281).next u284 (fun i hi (h : i = bk278) => show False by first | omega | assumption)).nx u294).next u305 (fun i hi (h : i = bk262) => show False by first | omega | assumption)).nx u317).nx u327).next u334 (fun i hi (h : i = bk262) => show False by first | omega | assumption)))).cs _ hni) (fun _ => ?_)
   refine go ?_
   exact hK303 (k + 1) (upG m2 ((nth ((nth V.rs i).c) k).b) ((gI m2 (nth (nth V.rs i).c k).b) + ((nth ((nth V.rs i).c) k).t))) ⟨(by omega), M333, (hm2.cg (show k < (nth V.rs i).c.length by omega) (by omega))⟩ (hs := by exact ⟨(congrArg (fun z => some (Value.int .i64 z)) (by rw [tonP_next (show k < (nth V.rs i).c.length by omega), if_pos (.inl rfl)])), rfl, rfl, rfl, rfl, rfl, rfl, trivial⟩)
  have htk := tonP_take (b := 0) hci.pos k
  iterate 11 refine st1 ?_
  refine t_same 229 (v := .bool false) rfl (congrArg Value.bool (decide_eq_false (by rw [List.take_of_length_le (show (nth V.rs i).c.length ≤ k by omega)]; omega))) ?_
  refine go ?_
  exact hK269 (i + 1) m2 ⟨(by omega), hmg2, (fun b hb => by have h9 : gI m2 b = allR b (V.rs.take i) + tonP b ((nth V.rs i).c.take k) := hm2 b hb; rw [List.take_of_length_le (show (nth V.rs i).c.length ≤ k by omega)] at h9; exact h9.trans (allR_next (show i < V.rs.length by omega)).symm)⟩ (hs := by exact ⟨(congrArg (fun z => some (Value.int .i64 z)) (by rw [allR_next (show i < V.rs.length by omega), List.take_of_length_le (show (nth V.rs i).c.length ≤ k by omega)])), rfl, rfl, rfl, trivial⟩)
 have hiv : V.rs.take i = V.rs := List.take_of_length_le (by omega)
 rw [hiv] at hm1
 refine go ?_
 refine x_l2 (fun i => i = bk262) [6, 21] (fun (u : Nat) (m3 : List (Int × Int)) => [(22, .int .i64 (allR 0 V.rs + tonP 0 (V.un.take u))), (27, .int .i64 (u : Int))]) (fun u m3 w => (u ≤ V.un.length) ∧ (MapG cdI m3 w bk262) ∧ (MapT m3 (fun b => allR b V.rs + tonP b (V.un.take u)))) (fun u m3 => V.un.length - u) 0 m ⟨(Nat.zero_le _), hmg, (fun b hb => (hm1 b hb).trans (show allR b V.rs = allR b V.rs + 0 by omega))⟩ ?_ (h0 := by exact ⟨(congrArg (fun z => some (Value.int .i64 z)) (by rw [hiv]; show allR 0 V.rs = allR 0 V.rs + 0; omega)), rfl, rfl, rfl, trivial⟩)
 rintro u m3 w342 ⟨hu, hmg3, hm2⟩ u343 zu343 K341 hK341
 refine go ?_
 refine q_p (fun g237 => ?_) fun g237 => ?_
 ·
  have hglt := hI.us.lt (show 0 < V.un.length by omega)
  have hck := hun.at_ (show u < V.un.length by omega)
  have hcs := hun.sum hok.t 0
  have htk := tonP_take (b := 0) hun.pos u
  have htk1 := tonP_take (b := 0) hun.pos (u + 1)
  rw [tonP_next (show u < V.un.length by omega), if_pos (.inl rfl)] at htk1
  have hmb : gI m3 (nth V.un u).b = allR (nth V.un u).b V.rs + tonP (nth V.un u).b (V.un.take u) := hm2 _ (by omega)
  have hhb := hok.hulls (nth V.un u).b V.rs.length
  rw [List.take_length] at hhb
  have hhb0 := hok.hulls 0 V.rs.length
  rw [List.take_length] at hhb0
  have htb := tonP_take (b := (nth V.un u).b) hun.pos u
  have htb2 := hun.sum hok.t (nth V.un u).b
  refine go ?_
  refine c_drawnM follows (fun i => i = bk262) (OTl [0, 2, 4, 6, 8, 10, 12, 16, 18, 20, 22, 24, 26, 15, 28, 31]) (by kernel_rfl) fun w349 u350 => ?_
  have zu350 := u350.size
  refine go ?_
  refine y_i u (hI.ext ((((((((((((((((Upd.refl (fun _ => False) _).nx u137).nx u143).nx u149).next u152 (fun i hi (h : i = bk146) => show False by first | omega | assumption)).nx u160).nx u166).nx u172).next u175 (fun i hi (h : i = bk169) => show False by first | omega | assumption)).nx u184).nx u253).nx u258).nx u265).next u271 (fun i hi (h : i = bk262) => show False by first | omega | assumption)).next u343 (fun i hi (h : i = bk262) => show False by first | omega | assumption)).nx u350)).us (fun _ => ?_)
  refine go ?_
  refine y_i u (hI.ext ((((((((((((((((Upd.refl (fun _ => False) _).nx u137).nx u143).nx u149).next u152 (fun i hi (h : i = bk146) => show False by first | omega | assumption)).nx u160).nx u166).nx u172).next u175 (fun i hi (h : i = bk169) => show False by first | omega | assumption)).nx u184).nx u253).nx u258).nx u265).next u271 (fun i hi (h : i = bk262) => show False by first | omega | assumption)).next u343 (fun i hi (h : i = bk262) => show False by first | omega | assumption)).nx u350)).us (fun _ => ?_)
  refine go ?_
  have D354 := (hmg3.keep u350 (fun h => h))
  refine t_getI (a := (nth V.un u).b) (m := m3) underlying3 underlying44 zeroValue3 rfl rfl rfl rfl D354 ?_
  refine go ?_
  refine t_mapI (a := ((nth V.un u).b)) (v := ((gI m3 (nth V.un u).b) + ((nth V.un u).t))) (m := m3) underlying3 underlying44 rfl rfl rfl rfl D354 (fun w355 sw355 M356 u357 => ?_)
  refine go ?_
  refine g_i u (hI.ext (((((((((((((((((Upd.refl (fun _ => False) _).nx u137).nx u143).nx u149).next u152 (fun i hi (h : i = bk146) => show False by first | omega | assumption)).nx u160).nx u166).nx u172).next u175 (fun i hi (h : i = bk169) => show False by first | omega | assumption)).nx u184).nx u253).nx u258).nx u265).next u271 (fun i hi (h : i = bk262) => show False by first | omega | assumption)).next u343 (fun i hi (h : i = bk262) => show False by first | omega | assumption)).nx u350).next u357 (fun i hi (h : i = bk262) => show False by first | omega | assumption))).us (fun _ => ?_)
  refine go ?_
  exact hK341 (u + 1) (upG m3 ((nth V.un u).b) ((gI m3 (nth V.un u).b) + ((nth V.un u).t))) ⟨(by omega), M356, (hm2.cg (show u < V.un.length by omega) (by omega))⟩ (hs := by exact ⟨(congrArg (fun z => some (Value.int .i64 z)) (by rw [tonP_next (by omega), if_pos (.inl rfl)]; omega)), rfl, rfl, rfl, trivial⟩)
 have huv : V.un.take u = V.un := List.take_of_length_le (by omega)
 rw [huv] at hm2
 refine go ?_
 refine x_l1 (fun _ => False) [6, 21] (fun (d : Nat) => [(22, .int .i64 (allR 0 V.rs + tonP 0 V.un - tonP 0 (V.ld.take d))), (28, .int .i64 (d : Int))]) (fun d w => (d ≤ V.ld.length)) (fun d => V.ld.length - d) 0 (Nat.zero_le _) ?_ (h0 := by exact ⟨(congrArg (fun z => some (Value.int .i64 z)) (by rw [huv]; show allR 0 V.rs + tonP 0 V.un = allR 0 V.rs + tonP 0 V.un - 0; omega)), rfl, rfl, rfl, trivial⟩)
 rintro d w363 hd u364 zu364 K362 hK362
 refine go ?_
 refine q_p (fun g267 => ?_) fun g267 => ?_
 ·
  have hglt := hI.ls.lt (show 0 < V.ld.length by omega)
  have hck := hld.at_ (show d < V.ld.length by omega)
  have hcs := hld.sum hok.t 0
  have hcs2 := hun.sum hok.t 0
  have htk := tonP_take (b := 0) hld.pos d
  have hhb0 := hok.hulls 0 V.rs.length
  rw [List.take_length] at hhb0
  have hmb : gI m3 (nth V.ld d).b = allR (nth V.ld d).b V.rs + tonP (nth V.ld d).b V.un := hm2 _ (by omega)
  have hbb := hbal.at_ (nth V.ld d).b
  rw [tonP_uniq hld.1 (show d < V.ld.length by omega) (by omega)] at hbb
  iterate 5 refine st1 ?_
  refine x_k1 (fun _ => False) [6, 21, 22, 28] (fun (z9 : Unit) => [(304, .bool false)]) (fun z9 w => True) (fun K374 hK374 => ?_) ?_
  ·
   refine c_drawnM follows (fun _ => False) (OTl [0, 2, 4, 6, 8, 10, 12, 14, 16, 18, 20, 22, 24, 26, 28, 30, 32, 34, 36, 38, 40, 42, 44, 46, 48, 50, 54, 56, 58, 60, 62, 64, 53, 66, 68]) (by kernel_rfl) fun w377 u378 => ?_
   have zu378 := u378.size
   refine go ?_
   refine y_splitp 272 rfl (fun g272 => ?_) (fun g272 => ?_)
   ·
    refine go ?_
    refine y_i d (hI.ext (((((((((((((((((Upd.refl (fun _ => False) _).nx u137).nx u143).nx u149).next u152 (fun i hi (h : i = bk146) => show False by first | omega | assumption)).nx u160).nx u166).nx u172).next u175 (fun i hi (h : i = bk169) => show False by first | omega | assumption)).nx u184).nx u253).nx u258).nx u265).next u271 (fun i hi (h : i = bk262) => show False by first | omega | assumption)).next u343 (fun i hi (h : i = bk262) => show False by first | omega | assumption)).nx u364).nx u378)).ls (fun _ => ?_)
    refine go ?_
    refine y_i (d - 1) (hI.ext (((((((((((((((((Upd.refl (fun _ => False) _).nx u137).nx u143).nx u149).next u152 (fun i hi (h : i = bk146) => show False by first | omega | assumption)).nx u160).nx u166).nx u172).next u175 (fun i hi (h : i = bk169) => show False by first | omega | assumption)).nx u184).nx u253).nx u258).nx u265).next u271 (fun i hi (h : i = bk262) => show False by first | omega | assumption)).next u343 (fun i hi (h : i = bk262) => show False by first | omega | assumption)).nx u364).nx u378)).ls (fun _ => ?_)
    iterate 3 refine st1 ?_
    refine y_same 286 (v := .bool false) rfl (congrArg Value.bool (decide_eq_false (by have := hld.1 (d - 1) d (by omega) (by show d < V.ld.length; omega); simp only at this; omega))) ?_
    refine go ?_
    refine y_i d (hI.ext (((((((((((((((((Upd.refl (fun _ => False) _).nx u137).nx u143).nx u149).next u152 (fun i hi (h : i = bk146) => show False by first | omega | assumption)).nx u160).nx u166).nx u172).next u175 (fun i hi (h : i = bk169) => show False by first | omega | assumption)).nx u184).nx u253).nx u258).nx u265).next u271 (fun i hi (h : i = bk262) => show False by first | omega | assumption)).next u343 (fun i hi (h : i = bk262) => show False by first | omega | assumption)).nx u364).nx u378)).ls (fun _ => ?_)
    refine go ?_
    refine y_i d (hI.ext (((((((((((((((((Upd.refl (fun _ => False) _).nx u137).nx u143).nx u149).next u152 (fun i hi (h : i = bk146) => show False by first | omega | assumption)).nx u160).nx u166).nx u172).next u175 (fun i hi (h : i = bk169) => show False by first | omega | assumption)).nx u184).nx u253).nx u258).nx u265).next u271 (fun i hi (h : i = bk262) => show False by first | omega | assumption)).next u343 (fun i hi (h : i = bk262) => show False by first | omega | assumption)).nx u364).nx u378)).ls (fun _ => ?_)
    refine go ?_
    have D384 := ((hmg3.keep u364 (fun h => h)).keep u378 (fun h => h))
    refine t_getI (a := (nth V.ld d).b) (m := m3) underlying3 underlying44 zeroValue3 rfl rfl rfl rfl D384 ?_
    iterate 2 refine st1 ?_
    refine y_same 303 (v := .bool false) rfl (congrArg Value.bool (decide_eq_false (by omega))) ?_
    refine go ?_
    exact hK374 () trivial
   refine go ?_
   refine y_i d (hI.ext (((((((((((((((((Upd.refl (fun _ => False) _).nx u137).nx u143).nx u149).next u152 (fun i hi (h : i = bk146) => show False by first | omega | assumption)).nx u160).nx u166).nx u172).next u175 (fun i hi (h : i = bk169) => show False by first | omega | assumption)).nx u184).nx u253).nx u258).nx u265).next u271 (fun i hi (h : i = bk262) => show False by first | omega | assumption)).next u343 (fun i hi (h : i = bk262) => show False by first | omega | assumption)).nx u364).nx u378)).ls (fun _ => ?_)
   refine go ?_
   refine y_i d (hI.ext (((((((((((((((((Upd.refl (fun _ => False) _).nx u137).nx u143).nx u149).next u152 (fun i hi (h : i = bk146) => show False by first | omega | assumption)).nx u160).nx u166).nx u172).next u175 (fun i hi (h : i = bk169) => show False by first | omega | assumption)).nx u184).nx u253).nx u258).nx u265).next u271 (fun i hi (h : i = bk262) => show False by first | omega | assumption)).next u343 (fun i hi (h : i = bk262) => show False by first | omega | assumption)).nx u364).nx u378)).ls (fun _ => ?_)
   refine go ?_
   have D387 := ((hmg3.keep u364 (fun h => h)).keep u378 (fun h => h))
   refine t_getI (a := (nth V.ld d).b) (m := m3) underlying3 underlying44 zeroValue3 rfl rfl rfl rfl D387 ?_
   iterate 2 refine st1 ?_
   refine y_same 303 (v := .bool false) rfl (congrArg Value.bool (decide_eq_false (by omega))) ?_
   refine go ?_
   exact hK374 () trivial
  rintro z9 w375 _ u376 zu376
  refine go ?_
  refine g_i d (hI.ext (((((((((((((((((Upd.refl (fun _ => False) _).nx u137).nx u143).nx u149).next u152 (fun i hi (h : i = bk146) => show False by first | omega | assumption)).nx u160).nx u166).nx u172).next u175 (fun i hi (h : i = bk169) => show False by first | omega | assumption)).nx u184).nx u253).nx u258).nx u265).next u271 (fun i hi (h : i = bk262) => show False by first | omega | assumption)).next u343 (fun i hi (h : i = bk262) => show False by first | omega | assumption)).nx u364).nx u376)).ls (fun _ => ?_)
  refine go ?_
  exact hK362 (d + 1) (by omega) (hs := by exact ⟨(congrArg (fun z => some (Value.int .i64 z)) (by rw [tonP_next (by omega), if_pos (.inl rfl)]; omega)), rfl, rfl, rfl, trivial⟩)
 have hdv : V.ld.take d = V.ld := List.take_of_length_le (by omega)
 have hb0 := hbal.at_ 0
 iterate 10 refine st1 ?_
 refine t_same 314 (v := .bool true) rfl (congrArg Value.bool (decide_eq_true (by rw [hdv]; omega))) ?_
 iterate 4 refine st1 ?_
 refine t_same 318 (v := .bool true) rfl (congrArg Value.bool (decide_eq_true (by have := hok.wk; simp only [SG.st] at this; omega))) ?_
 refine go ?_
 refine x_c func13 rfl rfl (known_c _ (hT.ext (((((((((((((((E32.u.nx u137).nx u143).nx u149).next u152 (fun i hi h => by omega)).nx u160).nx u166).nx u172).next u175 (fun i hi h => by omega)).nx u184).nx u253).nx u258).nx u265).next u271 (fun i hi h => by omega)).next u343 (fun i hi h => by omega)).nx u364)) (by omega)) ?_
 rintro _ w392 ⟨rfl, u393⟩ zu393
 refine go ?_
 refine f_1 results5 ?_
 exact ⟨rfl, u_d⟩

end Go.Proofs.YtjdcpnaocjddoaaGreatDoor
namespace Go.Proofs.YtjdcpnaocjddoaaGreatDoor
open Go Go.RowKit Go.Proofs.Tryz
end Go.Proofs.YtjdcpnaocjddoaaGreatDoor
namespace Go.Proofs.YtjdcpnaocjddoaaGreatDoor
open Go Go.RowKit Go.Proofs.Tryz
end Go.Proofs.YtjdcpnaocjddoaaGreatDoor
namespace Go.Proofs.YtjdcpnaocjddoaaGreatDoor
open Go Go.RowKit
/-! ### the witness: a world in which the listed variables hold what is told of them -/
def litC : DataW Unit → Value
  | .lit (.int k n) => .int k n
  | _ => .int .i64 0
def aggC : DataW Unit → List Value
  | .agg l => l.map litC
  | _ => []
def aggD : DataW Unit → List Value
  | .agg l => l.flatMap aggC
  | _ => []
def strC : DataW Unit → Value
  | .iface _ (.ptr (.agg [.lit (.string s)])) => .string ⟨s.toArray⟩
  | _ => .int .i64 0
def setC (cs : List Value) : Obj → Obj
  | .cells _ t f => .cells cs.toArray t f
  | o => o
noncomputable def laidWorld (os : Os) : World :=
  { World.holding Tryz.prog os ⟨#[], #[], []⟩ with heap := (((((((((World.holding Tryz.prog os ⟨#[], #[], []⟩).heap.modify 6 (setC (aggC Rows.laid_math_bits_deBruijn32tab))).modify 7 (setC (aggC Rows.laid_math_bits_deBruijn64tab))).modify 5 (setC (aggC Rows.laid_internal_strconv_uint64pow10))).modify 4 (setC (aggD Rows.laid_unicode_utf8_acceptRanges))).modify 3 (setC (aggC Rows.laid_unicode_utf8_first))).modify 2 (setC [.iface 261 (.pointer (some ⟨13, 0, none⟩))])).modify 1 (setC [.iface 261 (.pointer (some ⟨14, 0, none⟩))])).push (.cells #[strC Rows.laid_strconv_ErrRange] 263 (0, 0))).push (.cells #[strC Rows.laid_strconv_ErrSyntax] 263 (0, 0)) }
theorem laid_met (os : Os) (args : Array Value) : laidMet Tryz.prog Rows.logsCodesRow.laid ((laidWorld os).forCall (fun _ _ => 0) ⟨#[], args, []⟩).memory :=
  laidMet_of_run' 8 (by kernel_rfl) (by kernel_rfl)
theorem glob5 : Tryz.prog.globalNamed "internal/strconv.uint64pow10" = some 5 := by kernel_rfl
theorem glob5t : (Tryz.prog.globals[5]?).map (·.type) = some 266 := by kernel_rfl
theorem tab_of_laid {W : World} (h : laidMet Tryz.prog Rows.logsCodesRow.laid W) : Tab10 W := by
  have e : (Rows.laid_internal_strconv_uint64pow10 : DataW Unit) = Lib.tabData .u64 Lib.pow10Tab := by kernel_rfl
  obtain ⟨ps, ⟨_, _, _, _, _, _, _, _, _, _, ⟨_, _, _, _, _, _, _, _, _, _, ⟨g', t', cs, fuel, p, q, hg', ht', hvar, hd, _, _⟩, _⟩, _⟩, _⟩ := h
  obtain rfl := Option.some.inj (glob5.symm.trans hg')
  obtain rfl := Option.some.inj (glob5t.symm.trans ht')
  unfold Tab10 Lib.TabIs
  rw [hvar, ← Lib.cells_of_tab (t := 266) (e := 214) (n := 20) (k := .u64) (zs := Lib.pow10Tab) Tryz.underlying266 Tryz.underlying214 (by kernel_rfl) (by kernel_rfl) (by rw [← e]; exact hd)]
theorem tab_pos {w : World} (h : Tab10 w) : 0 < w.heap.size := by
  unfold Tab10 Lib.TabIs World.var? at h
  rw [glob5] at h
  simp only [Option.bind_some] at h
  rcases Nat.lt_or_ge 5 w.heap.size with q | q
  · omega
  · rw [Array.getElem?_eq_none q] at h; cases h

end Go.Proofs.YtjdcpnaocjddoaaGreatDoor
