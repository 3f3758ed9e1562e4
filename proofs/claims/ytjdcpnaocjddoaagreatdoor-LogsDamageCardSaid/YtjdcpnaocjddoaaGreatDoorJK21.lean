/-
  Part 21 of the proof: contracts and plain laws. Conditions: none.
-/
import Derived.Test.YtjdcpnaocjddoaaGreatDoorJK20
namespace Go.Proofs.YtjdcpnaocjddoaaGreatDoor
open Go Go.RowKit Go.Proofs.Tryz
theorem lineG_c {p : List UInt8 → Gau} {s : List UInt8} (h : chkdP s ≠ 0) : (lineG p s).2 = chkdP s := by unfold lineG; rw [if_pos h]
theorem lineG_4 {p : List UInt8 → Gau} {s : List UInt8} (h : chkdP s = 0) (h2 : ¬ (okGau (p s) = true ∧ gauP (p s) = s ++ [10])) : (lineG p s).2 = 4 := by unfold lineG; rw [if_neg (fun e => e h), if_neg h2]
theorem lineG_0 {p : List UInt8 → Gau} {s : List UInt8} (h : chkdP s = 0) (h2 : okGau (p s) = true ∧ gauP (p s) = s ++ [10]) : lineG p s = (p s, 0) := by unfold lineG; rw [if_neg (fun e => e h), if_pos h2]
set_option maxRecDepth 20000 in
set_option maxHeartbeats 4000000 in
theorem gline_c (s : List UInt8) (w0 : World) (hsl : s.length ≤ 200000) (hE : ErrV w0) (hT : Tab10 w0) (hpos : 0 < w0.heap.size) :
    CallsV Tryz.prog 133 [.agg #[.func (.func 128) #[] #[], .func (.func 129) #[] #[], .func (.func 130) #[] #[], .func (.func 131) #[] #[], .int .i64 200], .string (strB s)] w0 (fun v w' => (∃ y : Gau, v = .tuple #[.agg (encGau y).toArray, .int .i64 (lineG parGL s).2] ∧ ((lineG parGL s).2 = 0 → y.bare = (lineG parGL s).1) ∧ y.ob = 0 ∧ y.s.length ≤ 17592186044416 ∧ Acc encI 1 3 w0.heap.size w' y.ao y.g y.cp y.s) ∧ Ext w0 w') := by
 refine f_n func133 ?_
 refine go ?_
 refine x_b fun bk2 w3 ebk2 sbk2 B4 u5 => ?_
 refine x_n fun bk7 w8 ebk7 sbk7 B9 u10 => ?_
 refine go ?_
 refine x_c func157 rfl rfl (split_c s 32 _ (by omega)) ?_
 rintro _ w14 ⟨⟨aS, gS, cS, rfl, haS⟩, u15⟩ zu15
 have lt_gS := haS.lt
 have hple := pcs_len 32 s
 have hpl1 : 1 ≤ (pcs 32 s).length := List.length_pos_iff.2 (pcs_ne 32 s)
 have hcpS := haS.cap_le
 have hdl : (pcs 32 s).dropLast.length = (pcs 32 s).length - 1 := List.length_dropLast
 iterate 8 refine st1 ?_
 refine t_same 12 (v := .int .i64 (((pcs 32 s).length - 1 : Nat) : Int)) rfl (congrArg (Value.int .i64) (by omega)) ?_
 iterate 4 refine st1 ?_
 refine x_k1 (fun _ => False) [1, 2, 4, 6, 7] (fun (z9 : Bool) => [(28, .bool z9)]) (fun z9 w => (z9 = decide (¬ (3 ≤ s.length ∧ s.length ≤ 600) ∨ nth s (s.length - 3) ≠ 32))) (fun K24 hK24 => ?_) ?_
 ·
  refine go ?_
  refine t_lenS underlying9 rfl rfl rfl rfl ?_
  refine go ?_
  refine t_splitp 16 rfl (fun g16 => ?_) (fun g16 => ?_)
  ·
   refine go ?_
   exact hK24 true (by first | exact (decide_eq_true (.inl (by omega))).symm | exact decide_eq_decide.2 ⟨fun h => .inr (fun e => h (by rw [e]; rfl)), fun h e => h.elim (fun h => h (by omega)) (fun h => h (UInt8.toNat_inj.1 (show (nth s (s.length - 3)).toNat = 32 by omega)))⟩)
  refine go ?_
  refine t_lenS underlying9 rfl rfl rfl rfl ?_
  refine go ?_
  refine t_splitp 21 rfl (fun g21 => ?_) (fun g21 => ?_)
  ·
   refine go ?_
   exact hK24 true (by first | exact (decide_eq_true (.inl (by omega))).symm | exact decide_eq_decide.2 ⟨fun h => .inr (fun e => h (by rw [e]; rfl)), fun h e => h.elim (fun h => h (by omega)) (fun h => h (UInt8.toNat_inj.1 (show (nth s (s.length - 3)).toNat = 32 by omega)))⟩)
  refine go ?_
  refine t_lenS underlying9 rfl rfl rfl rfl ?_
  refine go ?_
  refine t_idxS (s.length - 3) underlying9 rfl rfl rfl rfl (by omega) (by omega) ?_
  refine go ?_
  exact hK24 (decide (((nth s (s.length - 3)).toNat : Int) ≠ 32)) (by first | exact (decide_eq_true (.inl (by omega))).symm | exact decide_eq_decide.2 ⟨fun h => .inr (fun e => h (by rw [e]; rfl)), fun h e => h.elim (fun h => h (by omega)) (fun h => h (UInt8.toNat_inj.1 (show (nth s (s.length - 3)).toNat = 32 by omega)))⟩)
 rintro z9 w25 hz9 u26 zu26
 refine q_b (fun g28 => ?_) fun g28 => ?_
 ·
  have hzb : (¬ (3 ≤ s.length ∧ s.length ≤ 600) ∨ nth s (s.length - 3) ≠ 32) := by rw [hz9] at g28; exact of_decide_eq_true g28
  refine go ?_
  refine x_s fun w29 sw29 B31 u30 => ?_
  refine go ?_
  refine f_ret2 (v1 := .agg #[.int .i64 0, .int .i64 0, .slice none 0 0]) (v2 := .int .i64 4) results133 ⟨_, _, rfl, run_loadVarN (vs := [.int .i64 0, .int .i64 0, .slice none 0 0]) isAgg80 sizeOf80 rfl (B31.at.sub 0 3)⟩ rfl ?_
  have hc9 : chkdP s = 4 := chkd_4 hzb
  have he : (lineG parGL s).2 = 4 := by rw [lineG_c (by rw [hc9]; decide), hc9]
  exact ⟨⟨gau0, by rw [he]; rfl, fun h => (by rw [he] at h; cases h), rfl, by decide, Acc.nil _ _ _ _ _ hpos (by omega)⟩, u_d⟩
 have hzb : ¬ (¬ (3 ≤ s.length ∧ s.length ≤ 600) ∨ nth s (s.length - 3) ≠ 32) := by rw [hz9] at g28; exact of_decide_eq_false g28
 obtain ⟨⟨h3, h6⟩, h32⟩ := chkd_h hzb
 refine go ?_
 have D35 := (haS.keep u26 (fun _ h => h))
 refine t_sliceTo (((pcs 32 s).length - 1)) underlying105 sizeOf9 rfl rfl rfl rfl rfl (by omega) (t_same 32 (v := .slice (subAddr aS cS 0 1) (((pcs 32 s).dropLast).length) cS) rfl (by rw [List.length_dropLast]) ?_)
 refine x_c func146 rfl rfl (sealed_c ((pcs 32 s).dropLast) (subAddr aS cS 0 1) gS 0 cS _ (by rw [List.dropLast_eq_take]; exact Sl.upTo (D35.sl (fun _ => rfl)) cS ((pcs 32 s).length - 1) (by omega)) (by omega) (by omega) (by have h9 := join_drop_len s; omega)) ?_
 rintro _ w37 ⟨rfl, u38⟩ zu38
 refine go ?_
 refine t_bo (Bo.addS (by simp only [List.length_cons, List.length_nil]; omega)) rfl rfl rfl rfl (t_bo (Bo.neS (sealedP ((pcs 32 s).dropLast)) (s ++ [10])) rfl rfl rfl rfl ?_)
 refine go ?_
 refine q_p (fun g36 => ?_) fun g36 => ?_
 ·
  refine go ?_
  refine x_s fun w42 sw42 B44 u43 => ?_
  refine go ?_
  refine f_ret2 (v1 := .agg #[.int .i64 0, .int .i64 0, .slice none 0 0]) (v2 := .int .i64 121) results133 ⟨_, _, rfl, run_loadVarN (vs := [.int .i64 0, .int .i64 0, .slice none 0 0]) isAgg80 sizeOf80 rfl (B44.at.sub 0 3)⟩ rfl ?_
  have hc9 : chkdP s = 121 := chkd_121 hzb g36
  have he : (lineG parGL s).2 = 121 := by rw [lineG_c (by rw [hc9]; decide), hc9]
  exact ⟨⟨gau0, by rw [he]; rfl, fun h => (by rw [he] at h; cases h), rfl, by decide, Acc.nil _ _ _ _ _ hpos (by omega)⟩, u_d⟩
 have hck := chkd_0 hzb (Decidable.not_not.1 g36)
 refine go ?_
 refine c_drawnM follows (fun i => i = bk7) (OTl [0, 2, 4, 6, 8, 11, 13]) (by kernel_rfl) fun w48 u49 => ?_
 have zu49 := u49.size
 have E50 := Sc.mk (((((((Upd.refl (fun _ => False) w0).nx u5).nx u10).nx u15).nx u26).nx u38).nx u49)
 refine go ?_
 have D51 := ((D35.keep u38 (fun _ h => h)).keep u49 (fun _ h => h))
 refine y_sliceTo (((pcs 32 s).length - 1)) underlying105 sizeOf9 rfl rfl rfl rfl rfl (by omega) (y_same 42 (v := .slice (subAddr aS cS 0 1) (((pcs 32 s).dropLast).length) cS) rfl (by rw [List.length_dropLast]) ?_)
 refine go ?_
 refine x_c func131 rfl rfl (gread_c ((pcs 32 s).dropLast) (subAddr aS cS 0 1) gS 0 cS _ (by rw [List.dropLast_eq_take]; exact Sl.upTo (D51.sl (fun _ => rfl)) cS ((pcs 32 s).length - 1) (by omega)) (by omega) (fun x hx => by have h9 := pcs_items 32 s x (List.dropLast_subset _ hx); omega) (by omega) (hE.ext E50.u) (by omega)) ?_
 rintro _ w53 ⟨⟨y, rfl, hyb, hob, hyl, haY⟩, u54⟩ zu54
 have lt_y_g := haY.lt
 have hycp := haY.cap_le
 have hpy : y.bare = parGL s := hyb
 refine go ?_
 refine x_s fun w57 sw57 B59 u58 => ?_
 iterate 3 refine st1 ?_
 refine x_k1 (fun _ => False) [4] (fun (z8 : Bool) => [(57, .bool z8)]) (fun z8 w => (z8 = decide (¬ (okGau y = true ∧ gauP y = s ++ [10])))) (fun K65 hK65 => ?_) ?_
 ·
  refine go ?_
  have D68 := (haY.keep u58 (fun hb => show ¬ (y.g = bk7) by first | omega | assumption))
  refine x_c func128 rfl rfl (isGauge_c y _ (by rw [hob]; exact (D68.sl (fun _ => rfl))) hycp hyl) ?_
  rintro _ w70 ⟨rfl, u71⟩ zu71
  refine go ?_
  refine t_split 49 rfl (fun g49 => ?_) (fun g49 => ?_)
  ·
   have hx : ¬ okGau y = true := by simpa using g49
   refine go ?_
   exact hK65 true (by first | exact (decide_eq_true (show ¬ (okGau y = true ∧ gauP y = s ++ [10]) from fun h => hx h.1)).symm | exact decide_eq_decide.2 ⟨fun h e => h e.2, fun h e => h ⟨hx, e⟩⟩)
  have hx : okGau y = true := by simpa using g49
  refine go ?_
  have D74 := (D68.keep u71 (fun _ h => h))
  refine x_c func130 rfl rfl (gaugeLine_c y _ (by rw [hob]; exact (D74.sl (fun _ => rfl))) hycp hyl hx (hT.ext (((E50.u.nx u54).next u58 (fun i hi h => by omega)).nx u71)) (by omega)) ?_
  rintro _ w76 ⟨rfl, u77⟩ zu77
  refine go ?_
  refine t_bo (Bo.addS (by simp only [List.length_cons, List.length_nil]; omega)) rfl rfl rfl rfl (t_bo (Bo.neS (gauP y) (s ++ [10])) rfl rfl rfl rfl ?_)
  refine go ?_
  exact hK65 (decide ((gauP y) ≠ (s ++ [10]))) (by first | exact (decide_eq_true (show ¬ (okGau y = true ∧ gauP y = s ++ [10]) from fun h => hx h.1)).symm | exact decide_eq_decide.2 ⟨fun h e => h e.2, fun h e => h ⟨hx, e⟩⟩)
 rintro z8 w66 hz8 u67 zu67
 refine q_b (fun g57 => ?_) fun g57 => ?_
 ·
  have hzc : (¬ (okGau y = true ∧ gauP y = s ++ [10])) := by rw [hz8] at g57; exact of_decide_eq_true g57
  refine go ?_
  refine x_s fun w82 sw82 B84 u83 => ?_
  refine go ?_
  refine f_ret2 (v1 := .agg #[.int .i64 y.st, .int .i64 y.hr, .slice y.ao y.s.length y.cp]) (v2 := .int .i64 4) results133 ⟨_, _, rfl, run_loadVarN (vs := [.int .i64 y.st, .int .i64 y.hr, .slice y.ao y.s.length y.cp]) isAgg80 sizeOf80 rfl (B84.at.sub 0 3)⟩ rfl ?_
  have D86 := (((haY.keep u58 (fun hb => show ¬ (y.g = bk7) by first | omega | assumption)).keep u67 (fun _ h => h)).keep u83 (fun hb => show ¬ (y.g = bk7) by first | omega | assumption))
  obtain ⟨g9, hac9⟩ := Acc.lower (base' := w0.heap.size) D86 (by omega) hpos
  have he : (lineG parGL s).2 = 4 := lineG_4 hck (by rw [← hpy]; exact hzc)
  exact ⟨⟨⟨y.st, y.hr, y.s, y.ao, g9, 0, y.cp⟩, by rw [he]; rfl, fun h => (by rw [he] at h; cases h), rfl, hyl, hac9⟩, u_d⟩
 have hzc : ¬ (¬ (okGau y = true ∧ gauP y = s ++ [10])) := by rw [hz8] at g57; exact of_decide_eq_false g57
 refine go ?_
 refine x_s fun w88 sw88 B90 u89 => ?_
 refine go ?_
 refine f_ret2 (v1 := .agg #[.int .i64 y.st, .int .i64 y.hr, .slice y.ao y.s.length y.cp]) (v2 := .int .i64 0) results133 ⟨_, _, rfl, run_loadVarN (vs := [.int .i64 y.st, .int .i64 y.hr, .slice y.ao y.s.length y.cp]) isAgg80 sizeOf80 rfl (B90.at.sub 0 3)⟩ rfl ?_
 have D92 := (((haY.keep u58 (fun hb => show ¬ (y.g = bk7) by first | omega | assumption)).keep u67 (fun _ h => h)).keep u89 (fun hb => show ¬ (y.g = bk7) by first | omega | assumption))
 obtain ⟨g9, hac9⟩ := Acc.lower (base' := w0.heap.size) D92 (by omega) hpos
 have he : lineG parGL s = (parGL s, 0) := lineG_0 hck (by rw [← hpy]; exact Decidable.not_not.1 hzc)
 exact ⟨⟨⟨y.st, y.hr, y.s, y.ao, g9, 0, y.cp⟩, by rw [he]; rfl, fun h => (by rw [he]; exact hpy), rfl, hyl, hac9⟩, u_d⟩

end Go.Proofs.YtjdcpnaocjddoaaGreatDoor
