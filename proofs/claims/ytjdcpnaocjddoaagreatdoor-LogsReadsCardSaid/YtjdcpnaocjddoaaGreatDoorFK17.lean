/-
  Part 17 of the proof: contracts and plain laws. Conditions: none.
-/
import Derived.Test.YtjdcpnaocjddoaaGreatDoorFK16
namespace Go.Proofs.YtjdcpnaocjddoaaGreatDoor
open Go Go.RowKit Go.Proofs.Tryz
theorem rDataE_c (bs : List (List UInt8)) (ab : Option Addr) (bb ob cb : Nat) (w0 : World) (hs : Sl encStr 1 w0 ab bb ob bs) (hb : ∀ x ∈ bs, ∀ c ∈ x, c = 48 ∨ c = 49) (hT0 : 0 < bs.flatten.length) (hTl : bs.flatten.length ≤ 900000) (hbl : bs.length ≤ 1000000) (hpos : 0 < w0.heap.size) :
    CallsV Tryz.prog 53 [.slice ab bs.length cb] w0 fun v w' => (∃ D a9 g9 c9, v = .slice a9 (List.length D) c9 ∧ Acc encY 1 5 w0.heap.size w' a9 g9 c9 D ∧ D = dataP bs.flatten) ∧ Ext w0 w' :=
  CallsV.mono (rData_c bs ab bb ob cb w0 hs hb hT0 hTl hbl hpos) (by rintro v w' ⟨⟨a, g, c, rfl, h⟩, u⟩; exact ⟨⟨_, a, g, c, rfl, h, rfl⟩, u⟩)
theorem dataP_bound {t : List UInt8} (hb : ∀ x ∈ t, x = 48 ∨ x = 49) : (dataP t).length % 30 = 0 ∧ 8 * (dataP t).length ≤ t.length + 240 := by
  obtain ⟨z, h1, _, h2, h3⟩ := digs_data t.length (Nat.le_refl _) hb
  have := congrArg List.length h2
  rw [digs_len, List.length_append, List.length_replicate] at this
  omega
theorem zero30 : zeroBk.l.take 30 = List.replicate 30 (0 : UInt8) := rfl

set_option maxHeartbeats 4000000 in
set_option maxRecDepth 20000 in
theorem rWrite_c (l : List Ent) (al : Option Addr) (bl ol cl : Nat) (w0 : World) (hl : Sl encEnt 6 w0 al bl ol l) (hok0 : chkE l = 0) (hpos : 0 < w0.heap.size) :
    CallsV Tryz.prog 19 [.slice al l.length cl] w0 (fun v w' => (∃ a9 g9 c9, v = .slice a9 (List.length (rLogP l)) c9 ∧ Acc encY 1 5 w0.heap.size w' a9 g9 c9 (rLogP l)) ∧ Ext w0 w') := by
 obtain ⟨hl1, hl2, hok⟩ := chkE_ok hok0
 have htl := tapeP_len hok0
 rw [← bitsP_flat] at htl
 have hbl := bitsP_len l 0
 have hbl2 : (bitsP l).length = (bitsG 0 l).length + 1 := List.length_cons
 have hT0 : 0 < (bitsP l).flatten.length := by have h9 := codeP_pos ((l.length : Int) - 1).toNat; have h8 : (bitsP l).flatten = codeP ((l.length : Int) - 1).toNat ++ (bitsG 0 l).flatten := List.flatten_cons; rw [h8, List.length_append]; omega
 refine f_n func19 ?_
 refine go ?_
 refine x_c func54 rfl rfl (rBits_c l al bl ol cl _ hl hok0 (by omega)) ?_
 rintro _ w4 ⟨⟨aB, gB, cB, rfl, hFB⟩, u5⟩ zu5
 have lt_gB := hFB.lt
 refine x_c func53 rfl rfl (rDataE_c (bitsP l) aB gB 0 cB _ (hFB.sl (fun _ => rfl)) bitsP_bits hT0 (by omega) (by omega) (by omega)) ?_
 rintro _ w9 ⟨⟨D, aD, gD, cD, rfl, hFD, hD⟩, u10⟩ zu10
 have lt_gD := hFD.lt
 obtain ⟨hD30, hD8⟩ := dataP_bound (t := (bitsP l).flatten) (by rw [bitsP_flat]; exact tapeP_bits)
 rw [← hD] at hD30 hD8
 have hcD := hFD.cap_le
 refine x_l fun bk13 w14 ebk13 sbk13 B15 u16 => ?_
 refine go ?_
 refine x_l4 (fun i => i = bk13 ∨ w14.heap.size ≤ i) [3] (fun (g : Nat) (f9 : Nat) (v : List Bk) (q : (Option Addr × Nat × Nat)) => [(4, .slice q.1 ((bytesP v).length) q.2.2), (5, .int .i64 (v.length : Int)), (6, .int .i64 (f9 : Int))]) (fun g f9 v q w => (f9 = 120 * g) ∧ (120 * g ≤ D.length + 119) ∧ (Acc encY 1 5 bk13 w q.1 q.2.1 q.2.2 (bytesP v)) ∧ (q.2.1 = bk13 ∨ w14.heap.size ≤ q.2.1) ∧ (rBlks D = grpN (D.length / 30) v ((datBs D (D.length / 30)).drop (4 * g))) ∧ (v.length ≤ 5 * g)) (fun g f9 v q => D.length + 120 - 120 * g) 0 0 ([]) (some ⟨bk13, 0, none⟩, bk13, 0) ⟨rfl, (by omega), (Acc.ofBlk (xs := ([] : List UInt8)) encY 1 (fun _ => rfl) B15 (Nat.le_refl _) (by decide)), (.inl rfl), rfl, (Nat.zero_le _)⟩ ?_
 rintro g f9 v q w21 ⟨hf9, hg, hAq, hqW, hgrp, hvl⟩ u22 zu22 K20 hK20
 have lt_q_2_1 := hAq.lt
 have hglq := hAq.lt
 have hbv := bytesP_len v
 refine go ?_
 refine q_p (fun g17 => ?_) fun g17 => ?_
 ·
  have hdl : ((datBs D (D.length / 30)).drop (4 * g)).length = D.length / 30 - 4 * g := by rw [List.length_drop, datBs_len]
  refine go ?_
  refine t_makeN (enc := encY) (z := .int .u8 0) (bytes := 1) (k := 1) (n := 30) (0 : UInt8) underlying25 (by kernel_rfl) rfl (by decide) (fun _ => rfl) (by decide) rfl rfl rfl rfl rfl (by decide) (fun bp28 w29 ebp28 sbp28 P30 u31 => ?_)
  have lt_bp28 := P30.lt
  refine go ?_
  have D35 := (hAq.keep u31 (fun _ h => h))
  refine x_l5 (fun i => i = bk13 ∨ w14.heap.size ≤ i) [3, 6, 7] (fun (i : Nat) (e9 : Nat) (v2 : List Bk) (r : (Option Addr × Nat × Nat)) (p : Bk) => [(4, .slice r.1 ((bytesP v2).length) r.2.2), (5, .int .i64 (v2.length : Int)), (8, .int .i64 (e9 : Int))]) (fun i e9 v2 r p w => (e9 = 120 * g + 30 * i) ∧ (i ≤ 4) ∧ (120 * g + 30 * i ≤ D.length) ∧ (Acc encY 1 5 bk13 w r.1 r.2.1 r.2.2 (bytesP v2)) ∧ (r.2.1 = bk13 ∨ w14.heap.size ≤ r.2.1) ∧ (Acc encY 1 5 bp28 w (some ⟨bp28, 0, none⟩) bp28 30 (p.l.take 30)) ∧ ((v2, p) = (((datBs D (D.length / 30)).drop (4 * g)).take i).foldl nextR (v, zeroBk)) ∧ (r.2.1 ≠ bp28)) (fun i e9 v2 r p => 4 - i) 0 f9 v q zeroBk ⟨(by omega), (by omega), (by omega), D35, (by omega), (by rw [zero30]; exact P30), rfl, (by omega)⟩ ?_
  rintro i e9 v2 r p w37 ⟨he9, hi, hiD, hAr, hrW, hPr, hvp, hrp⟩ u38 zu38 K36 hK36
  have lt_r_2_1 := hAr.lt
  have lt_bp28 := hPr.lt
  have hglr := hAr.lt
  have hbv2 := bytesP_len v2
  have hp30 := blk30 p
  have hvl2 := congrArg (fun z => z.1.length) hvp
  simp only [foldR_len, List.length_take] at hvl2
  refine st1 ?_
  refine x_k1 (fun _ => False) [3, 4, 5, 6, 7, 8] (fun (z9 : Bool) => [(31, .bool z9)]) (fun z9 w => (z9 = decide (i < 4 ∧ 120 * g + 30 * i < D.length))) (fun K45 hK45 => ?_) ?_
  ·
   refine go ?_
   refine t_splitp 26 rfl (fun g26 => ?_) (fun g26 => ?_)
   ·
    refine go ?_
    exact hK45 (decide ((e9 : Int) < (D.length : Int))) (by first | exact (decide_eq_false (by omega)).symm | exact decide_eq_decide.2 (by omega))
   refine go ?_
   exact hK45 false (by first | exact (decide_eq_false (by omega)).symm | exact decide_eq_decide.2 (by omega))
  rintro z9 w46 hz9 u47 zu47
  refine q_b (fun g31 => ?_) fun g31 => ?_
  ·
   have hzb : (i < 4 ∧ 120 * g + 30 * i < D.length) := by rw [hz9] at g31; exact of_decide_eq_true g31
   have hd30 : (dat30 D (4 * g + i)).length = 30 := dat30_len (by omega)
   have hdlt := (hFD).lt
   refine go ?_
   have D52 := (hPr.keep u47 (fun _ h => h))
   refine x_l1 (fun i => i = bp28) [3, 4, 5, 6, 7, 8] (fun (b : Nat) => [(9, .int .i64 (b : Int))]) (fun b w => (b ≤ 30) ∧ (Acc encY 1 5 bp28 w (some ⟨bp28, 0, none⟩) bp28 30 (mixK b (p.l.take 30) (dat30 D (4 * g + i))))) (fun b => 30 - b) 0 ⟨(Nat.zero_le _), D52⟩ ?_
   rintro b w54 ⟨hb, hPb⟩ u55 zu55 K53 hK53
   have lt_bp28 := hPb.lt
   have hmxl := mixK_lenN hp30 hd30 hb
   refine go ?_
   refine q_p (fun g35 => ?_) fun g35 => ?_
   ·
    refine go ?_
    refine c_drawnM follows (fun i => i = bp28) (OTl [0, 2, 4, 6, 8, 12, 14, 16, 18, 20, 22, 11, 24, 26, 29]) (by kernel_rfl) fun w60 u61 => ?_
    have zu61 := u61.size
    refine go ?_
    have D63 := (hPb.keep u61 (fun _ h => h))
    refine y_i b (D63.sl (fun _ => rfl)) (fun _ => ?_)
    refine go ?_
    have D65 := (((((((hFD.keep u16 (fun _ h => h)).keep u22 (fun hb => show ¬ (gD = bk13 ∨ w14.heap.size ≤ gD) by first | omega | assumption)).keep u31 (fun _ h => h)).keep u38 (fun hb => show ¬ (gD = bk13 ∨ w14.heap.size ≤ gD) by first | omega | assumption)).keep u47 (fun _ h => h)).keep u55 (fun hb => show ¬ (gD = bp28) by first | omega | assumption)).keep u61 (fun _ h => h))
    refine y_i (30 * (4 * g + i) + b) (D65.sl (fun _ => rfl)) (fun _ => ?_) (hj := (by omega))
    refine go ?_
    refine y_bo (Bo.xor8 (nth (mixK b (p.l.take 30) (dat30 D (4 * g + i))) b) (nth D (30 * (4 * g + i) + b))) rfl rfl rfl rfl ?_
    refine y_i b (D63.sl (fun _ => rfl)) (fun _ => ?_)
    refine go ?_
    refine t_storeA (vs := [.int .u8 (((nth (mixK b (p.l.take 30) (dat30 D (4 * g + i))) b) ^^^ (nth D (30 * (4 * g + i) + b))).toNat : Int)]) (j := b) (o' := 0) (k := 1) (nth (mixK b (p.l.take 30) (dat30 D (4 * g + i))) b ^^^ nth D (30 * (4 * g + i) + b)) (fun _ => rfl) sizeOf5 rfl rfl (by omega) rfl D63 (by first | omega | (simp only [List.length_set, eRuns_len]; omega)) rfl rfl (by decide) (by simp [Value.oneCell']) rfl (fun w68 R70 u69 => ?_)
    have zu69 := u69.size
    refine go ?_
    have hst9 : (mixK b (p.l.take 30) (dat30 D (4 * g + i))).set b (nth (mixK b (p.l.take 30) (dat30 D (4 * g + i))) b ^^^ nth D (30 * (4 * g + i) + b)) = mixK (b + 1) (p.l.take 30) (dat30 D (4 * g + i)) := by rw [mixK_nthN hp30 hd30 (show b < 30 by omega), ← dat30_nth (show b < 30 by omega), mixK_stepN hp30 hd30 (show b < 30 by omega)]
    exact hK53 (b + 1) ⟨(by omega), (by rw [← hst9]; exact R70)⟩
   refine go ?_
   have D72 := ((((((hFD.keep u16 (fun _ h => h)).keep u22 (fun hb => show ¬ (gD = bk13 ∨ w14.heap.size ≤ gD) by first | omega | assumption)).keep u31 (fun _ h => h)).keep u38 (fun hb => show ¬ (gD = bk13 ∨ w14.heap.size ≤ gD) by first | omega | assumption)).keep u47 (fun _ h => h)).keep u55 (fun hb => show ¬ (gD = bp28) by first | omega | assumption))
   refine t_sliceM ((30 * (4 * g + i))) (30) underlying25 sizeOf5 rfl rfl rfl rfl rfl (by omega) (by omega) (by omega) (t_same 57 (v := .slice (subAddr aD cD (30 * (4 * g + i)) 1) ((dat30 D (4 * g + i)).length) (cD - (30 * (4 * g + i)))) rfl (by rw [hd30]) ?_)
   refine go ?_
   refine x_c func55 rfl rfl (rBlock_c (dat30 D (4 * g + i)) (subAddr aD cD (30 * (4 * g + i)) 1) gD (0 + (30 * (4 * g + i)) * 1) (cD - (30 * (4 * g + i))) v2.length _ ((D72.sl (fun _ => rfl)).sub cD (30 * (4 * g + i)) 30 (by omega)) (by first | exact hd30 | exact blk30 _) (by omega) (by omega)) ?_
   rintro _ w75 ⟨⟨ak73, gk73, ck73, rfl, hFk73⟩, u76⟩ zu76
   have lt_gk73 := hFk73.lt
   have D79 := (((hAr.keep u47 (fun _ h => h)).keep u55 (fun hb => show ¬ (r.2.1 = bp28) by first | omega | assumption)).keep u76 (fun _ h => h))
   refine t_appendAll (enc := encY) (z := .int .u8 0) (bytes := 1) (k := 1) (base := bk13) (xs := (bytesP v2)) (ys := ((mkB (dat30 D (4 * g + i))).shutB v2.length).l) underlying25 (by kernel_rfl) rfl (by decide) (fun _ => rfl) (by intro x; simp [encY, Value.oneCell']) rfl rfl rfl rfl D79 (hFk73.sl (fun _ => rfl)) (by omega) (by omega) (by rw [Bk.h]; decide) (by decide) (fun ao80 gb81 cp82 w83 A84 u85 gegb81 lngb81 => ?_)
   have zu85 := u85.size
   have lt_gb81 := A84.lt
   refine go ?_
   have hnd9 : nth ((datBs D (D.length / 30)).drop (4 * g)) i = mkB (dat30 D (4 * g + i)) := by rw [nth_drop, datBs_nth (by omega)]
   have hmx9 : (p.mix (mkB (dat30 D (4 * g + i)))).l.take 30 = mixK b (p.l.take 30) (dat30 D (4 * g + i)) := by rw [show b = 30 by omega, mixK_fullN hp30 hd30, mix_take, (mkB_take hd30).1]
   have D87 := ((hPb.keep u76 (fun _ h => h)).keep u85 (fun hb => show ¬ ((bp28 = r.2.1 ∧ bk13 ≤ bp28)) by first | omega | assumption))
   exact hK36 (i + 1) (e9 + 30) (v2 ++ [(mkB (dat30 D (4 * g + i))).shutB v2.length]) (ao80, gb81, cp82) (p.mix (mkB (dat30 D (4 * g + i)))) ⟨(by omega), (by omega), (by omega), (by rw [bytesP_snoc]; exact A84), (show gb81 = bk13 ∨ w14.heap.size ≤ gb81 by omega), (by rw [hmx9]; exact D87), (by rw [foldR_snoc (by rw [hdl]; omega), ← hvp, hnd9]; rfl), (show gb81 ≠ bp28 by omega)⟩ (hs := by exact ⟨(by rw [bytesP_snoc]; rfl), (congrArg (fun z => some (Value.int .i64 z)) (by rw [List.length_append]; simp only [List.length_cons, List.length_nil]; omega)), rfl, rfl, rfl, rfl, trivial⟩)
  have hzb : ¬ (i < 4 ∧ 120 * g + 30 * i < D.length) := by rw [hz9] at g31; exact of_decide_eq_false g31
  iterate 9 refine st1 ?_
  refine t_same 64 (v := .slice (some ⟨bp28, 0, none⟩) ((p.l.take 30).length) 30) rfl (by rw [hp30]) ?_
  refine go ?_
  have D88 := (hPr.keep u47 (fun _ h => h))
  refine x_c func55 rfl rfl (rBlock_c (p.l.take 30) (some ⟨bp28, 0, none⟩) bp28 0 30 v2.length _ (D88.sl (fun _ => rfl)) (by first | exact hd30 | exact blk30 _) (by omega) (by omega)) ?_
  rintro _ w91 ⟨⟨ak89, gk89, ck89, rfl, hFk89⟩, u92⟩ zu92
  have lt_gk89 := hFk89.lt
  have D95 := ((hAr.keep u47 (fun _ h => h)).keep u92 (fun _ h => h))
  refine t_appendAll (enc := encY) (z := .int .u8 0) (bytes := 1) (k := 1) (base := bk13) (xs := (bytesP v2)) (ys := ((mkB (p.l.take 30)).shutB v2.length).l) underlying25 (by kernel_rfl) rfl (by decide) (fun _ => rfl) (by intro x; simp [encY, Value.oneCell']) rfl rfl rfl rfl D95 (hFk89.sl (fun _ => rfl)) (by omega) (by omega) (by rw [Bk.h]; decide) (by decide) (fun ao96 gb97 cp98 w99 A100 u101 gegb97 lngb97 => ?_)
  have zu101 := u101.size
  have lt_gb97 := A100.lt
  refine go ?_
  have hst9 : bytesP (shutG (v2, p)) = bytesP v2 ++ ((mkB (p.l.take 30)).shutB v2.length).l := by rw [shutB_mk]; exact bytesP_snoc v2 _
  have h4 : ((datBs D (D.length / 30)).drop (4 * g)).take 4 = ((datBs D (D.length / 30)).drop (4 * g)).take i := by
    rcases Nat.lt_or_ge i 4 with q9 | q9
    · rw [List.take_of_length_le (by rw [hdl]; omega), List.take_of_length_le (by rw [hdl]; omega)]
    · rw [show i = 4 by omega]
  exact hK20 (g + 1) (f9 + 120) (shutG (v2, p)) (ao96, gb97, cp98) ⟨(by omega), (by omega), (by rw [hst9]; exact A100), (show gb97 = bk13 ∨ w14.heap.size ≤ gb97 by omega), (by rw [hgrp, grpN_step (by rw [hdl]; omega) (by rw [hdl]; omega), h4, ← hvp, List.drop_drop, show 4 * g + 4 = 4 * (g + 1) by omega]), (by rw [show shutG (v2, p) = v2 ++ [p.shutB v2.length] from rfl, List.length_append]; simp only [List.length_cons, List.length_nil]; omega)⟩ (hs := by exact ⟨(by rw [hst9]; rfl), (congrArg (fun z => some (Value.int .i64 z)) (by show _ = (((v2 ++ [p.shutB v2.length]).length : Nat) : Int); rw [List.length_append]; simp only [List.length_cons, List.length_nil]; omega)), rfl, rfl, trivial⟩)
 refine go ?_
 refine f_1 results19 ?_
 have hfin : v = rBlks D := by rw [hgrp, List.drop_of_length_le (by rw [datBs_len]; omega), grpN_nil]
 obtain ⟨gz, hz⟩ := Acc.lower (base' := w0.heap.size) hAq (by omega) hpos
 have hlg : rLogP l = bytesP v := by rw [hfin, hD]; rfl
 exact ⟨⟨_, gz, _, by rw [hlg], by rw [hlg]; exact hz⟩, u_d⟩

end Go.Proofs.YtjdcpnaocjddoaaGreatDoor
namespace Go.Proofs.YtjdcpnaocjddoaaGreatDoor
open Go Go.RowKit Go.Proofs.Tryz
/-! ### the reference reads a log -/
theorem m128_pos : ∀ i, i ≤ 8 → (0 < 128 / 2 ^ i ↔ i < 8) := by decide
theorem m128_eq : ∀ i, i < 8 → 128 / 2 ^ i = 2 ^ (7 - i) := by decide
theorem m128_le : ∀ i, i ≤ 8 → 128 / 2 ^ i ≤ 128 := by decide
theorem m128_half (i : Nat) : 128 / 2 ^ i / 2 = 128 / 2 ^ (i + 1) := by rw [Nat.div_div_eq_div_mul, Nat.pow_succ]
theorem m128_bit {x i : Nat} (hi : i < 8) : (x : Int) / ((128 / 2 ^ i : Nat) : Int) % 2 = ((x / 2 ^ (7 - i) % 2 : Nat) : Int) := by
  rw [m128_eq i hi, ← Int.natCast_ediv]
  omega
theorem bit_snoc {x i : Nat} (hi : i < 8) : (putP x 8).take (i + 1) = (putP x 8).take i ++ [bitB x (7 - i)] := by
  rw [take_nth (by rw [putP_length]; exact hi), putP_nth hi]
theorem gL_iff {n k : Nat} (hk : k < n) : k = gL n k ↔ (k % 5 = 4 ∨ k + 1 = n) := by unfold gL gF; omega
theorem opP_bytes {xs : List UInt8} (h0 : opE xs = 0) : bytesP (opP xs) = xs := by
  have hok := opE_ok h0
  unfold opP
  rw [if_pos h0, blksP_all hok.1]
theorem rlog_iff {E : List Ent} {xs : List UInt8} (h : chkE E = 0) (h0 : opE xs = 0) : rLogP E = xs ↔ writeP E = opP xs := by
  rw [rLogP_eq h]
  constructor
  · intro e; exact bytesP_inj (by rw [e, opP_bytes h0])
  · intro e; rw [e, opP_bytes h0]
set_option maxHeartbeats 4000000 in
theorem rRead_c (xs : List UInt8) (ab : Option Addr) (bb ob cb : Nat) (w0 : World) (hs : Sl encY 1 w0 ab bb ob xs) (hcb : xs.length ≤ cb) (hxl : xs.length ≤ 1000000) (hpos : 0 < w0.heap.size) :
    CallsV Tryz.prog 35 [.slice ab xs.length cb] w0 (fun v w' => (∃ a9 g9 c9, v = .tuple #[.slice a9 (List.length (readR xs).1) c9, .int .i64 (readR xs).2.1, .int .i64 (readR xs).2.2] ∧ Acc encEnt 6 43 w0.heap.size w' a9 g9 c9 (readR xs).1) ∧ Ext w0 w') := by
 refine f_n func35 ?_
 refine go ?_
 refine x_c func74 rfl rfl (length_c xs ab cb _ (by omega)) ?_
 rintro _ w5 ⟨rfl, u6⟩ zu6
 refine go ?_
 refine q_p (fun g19 => ?_) fun g19 => ?_
 ·
  refine go ?_
  refine f_ret3 (v1 := .slice none 0 0) (v2 := .int .i64 0) (v3 := .int .i64 (opE xs)) results35 rfl rfl rfl ?_
  have he : readR xs = ([], 0, opE xs) := by unfold readR; rw [if_pos g19]
  exact ⟨⟨none, 0, 0, by rw [he]; rfl, by rw [he]; exact (Acc.nil _ _ _ _ _ hpos (by omega))⟩, u_d⟩
 have hE0 : opE xs = 0 := by omega
 have hok := opE_ok hE0
 have hVl : (opP xs).length = xs.length / 32 := by unfold opP; rw [if_pos hE0, blksP_len]
 refine go ?_
 refine x_l fun bk12 w13 ebk12 sbk12 B14 u15 => ?_
 refine go ?_
 refine x_l3 (fun i => i = bk12 ∨ w13.heap.size ≤ i) [0] (fun (k : Nat) (o1 : List UInt8) (q : (Option Addr × Nat × Nat)) => [(2, .slice none 0 0), (3, .int .i64 0), (4, .int .i64 0), (6, .slice q.1 o1.length q.2.2), (7, .int .i64 (k : Int))]) (fun k o1 q w => (k ≤ (opP xs).length) ∧ (Acc encY 1 5 bk12 w q.1 q.2.1 q.2.2 o1) ∧ (q.2.1 = bk12 ∨ w13.heap.size ≤ q.2.1) ∧ (o1 = (tapB (opP xs) k)) ∧ (∀ i, i < k → badB (opP xs) i = false)) (fun k o1 q => (opP xs).length - k) 0 ([]) (some ⟨bk12, 0, none⟩, bk12, 0) ⟨(Nat.zero_le _), (Acc.ofBlk (xs := ([] : List UInt8)) encY 1 (fun _ => rfl) B14 (Nat.le_refl _) (by decide)), (.inl rfl), rfl, (fun i h => absurd h (Nat.not_lt_zero _))⟩ ?_
 rintro k o1 q w20 ⟨hk, hAq, hqW, ho1, hgd⟩ u21 zu21 K19 hK19
 have E22 := Sc.mk ((((Upd.refl (fun _ => False) w0).nx u6).nx u15).next u21 (fun i hi h => by omega))
 have lt_q_2_1 := hAq.lt
 have hgl := hAq.lt
 have htb := (tapB_len (opP xs) k).1
 have hcl := congrArg List.length ho1
 refine go ?_
 refine t_quo rfl rfl rfl rfl (by omega) (by omega) (t_same 25 (v := .int .i64 ((xs.length / 32 : Nat) : Int)) rfl (congrArg (Value.int .i64) (by omega)) ?_)
 refine go ?_
 refine q_p (fun g26 => ?_) fun g26 => ?_
 ·
  have h30 := blk30 (nth (opP xs) k)
  refine go ?_
  refine x_c func75 rfl rfl (soundR_c xs ab bb ob cb k _ (hs.keep E22.u (fun _ h => h)) (by omega) (by omega) (by omega) hE0 (by omega)) ?_
  rintro _ w29 ⟨rfl, u30⟩ zu30
  refine go ?_
  refine q_p (fun g32 => ?_) fun g32 => ?_
  ·
   refine go ?_
   refine f_ret3 (v1 := .slice none 0 0) (v2 := .int .i64 (k : Int)) (v3 := .int .i64 121) results35 rfl rfl rfl ?_
   have hE1 : ¬ opE xs ≠ 0 := by omega
   obtain ⟨r9, hr9⟩ := badP_head (v := (opP xs)) (k := k) (by omega) (by unfold badB; rw [decide_eq_false g32]; rfl) hgd
   have he : readR xs = ([], (k : Int), 121) := by unfold readR; rw [if_neg hE1, hr9]
   exact ⟨⟨none, 0, 0, by rw [he]; rfl, by rw [he]; exact (Acc.nil _ _ _ _ _ hpos (by omega))⟩, u_d⟩
  have hgk : badB (opP xs) k = false := by unfold badB; rw [decide_eq_true (Decidable.not_not.1 g32)]; rfl
  iterate 3 refine st1 ?_
  refine x_k1 (fun _ => False) [0, 2, 3, 4, 6, 7] (fun (z9 : Bool) => [(44, .bool z9)]) (fun z9 w => (z9 = decide (k % 5 = 4 ∨ k + 1 = xs.length / 32))) (fun K39 hK39 => ?_) ?_
  ·
   refine go ?_
   refine t_rem rfl rfl rfl rfl (by omega) (by omega) ?_
   refine go ?_
   refine t_splitp 37 rfl (fun g37 => ?_) (fun g37 => ?_)
   ·
    refine go ?_
    exact hK39 true (by first | exact (decide_eq_false (by omega)).symm | exact (decide_eq_true (by omega)).symm | exact decide_eq_decide.2 (by omega))
   refine go ?_
   refine t_quo rfl rfl rfl rfl (by omega) (by omega) (t_same 41 (v := .int .i64 ((xs.length / 32 : Nat) : Int)) rfl (congrArg (Value.int .i64) (by omega)) ?_)
   refine go ?_
   exact hK39 (decide ((k : Int) = (((xs.length / 32 : Nat) : Int) - 1))) (by first | exact (decide_eq_false (by omega)).symm | exact (decide_eq_true (by omega)).symm | exact decide_eq_decide.2 (by omega))
  rintro z9 w40 hz9 u41 zu41
  refine q_b (fun g44 => ?_) fun g44 => ?_
  ·
   have hzb : (k % 5 = 4 ∨ k + 1 = xs.length / 32) := by rw [hz9] at g44; exact of_decide_eq_true g44
   refine go ?_
   have D43 := ((hAq.keep u30 (fun _ h => h)).keep u41 (fun _ h => h))
   exact hK19 (k + 1) o1 (q.1, q.2.1, q.2.2) ⟨(by omega), D43, (show q.2.1 = bk12 ∨ w13.heap.size ≤ q.2.1 by omega), (by show o1 = (tapB (opP xs) k) ++ tapG (opP xs) (opP xs).length k; unfold tapG; rw [if_pos ((gL_iff (by omega)).2 (by omega)), List.append_nil]; exact ho1), (fun i hi => by rcases Nat.lt_or_eq_of_le (Nat.le_of_lt_succ hi) with h | h; exact hgd i h; rw [h]; exact hgk)⟩
  have hzb : ¬ (k % 5 = 4 ∨ k + 1 = xs.length / 32) := by rw [hz9] at g44; exact of_decide_eq_false g44
  refine go ?_
  have D45 := ((hAq.keep u30 (fun _ h => h)).keep u41 (fun _ h => h))
  refine x_l3 (fun i => i = bk12 ∨ w13.heap.size ≤ i) [0, 2, 3, 4, 7] (fun (j : Nat) (o2 : List UInt8) (r : (Option Addr × Nat × Nat)) => [(6, .slice r.1 o2.length r.2.2), (8, .int .i64 (j : Int))]) (fun j o2 r w => (j ≤ 30) ∧ (Acc encY 1 5 bk12 w r.1 r.2.1 r.2.2 o2) ∧ (r.2.1 = bk12 ∨ w13.heap.size ≤ r.2.1) ∧ (o2 = ((tapB (opP xs) k) ++ digs (((nth (opP xs) k).l.take 30).take j)))) (fun j o2 r => 30 - j) 0 o1 q ⟨(Nat.zero_le _), D45, hqW, (by rw [ho1]; exact (List.append_nil _).symm)⟩ ?_
  rintro j o2 r w47 ⟨hj, hAr, hrW, ho2⟩ u48 zu48 K46 hK46
  have lt_r_2_1 := hAr.lt
  have hglr := hAr.lt
  have hcl2 := congrArg List.length ho2
  rw [List.length_append, digs_len, List.length_take, h30] at hcl2
  have hub := (nth ((nth (opP xs) k).l.take 30) j).toNat_lt
  refine go ?_
  refine q_p (fun g46 => ?_) fun g46 => ?_
  ·
   refine go ?_
   refine x_l3 (fun i => i = bk12 ∨ w13.heap.size ≤ i) [0, 2, 3, 4, 7, 8] (fun (i : Nat) (o3 : List UInt8) (t : (Option Addr × Nat × Nat)) => [(6, .slice t.1 o3.length t.2.2), (9, .int .i64 ((128 / 2 ^ i : Nat) : Int))]) (fun i o3 t w => (i ≤ 8) ∧ (Acc encY 1 5 bk12 w t.1 t.2.1 t.2.2 o3) ∧ (t.2.1 = bk12 ∨ w13.heap.size ≤ t.2.1) ∧ (o3 = (((tapB (opP xs) k) ++ digs (((nth (opP xs) k).l.take 30).take j)) ++ (putP (nth ((nth (opP xs) k).l.take 30) j).toNat 8).take i))) (fun i o3 t => 8 - i) 0 o2 r ⟨(Nat.zero_le _), hAr, hrW, (by rw [ho2]; exact (List.append_nil _).symm)⟩ ?_
   rintro i o3 t w55 ⟨hi, hAt, htW, ho3⟩ u56 zu56 K54 hK54
   have lt_t_2_1 := hAt.lt
   have hglt := hAt.lt
   have ht9 : ((putP (nth ((nth (opP xs) k).l.take 30) j).toNat 8).take i).length = i := by rw [List.length_take, putP_length]; omega
   have ht8 : (((nth (opP xs) k).l.take 30).take j).length = j := by rw [List.length_take, h30]; omega
   have hcl3 := congrArg List.length ho3
   rw [List.length_append, List.length_append, digs_len, ht8, ht9] at hcl3
   have hm8 := m128_pos i hi
   have hmh := m128_half i
   have hml := m128_le i hi
   refine go ?_
   refine q_p (fun g50 => ?_) fun g50 => ?_
   ·
    have hi8 : i < 8 := hm8.1 (by omega)
    have hbv := bitB_val (nth ((nth (opP xs) k).l.take 30) j).toNat (7 - i)
    have hmb := m128_bit (x := (nth ((nth (opP xs) k).l.take 30) j).toNat) hi8
    have hqn : 0 ≤ (((nth ((nth (opP xs) k).l.take 30) j).toNat : Nat) : Int) / ((128 / 2 ^ i : Nat) : Int) := Int.ediv_nonneg (by omega) (by omega)
    have hqx : (((nth ((nth (opP xs) k).l.take 30) j).toNat : Nat) : Int) / ((128 / 2 ^ i : Nat) : Int) ≤ (((nth ((nth (opP xs) k).l.take 30) j).toNat : Nat) : Int) := Int.ediv_le_self _ (by omega)
    have hxn : nth xs (32 * k + j) = nth ((nth (opP xs) k).l.take 30) j := by rw [nth_takeL (by omega), opP_nth hE0 (by omega), nth_takeL (by omega), nth_drop]
    refine go ?_
    refine g_i (32 * k + j) (hs.keep ((((E22.u.nx u30).nx u41).next u48 (fun i hi h => by omega)).next u56 (fun i hi h => by omega)) (fun _ h => h)) (fun _ => ?_) (hj := (by omega))
    refine st1 ?_
    refine t_same 60 (v := .int .u8 ((nth ((nth (opP xs) k).l.take 30) j).toNat : Int)) rfl (by rw [hxn]) (t_conv underlying5 underlying3 rfl rfl rfl (IntWalk.i64_in _ (by omega)) ?_)
    refine go ?_
    refine t_quo rfl rfl rfl rfl (by omega) (by omega) (t_rem rfl rfl rfl rfl (by omega) (by omega) (t_same 64 (v := .int .i64 (((nth ((nth (opP xs) k).l.take 30) j).toNat / 2 ^ (7 - i) % 2 : Nat) : Int)) rfl (congrArg (Value.int .i64) hmb) (t_conv underlying3 underlying5 rfl rfl rfl (IntWalk.u8_in _ (by omega)) (t_bo (Bo.ari8 rfl (by omega)) rfl rfl rfl rfl (t_same 66 (v := .int .u8 ((bitB (nth ((nth (opP xs) k).l.take 30) j).toNat (7 - i)).toNat : Int)) rfl (congrArg (Value.int .u8) hbv) ?_)))))
    refine x_l fun bk62 w63 ebk62 sbk62 B64 u65 => ?_
    have D67 := (hAt.keep u65 (fun _ h => h))
    refine t_append (z := .int .u8 0) (bytes := 1) (k := 1) (base := bk12) (bitB (nth ((nth (opP xs) k).l.take 30) j).toNat (7 - i)) underlying25 (by kernel_rfl) rfl (by decide) (fun _ => rfl) (by intro x; simp [encY, Value.oneCell']) rfl rfl rfl rfl D67 B64 (by omega) (by omega) (by decide) (fun ao68 gb69 cp70 w71 A72 u73 gegb69 lngb69 => ?_)
    have zu73 := u73.size
    have lt_gb69 := A72.lt
    refine go ?_
    refine t_quo rfl rfl rfl rfl (by omega) (by omega) ?_
    refine go ?_
    exact hK54 (i + 1) (o3 ++ [bitB (nth ((nth (opP xs) k).l.take 30) j).toNat (7 - i)]) (ao68, gb69, cp70) ⟨(by omega), A72, (show gb69 = bk12 ∨ w13.heap.size ≤ gb69 by omega), (by rw [bit_snoc (by omega), ← List.append_assoc, ← ho3])⟩ (hs := by exact ⟨rfl, (congrArg (fun z => some (Value.int .i64 z)) (by omega)), rfl, rfl, rfl, rfl, rfl, rfl, trivial⟩)
   have hi8 : ¬ i < 8 := fun h => by have := hm8.2 h; omega
   refine go ?_
   exact hK46 (j + 1) o3 t ⟨(by omega), hAt, (show t.2.1 = bk12 ∨ w13.heap.size ≤ t.2.1 by omega), (by rw [ho3, show i = 8 by omega, List.take_of_length_le (show (putP (nth ((nth (opP xs) k).l.take 30) j).toNat 8).length ≤ 8 by rw [putP_length]; exact Nat.le_refl _), take_nth (show j < ((nth (opP xs) k).l.take 30).length by omega), digs_app, ← List.append_assoc]; show _ = _ ++ (putP _ 8 ++ []); rw [List.append_nil])⟩
  refine go ?_
  exact hK19 (k + 1) o2 r ⟨(by omega), hAr, (show r.2.1 = bk12 ∨ w13.heap.size ≤ r.2.1 by omega), (by rw [ho2, show j = 30 by omega, List.take_of_length_le (by rw [blk30]; decide)]; show _ = (tapB (opP xs) k) ++ tapG (opP xs) (opP xs).length k; unfold tapG; rw [if_neg (fun h => hzb (by have h9 := (gL_iff (show k < (opP xs).length by omega)).1 h; omega))]), (fun i hi => by rcases Nat.lt_or_eq_of_le (Nat.le_of_lt_succ hi) with h | h; exact hgd i h; rw [h]; exact hgk)⟩
 have hbn : badP (opP xs) = [] := badP_nil (fun i hi => hgd i (by omega))
 obtain ⟨T9, hT9⟩ : ∃ T, T = tapB (opP xs) (opP xs).length := ⟨_, rfl⟩
 have ho9 : o1 = T9 := by rw [ho1, hT9, show k = (opP xs).length by omega]
 have htb2 := tapB_len (opP xs) (opP xs).length
 rw [← hT9] at htb2
 obtain ⟨hTl, hTb⟩ := htb2
 obtain ⟨s0, hs0⟩ : ∃ s : Scr, s = ⟨T9, false⟩ := ⟨_, rfl⟩
 have hp0 : parP T9 = parN (cdV s0 + 1).toNat (cdS s0) 0 [] := by rw [hs0]; rfl
 have hs0l : s0.r.length = T9.length := by rw [hs0]
 have hs0b : bitL s0.r := by rw [hs0]; exact hTb
 have hd0 : T9.drop 0 = s0.r := by rw [hs0]; rfl
 refine go ?_
 refine t_ofB underlying25 underlying5 underlying9 rfl rfl rfl (hAq.sl (fun _ => rfl)) rfl ?_
 refine go ?_
 refine x_b fun bk76 w77 ebk76 sbk76 B78 u79 => ?_
 refine x_l fun bk81 w82 ebk81 sbk81 B83 u84 => ?_
 refine go ?_
 have B86 := (B78.kx u84)
 have hB0 : Blk w82 bk76 140 [.string (strB T9), .int .i64 ((0 : Nat) : Int), .bool s0.b] := by rw [hs0, ← ho9]; exact B86
 refine go ?_
 refine t_call own76 rfl rfl rfl rfl (rnext_c T9 0 s0 bk76 _ hB0 hd0 (Nat.zero_le _) (by omega)) (fun v89 w90 r92 => ?_)
 obtain ⟨ps88, rfl, hSs88, hps88, hqs88, u91⟩ := r92
 have zu91 := u91.size
 have hvs88 := cdV_r s0
 have hls88 := cdS_r s0
 refine st1 ?_
 refine t_same 76 (v := .int .i64 (((cdV s0 + 1).toNat : Nat) : Int)) rfl (congrArg (Value.int .i64) (by have h9 := cdV_r s0; omega)) ?_
 refine go ?_
 have B96 := (B83.keep u91 (by omega))
 refine x_l5 (fun i => i = bk81 ∨ i = bk76 ∨ w90.heap.size ≤ i) [0, 10, 13] (fun (dp : (Nat × Nat)) (s : Scr) (m : Int) (E : List Ent) (q : (Option Addr × Nat × Nat)) => [(2, .slice none 0 0), (3, .int .i64 0), (4, .int .i64 0), (11, .slice q.1 E.length q.2.2), (12, .int .i64 m), (14, .int .i64 (dp.1 : Int))]) (fun dp s m E q w => Blk w bk76 140 [.string (strB T9), .int .i64 (dp.2 : Int), .bool s.b] ∧ (dp.1 ≤ (cdV s0 + 1).toNat) ∧ (parP T9 = parN ((cdV s0 + 1).toNat - dp.1) s m E) ∧ (T9.drop dp.2 = s.r) ∧ (dp.2 ≤ T9.length) ∧ (Acc encEnt 6 43 bk81 w q.1 q.2.1 q.2.2 E) ∧ (q.2.1 = bk81 ∨ w90.heap.size ≤ q.2.1) ∧ (bitL s.r) ∧ (2 * E.length + s.r.length ≤ T9.length + 2) ∧ (s.b = true ∨ 2 * E.length + s.r.length ≤ T9.length) ∧ (0 ≤ m ∧ m ≤ 1000000000 * (E.length : Int))) (fun dp s m E q => (cdV s0 + 1).toNat - dp.1) (0, ps88) (cdS s0) 0 ([]) (some ⟨bk81, 0, none⟩, bk81, 0) ⟨hSs88, (Nat.zero_le _), hp0, hps88, hqs88, (Acc.ofBlk (xs := ([] : List Ent)) encEnt 6 (fun _ => rfl) B96 (Nat.le_refl _) (by decide)), (.inl rfl), ((cdS_r s0).2.2 hs0b), (by have h9 := (cdS_r s0).1; simp only [List.length_nil]; omega), (.inr (by have h9 := (cdS_r s0).1; simp only [List.length_nil]; omega)), ⟨Int.le_refl 0, by decide⟩⟩ ?_
 rintro dp s m E q w98 ⟨I100, hd9, hpn, hp, hpl9, hA, hqW, hbt, hle, hle2, hm9⟩ u99 zu99 K97 hK97
 have E101 := Sc.mk ((((E22.u.nx u79).nx u84).next u91 (fun i hi h => by omega)).next u99 (fun i hi h => by omega))
 have lt_q_2_1 := hA.lt
 have hgl := hA.lt
 have hrl := congrArg List.length hp
 rw [List.length_drop] at hrl
 refine go ?_
 refine t_splitp 80 rfl (fun g80 => ?_) (fun g80 => ?_)
 ·
  refine go ?_
  refine q_b (fun g86 => ?_) fun g86 => ?_
  ·
   have hsb : s.b = false := by simpa using g86
   have hle3 : 2 * E.length + s.r.length ≤ T9.length := hle2.resolve_left (by rw [hsb]; decide)
   refine go ?_
   refine c_drawnM follows (fun _ => False) (OTl [0, 2, 4, 6, 8, 10, 12, 14, 16, 18, 20]) (by kernel_rfl) fun w107 u108 => ?_
   have zu108 := u108.size
   refine go ?_
   refine y_lenS underlying9 rfl rfl rfl rfl ?_
   refine go ?_
   refine q_p (fun g99 => ?_) fun g99 => ?_
   ·
    refine go ?_
    refine f_ret3 (v1 := .slice none 0 0) (v2 := .int .i64 0) (v3 := .int .i64 4) results35 rfl rfl rfl ?_
    have hE1 : ¬ opE xs ≠ 0 := by omega
    have hbb := (entS_r s).2.2.1 (show s.r.length < 2 by omega)
    obtain ⟨c8, hc8⟩ : ∃ c, (cdV s0 + 1).toNat - dp.1 = c + 1 := ⟨(cdV s0 + 1).toNat - dp.1 - 1, by omega⟩
    have hpf : parP T9 = (E ++ [entV s m], entS s) := by rw [hpn, hc8, parN_step hsb, parN_stop hbb]
    rw [hT9] at hpf
    have he : readR xs = ([], 0, 4) := by unfold readR; rw [if_neg hE1, hbn]; show (if _ then _ else _) = _; rw [hpf, if_pos (.inl hbb)]
    exact ⟨⟨none, 0, 0, by rw [he]; rfl, by rw [he]; exact (Acc.nil _ _ _ _ _ hpos (by omega))⟩, u_d⟩
   have hb0 := bit_nth hbt (show 0 < s.r.length by omega)
   have hb1 := bit_nth hbt (show 1 < s.r.length by omega)
   have e0 : nth s.r 0 = nth T9 dp.2 := by rw [← hp, nth_drop, Nat.add_zero]
   have e1 : nth s.r 1 = nth T9 (dp.2 + 1) := by rw [← hp, nth_drop]
   have hkn : knd s = 1 + 2 * (((nth T9 dp.2).toNat : Int) - 48) + (((nth T9 (dp.2 + 1)).toNat : Int) - 48) := by unfold knd d48; rw [e0, e1]
   unfold d48 at hb0 hb1
   rw [e0] at hb0
   rw [e1] at hb1
   have hp2 : T9.drop (dp.2 + 2) = (s2_ s).r := by show _ = s.r.drop 2; rw [← hp, List.drop_drop]
   have hnl2 : ¬ s.r.length < 2 := by omega
   have hsr2 : (s2_ s).r.length + 2 = s.r.length := by show (s.r.drop 2).length + 2 = _; rw [List.length_drop]; omega
   have hes9 := entS_r s
   have hem9 := entV_m s m (by omega)
   refine go ?_
   refine c_drawnM follows (fun _ => False) (OTl [0, 2, 4, 6, 8, 10, 12, 14, 16, 18, 20, 22, 24, 26, 28, 30, 32, 34, 36, 38, 40, 42, 44, 46, 48, 50, 52, 55, 57]) (by kernel_rfl) fun w112 u113 => ?_
   have zu113 := u113.size
   refine go ?_
   refine y_idxS dp.2 underlying9 rfl rfl rfl rfl rfl (by omega) (y_bo (Bo.ari8 rfl (by omega)) rfl rfl rfl rfl (y_conv underlying5 underlying3 rfl rfl rfl (IntWalk.i64_in _ (by omega)) ?_))
   refine go ?_
   refine y_idxS (dp.2 + 1) underlying9 rfl rfl rfl rfl (by omega) (by omega) (y_bo (Bo.ari8 rfl (by omega)) rfl rfl rfl rfl (y_conv underlying5 underlying3 rfl rfl rfl (IntWalk.i64_in _ (by omega)) ?_))
   refine st1 ?_
   refine y_same 125 (v := .int .i64 (knd s)) rfl (congrArg (Value.int .i64) hkn.symm) ?_
   refine go ?_
   refine x_n fun bk115 w116 ebk115 sbk115 B117 u118 => ?_
   refine go ?_
   refine x_s fun w120 sw120 B122 u121 => ?_
   iterate 10 refine st1 ?_
   refine t_same 131 (v := .int .i64 ((dp.2 + 2 : Nat) : Int)) rfl (congrArg (Value.int .i64) (by omega)) ?_
   refine go ?_
   refine x_s fun w125 sw125 B127 u126 => ?_
   refine go ?_
   refine t_call own76 rfl rfl rfl rfl (rnext_c T9 (dp.2 + 2) (s2_ s) bk76 _ B127 hp2 (by omega) (by omega)) (fun v131 w132 r134 => ?_)
   obtain ⟨ps130, rfl, hSs130, hps130, hqs130, u133⟩ := r134
   have zu133 := u133.size
   have hvs130 := cdV_r (s2_ s)
   have hls130 := cdS_r (s2_ s)
   refine go ?_
   refine x_s fun w136 sw136 B138 u137 => ?_
   refine go ?_
   have B141 := (hSs130.keep u137 (by omega))
   refine t_call own76 rfl rfl rfl rfl (rnext_c T9 ps130 (cdS (s2_ s)) bk76 _ B141 hps130 hqs130 (by omega)) (fun v143 w144 r146 => ?_)
   obtain ⟨ps142, rfl, hSs142, hps142, hqs142, u145⟩ := r146
   have zu145 := u145.size
   have hvs142 := cdV_r (cdS (s2_ s))
   have hls142 := cdS_r (cdS (s2_ s))
   refine go ?_
   refine x_s fun w148 sw148 B150 u149 => ?_
   iterate 3 refine st1 ?_
   refine x_k1 (fun _ => False) [0, 2, 3, 4, 10, 11, 13, 14, 15] (fun (z9 : Bool) => [(150, .bool z9)]) (fun z9 w => (z9 = decide ((knd s = 1 ∨ knd s = 3)))) (fun K157 hK157 => ?_) ?_
   ·
    refine go ?_
    refine t_splitp 146 rfl (fun g146 => ?_) (fun g146 => ?_)
    ·
     refine go ?_
     exact hK157 true (by first | exact (decide_eq_false (by omega)).symm | exact (decide_eq_true (by omega)).symm | exact decide_eq_decide.2 (by omega))
    refine go ?_
    exact hK157 (decide ((knd s) = 3)) (by first | exact (decide_eq_false (by omega)).symm | exact (decide_eq_true (by omega)).symm | exact decide_eq_decide.2 (by omega))
   rintro z9 w158 hz9 u159 zu159
   refine q_b (fun g150 => ?_) fun g150 => ?_
   ·
    have hzk : ((knd s = 1 ∨ knd s = 3)) := by rw [hz9] at g150; exact of_decide_eq_true g150
    have hpl : plK (knd s) = true := by unfold plK; exact decide_eq_true hzk
    have hev : entV s m = (⟨m + cdV (s2_ s), knd s, 1 + cdV (cdS (s2_ s)), cdV (cdS (cdS (s2_ s))), 0, 0⟩ : Ent) := by unfold entV; rw [if_neg hnl2, if_pos hpl]
    have hes : entS s = (cdS (cdS (cdS (s2_ s)))) := by unfold entS; rw [if_neg hnl2, if_pos hpl]
    rw [hes] at hes9
    refine go ?_
    have B161 := ((hSs142.keep u149 (by omega)).kx u159)
    refine t_call own76 rfl rfl rfl rfl (rnext_c T9 ps142 (cdS (cdS (s2_ s))) bk76 _ B161 hps142 hqs142 (by omega)) (fun v163 w164 r166 => ?_)
    obtain ⟨ps162, rfl, hSs162, hps162, hqs162, u165⟩ := r166
    have zu165 := u165.size
    have hvs162 := cdV_r (cdS (cdS (s2_ s)))
    have hls162 := cdS_r (cdS (cdS (s2_ s)))
    refine go ?_
    refine x_s fun w168 sw168 B170 u169 => ?_
    refine go ?_
    refine c_drawnM follows (fun i => (i = q.2.1 ∧ bk81 ≤ i)) (OTl [0, 2, 8, 10, 5, 7, 12, 14]) (by kernel_rfl) fun w172 u173 => ?_
    have zu173 := u173.size
    refine go ?_
    refine x_l fun bk175 w176 ebk175 sbk175 B177 u178 => ?_
    refine go ?_
    have D180 := ((((((((((((((hA.keep u108 (fun _ h => h)).keep u113 (fun _ h => h)).keep u118 (fun _ h => h)).keep u121 (fun hb => show ¬ (q.2.1 = bk115) by first | omega | assumption)).keep u126 (fun hb => show ¬ (q.2.1 = bk76) by first | omega | assumption)).keep u133 (fun hb => show ¬ (q.2.1 = bk76) by first | omega | assumption)).keep u137 (fun hb => show ¬ (q.2.1 = bk115) by first | omega | assumption)).keep u145 (fun hb => show ¬ (q.2.1 = bk76) by first | omega | assumption)).keep u149 (fun hb => show ¬ (q.2.1 = bk115) by first | omega | assumption)).keep u159 (fun _ h => h)).keep u165 (fun hb => show ¬ (q.2.1 = bk76) by first | omega | assumption)).keep u169 (fun hb => show ¬ (q.2.1 = bk115) by first | omega | assumption)).keep u173 (fun _ h => h)).keep u178 (fun _ h => h))
    refine t_append (z := .agg #[.int .i64 0, .int .i64 0, .int .i64 0, .int .i64 0, .int .i64 0, .int .i64 0]) (bytes := 48) (k := 6) (base := bk81) (⟨m + cdV (s2_ s), knd s, 1 + cdV (cdS (s2_ s)), cdV (cdS (cdS (s2_ s))), 0, 0⟩ : Ent) underlying22 (by kernel_rfl) rfl (by decide) (fun _ => rfl) (by intro x; simp [encEnt, Value.oneCell']) rfl rfl rfl rfl D180 B177 (by omega) (by omega) (by decide) (fun ao181 gb182 cp183 w184 A185 u186 gegb182 lngb182 => ?_)
    have zu186 := u186.size
    have lt_gb182 := A185.lt
    refine go ?_
    have B188 := ((((hSs162.keep u169 (by omega)).kx u173).kx u178).keep u186 (by omega))
    exact hK97 (dp.1 + 1, ps162) (cdS (cdS (cdS (s2_ s)))) (m + cdV (s2_ s)) (E ++ [(⟨m + cdV (s2_ s), knd s, 1 + cdV (cdS (s2_ s)), cdV (cdS (cdS (s2_ s))), 0, 0⟩ : Ent)]) (ao181, gb182, cp183) ⟨B188, (by omega), (by rw [hpn, show (cdV s0 + 1).toNat - dp.1 = ((cdV s0 + 1).toNat - (dp.1 + 1)) + 1 by omega, parN_step hsb, hes, hev]), hps162, hqs162, A185, (show gb182 = bk81 ∨ w90.heap.size ≤ gb182 by omega), (hes9.2.2.2 hbt), (by have hEl : (E ++ [(⟨m + cdV (s2_ s), knd s, 1 + cdV (cdS (s2_ s)), cdV (cdS (cdS (s2_ s))), 0, 0⟩ : Ent)]).length = E.length + 1 := (by rw [List.length_append]; rfl); rw [hEl]; omega), (by have hEl : (E ++ [(⟨m + cdV (s2_ s), knd s, 1 + cdV (cdS (s2_ s)), cdV (cdS (cdS (s2_ s))), 0, 0⟩ : Ent)]).length = E.length + 1 := (by rw [List.length_append]; rfl); rw [hEl]; exact .inr (by have h9 := hes9.2.1 (by omega); omega)), (by have hEl : (E ++ [(⟨m + cdV (s2_ s), knd s, 1 + cdV (cdS (s2_ s)), cdV (cdS (cdS (s2_ s))), 0, 0⟩ : Ent)]).length = E.length + 1 := (by rw [List.length_append]; rfl); rw [hEl]; omega)⟩
   have hzk : ¬ ((knd s = 1 ∨ knd s = 3)) := by rw [hz9] at g150; exact of_decide_eq_false g150
   have hpl : plK (knd s) = false := by unfold plK; exact decide_eq_false hzk
   have hev : entV s m = (⟨m + cdV (s2_ s), knd s, 1 + cdV (cdS (s2_ s)), 0, 1 + cdV (cdS (cdS (s2_ s))), 1 + cdV (cdS (cdS (cdS (s2_ s))))⟩ : Ent) := by unfold entV; rw [if_neg hnl2, if_neg (by rw [hpl]; decide)]
   have hes : entS s = (cdS (cdS (cdS (cdS (s2_ s))))) := by unfold entS; rw [if_neg hnl2, if_neg (by rw [hpl]; decide)]
   rw [hes] at hes9
   refine go ?_
   have B190 := ((hSs142.keep u149 (by omega)).kx u159)
   refine t_call own76 rfl rfl rfl rfl (rnext_c T9 ps142 (cdS (cdS (s2_ s))) bk76 _ B190 hps142 hqs142 (by omega)) (fun v192 w193 r195 => ?_)
   obtain ⟨ps191, rfl, hSs191, hps191, hqs191, u194⟩ := r195
   have zu194 := u194.size
   have hvs191 := cdV_r (cdS (cdS (s2_ s)))
   have hls191 := cdS_r (cdS (cdS (s2_ s)))
   refine go ?_
   refine x_s fun w197 sw197 B199 u198 => ?_
   refine go ?_
   have B201 := (hSs191.keep u198 (by omega))
   refine t_call own76 rfl rfl rfl rfl (rnext_c T9 ps191 (cdS (cdS (cdS (s2_ s)))) bk76 _ B201 hps191 hqs191 (by omega)) (fun v203 w204 r206 => ?_)
   obtain ⟨ps202, rfl, hSs202, hps202, hqs202, u205⟩ := r206
   have zu205 := u205.size
   have hvs202 := cdV_r (cdS (cdS (cdS (s2_ s))))
   have hls202 := cdS_r (cdS (cdS (cdS (s2_ s))))
   refine go ?_
   refine x_s fun w208 sw208 B210 u209 => ?_
   refine go ?_
   refine c_drawnM follows (fun i => (i = q.2.1 ∧ bk81 ≤ i)) (OTl [0, 2, 8, 10, 5, 7, 12, 14]) (by kernel_rfl) fun w212 u213 => ?_
   have zu213 := u213.size
   refine go ?_
   refine x_l fun bk215 w216 ebk215 sbk215 B217 u218 => ?_
   refine go ?_
   have D220 := ((((((((((((((((hA.keep u108 (fun _ h => h)).keep u113 (fun _ h => h)).keep u118 (fun _ h => h)).keep u121 (fun hb => show ¬ (q.2.1 = bk115) by first | omega | assumption)).keep u126 (fun hb => show ¬ (q.2.1 = bk76) by first | omega | assumption)).keep u133 (fun hb => show ¬ (q.2.1 = bk76) by first | omega | assumption)).keep u137 (fun hb => show ¬ (q.2.1 = bk115) by first | omega | assumption)).keep u145 (fun hb => show ¬ (q.2.1 = bk76) by first | omega | assumption)).keep u149 (fun hb => show ¬ (q.2.1 = bk115) by first | omega | assumption)).keep u159 (fun _ h => h)).keep u194 (fun hb => show ¬ (q.2.1 = bk76) by first | omega | assumption)).keep u198 (fun hb => show ¬ (q.2.1 = bk115) by first | omega | assumption)).keep u205 (fun hb => show ¬ (q.2.1 = bk76) by first | omega | assumption)).keep u209 (fun hb => show ¬ (q.2.1 = bk115) by first | omega | assumption)).keep u213 (fun _ h => h)).keep u218 (fun _ h => h))
   refine t_append (z := .agg #[.int .i64 0, .int .i64 0, .int .i64 0, .int .i64 0, .int .i64 0, .int .i64 0]) (bytes := 48) (k := 6) (base := bk81) (⟨m + cdV (s2_ s), knd s, 1 + cdV (cdS (s2_ s)), 0, 1 + cdV (cdS (cdS (s2_ s))), 1 + cdV (cdS (cdS (cdS (s2_ s))))⟩ : Ent) underlying22 (by kernel_rfl) rfl (by decide) (fun _ => rfl) (by intro x; simp [encEnt, Value.oneCell']) rfl rfl rfl rfl D220 B217 (by omega) (by omega) (by decide) (fun ao221 gb222 cp223 w224 A225 u226 gegb222 lngb222 => ?_)
   have zu226 := u226.size
   have lt_gb222 := A225.lt
   refine go ?_
   have B228 := ((((hSs202.keep u209 (by omega)).kx u213).kx u218).keep u226 (by omega))
   exact hK97 (dp.1 + 1, ps202) (cdS (cdS (cdS (cdS (s2_ s))))) (m + cdV (s2_ s)) (E ++ [(⟨m + cdV (s2_ s), knd s, 1 + cdV (cdS (s2_ s)), 0, 1 + cdV (cdS (cdS (s2_ s))), 1 + cdV (cdS (cdS (cdS (s2_ s))))⟩ : Ent)]) (ao221, gb222, cp223) ⟨B228, (by omega), (by rw [hpn, show (cdV s0 + 1).toNat - dp.1 = ((cdV s0 + 1).toNat - (dp.1 + 1)) + 1 by omega, parN_step hsb, hes, hev]), hps202, hqs202, A225, (show gb222 = bk81 ∨ w90.heap.size ≤ gb222 by omega), (hes9.2.2.2 hbt), (by have hEl : (E ++ [(⟨m + cdV (s2_ s), knd s, 1 + cdV (cdS (s2_ s)), 0, 1 + cdV (cdS (cdS (s2_ s))), 1 + cdV (cdS (cdS (cdS (s2_ s))))⟩ : Ent)]).length = E.length + 1 := (by rw [List.length_append]; rfl); rw [hEl]; omega), (by have hEl : (E ++ [(⟨m + cdV (s2_ s), knd s, 1 + cdV (cdS (s2_ s)), 0, 1 + cdV (cdS (cdS (s2_ s))), 1 + cdV (cdS (cdS (cdS (s2_ s))))⟩ : Ent)]).length = E.length + 1 := (by rw [List.length_append]; rfl); rw [hEl]; exact .inr (by have h9 := hes9.2.1 (by omega); omega)), (by have hEl : (E ++ [(⟨m + cdV (s2_ s), knd s, 1 + cdV (cdS (s2_ s)), 0, 1 + cdV (cdS (cdS (s2_ s))), 1 + cdV (cdS (cdS (cdS (s2_ s))))⟩ : Ent)]).length = E.length + 1 := (by rw [List.length_append]; rfl); rw [hEl]; omega)⟩
  refine go ?_
  refine t_split 172 rfl (fun g172 => ?_) (fun g172 => ?_)
  ·
   refine go ?_
   refine f_ret3 (v1 := .slice none 0 0) (v2 := .int .i64 0) (v3 := .int .i64 4) results35 rfl rfl rfl ?_
   have hE1 : ¬ opE xs ≠ 0 := by omega
   have hpf : parP T9 = (E, s) := by rw [hpn]; first | (rw [show (cdV s0 + 1).toNat - dp.1 = 0 by omega]; rfl) | exact parN_stop (by simpa using g86)
   rw [hT9] at hpf
   have he : readR xs = ([], 0, 4) := by unfold readR; rw [if_neg hE1, hbn]; show (if _ then _ else _) = _; rw [hpf, if_pos (.inl g172)]
   exact ⟨⟨none, 0, 0, by rw [he]; rfl, by rw [he]; exact (Acc.nil _ _ _ _ _ hpos (by omega))⟩, u_d⟩
  refine go ?_
  refine x_c func17 rfl rfl (rEntries_c E q.1 q.2.1 0 q.2.2 _ (hA.sl (fun _ => rfl)) (by omega)) ?_
  rintro _ w234 ⟨rfl, u235⟩ zu235
  refine go ?_
  refine t_splitp 177 rfl (fun g177 => ?_) (fun g177 => ?_)
  ·
   refine go ?_
   refine f_ret3 (v1 := .slice none 0 0) (v2 := .int .i64 0) (v3 := .int .i64 4) results35 rfl rfl rfl ?_
   have hE1 : ¬ opE xs ≠ 0 := by omega
   have hpf : parP T9 = (E, s) := by rw [hpn]; first | (rw [show (cdV s0 + 1).toNat - dp.1 = 0 by omega]; rfl) | exact parN_stop (by simpa using g86)
   rw [hT9] at hpf
   have he : readR xs = ([], 0, 4) := by unfold readR; rw [if_neg hE1, hbn]; show (if _ then _ else _) = _; rw [hpf, if_pos (.inr (.inl g177))]
   exact ⟨⟨none, 0, 0, by rw [he]; rfl, by rw [he]; exact (Acc.nil _ _ _ _ _ hpos (by omega))⟩, u_d⟩
  refine go ?_
  have D239 := (hA.keep u235 (fun _ h => h))
  refine x_c func19 rfl rfl (rWrite_c E q.1 q.2.1 0 q.2.2 _ (D239.sl (fun _ => rfl)) (by omega) (by omega)) ?_
  rintro _ w241 ⟨⟨aW, gW, cW, rfl, hFW⟩, u242⟩ zu242
  have lt_gW := hFW.lt
  have hwl := writeP_len (show chkE E = 0 by omega)
  have hrl := congrArg List.length (rLogP_eq (show chkE E = 0 by omega))
  rw [bytesP_len] at hrl
  refine go ?_
  refine x_c func18 rfl rfl (rSame_c (rLogP E) xs aW gW 0 cW ab bb ob cb _ (hFW.sl (fun _ => rfl)) (hs.keep ((E101.u.nx u235).nx u242) (fun _ h => h)) (by omega)) ?_
  rintro _ w246 ⟨rfl, u247⟩ zu247
  refine go ?_
  refine q_p (fun g183 => ?_) fun g183 => ?_
  ·
   refine go ?_
   refine f_ret3 (v1 := .slice none 0 0) (v2 := .int .i64 0) (v3 := .int .i64 4) results35 rfl rfl rfl ?_
   have hE1 : ¬ opE xs ≠ 0 := by omega
   have hpf : parP T9 = (E, s) := by rw [hpn]; first | (rw [show (cdV s0 + 1).toNat - dp.1 = 0 by omega]; rfl) | exact parN_stop (by simpa using g86)
   rw [hT9] at hpf
   have he : readR xs = ([], 0, 4) := by unfold readR; rw [if_neg hE1, hbn]; show (if _ then _ else _) = _; rw [hpf, if_pos (.inr (.inr (fun e => g183 ((rlog_iff (show chkE E = 0 by omega) hE0).2 e))))]
   exact ⟨⟨none, 0, 0, by rw [he]; rfl, by rw [he]; exact (Acc.nil _ _ _ _ _ hpos (by omega))⟩, u_d⟩
  refine go ?_
  refine f_ret3 (v1 := .slice q.1 E.length q.2.2) (v2 := .int .i64 0) (v3 := .int .i64 0) results35 rfl rfl rfl ?_
  have D252 := ((D239.keep u242 (fun _ h => h)).keep u247 (fun _ h => h))
  have hE1 : ¬ opE xs ≠ 0 := by omega
  have hpf : parP T9 = (E, s) := by rw [hpn]; first | (rw [show (cdV s0 + 1).toNat - dp.1 = 0 by omega]; rfl) | exact parN_stop (by simpa using g86)
  rw [hT9] at hpf
  have he : readR xs = (E, 0, 0) := by unfold readR; rw [if_neg hE1, hbn]; show (if _ then _ else _) = _; rw [hpf, if_neg (fun h => h.elim (fun h => by rw [h] at g172; cases g172) (fun h => h.elim (fun h => g177 h) (fun h => g183 (fun e => h ((rlog_iff (show chkE E = 0 by omega) hE0).1 e)))))]
  obtain ⟨gz, hz⟩ := Acc.lower (base' := w0.heap.size) D252 (by omega) hpos
  exact ⟨⟨q.1, gz, q.2.2, by rw [he], by rw [he]; exact hz⟩, u_d⟩
 refine go ?_
 refine t_split 172 rfl (fun g172 => ?_) (fun g172 => ?_)
 ·
  refine go ?_
  refine f_ret3 (v1 := .slice none 0 0) (v2 := .int .i64 0) (v3 := .int .i64 4) results35 rfl rfl rfl ?_
  have hE1 : ¬ opE xs ≠ 0 := by omega
  have hpf : parP T9 = (E, s) := by rw [hpn]; first | (rw [show (cdV s0 + 1).toNat - dp.1 = 0 by omega]; rfl) | exact parN_stop (by simpa using g86)
  rw [hT9] at hpf
  have he : readR xs = ([], 0, 4) := by unfold readR; rw [if_neg hE1, hbn]; show (if _ then _ else _) = _; rw [hpf, if_pos (.inl g172)]
  exact ⟨⟨none, 0, 0, by rw [he]; rfl, by rw [he]; exact (Acc.nil _ _ _ _ _ hpos (by omega))⟩, u_d⟩
 refine go ?_
 refine x_c func17 rfl rfl (rEntries_c E q.1 q.2.1 0 q.2.2 _ (hA.sl (fun _ => rfl)) (by omega)) ?_
 rintro _ w258 ⟨rfl, u259⟩ zu259
 refine go ?_
 refine t_splitp 177 rfl (fun g177 => ?_) (fun g177 => ?_)
 ·
  refine go ?_
  refine f_ret3 (v1 := .slice none 0 0) (v2 := .int .i64 0) (v3 := .int .i64 4) results35 rfl rfl rfl ?_
  have hE1 : ¬ opE xs ≠ 0 := by omega
  have hpf : parP T9 = (E, s) := by rw [hpn]; first | (rw [show (cdV s0 + 1).toNat - dp.1 = 0 by omega]; rfl) | exact parN_stop (by simpa using g86)
  rw [hT9] at hpf
  have he : readR xs = ([], 0, 4) := by unfold readR; rw [if_neg hE1, hbn]; show (if _ then _ else _) = _; rw [hpf, if_pos (.inr (.inl g177))]
  exact ⟨⟨none, 0, 0, by rw [he]; rfl, by rw [he]; exact (Acc.nil _ _ _ _ _ hpos (by omega))⟩, u_d⟩
 refine go ?_
 have D263 := (hA.keep u259 (fun _ h => h))
 refine x_c func19 rfl rfl (rWrite_c E q.1 q.2.1 0 q.2.2 _ (D263.sl (fun _ => rfl)) (by omega) (by omega)) ?_
 rintro _ w265 ⟨⟨aW, gW, cW, rfl, hFW⟩, u266⟩ zu266
 have lt_gW := hFW.lt
 have hwl := writeP_len (show chkE E = 0 by omega)
 have hrl := congrArg List.length (rLogP_eq (show chkE E = 0 by omega))
 rw [bytesP_len] at hrl
 refine go ?_
 refine x_c func18 rfl rfl (rSame_c (rLogP E) xs aW gW 0 cW ab bb ob cb _ (hFW.sl (fun _ => rfl)) (hs.keep ((E101.u.nx u259).nx u266) (fun _ h => h)) (by omega)) ?_
 rintro _ w270 ⟨rfl, u271⟩ zu271
 refine go ?_
 refine q_p (fun g183 => ?_) fun g183 => ?_
 ·
  refine go ?_
  refine f_ret3 (v1 := .slice none 0 0) (v2 := .int .i64 0) (v3 := .int .i64 4) results35 rfl rfl rfl ?_
  have hE1 : ¬ opE xs ≠ 0 := by omega
  have hpf : parP T9 = (E, s) := by rw [hpn]; first | (rw [show (cdV s0 + 1).toNat - dp.1 = 0 by omega]; rfl) | exact parN_stop (by simpa using g86)
  rw [hT9] at hpf
  have he : readR xs = ([], 0, 4) := by unfold readR; rw [if_neg hE1, hbn]; show (if _ then _ else _) = _; rw [hpf, if_pos (.inr (.inr (fun e => g183 ((rlog_iff (show chkE E = 0 by omega) hE0).2 e))))]
  exact ⟨⟨none, 0, 0, by rw [he]; rfl, by rw [he]; exact (Acc.nil _ _ _ _ _ hpos (by omega))⟩, u_d⟩
 refine go ?_
 refine f_ret3 (v1 := .slice q.1 E.length q.2.2) (v2 := .int .i64 0) (v3 := .int .i64 0) results35 rfl rfl rfl ?_
 have D276 := ((D263.keep u266 (fun _ h => h)).keep u271 (fun _ h => h))
 have hE1 : ¬ opE xs ≠ 0 := by omega
 have hpf : parP T9 = (E, s) := by rw [hpn]; first | (rw [show (cdV s0 + 1).toNat - dp.1 = 0 by omega]; rfl) | exact parN_stop (by simpa using g86)
 rw [hT9] at hpf
 have he : readR xs = (E, 0, 0) := by unfold readR; rw [if_neg hE1, hbn]; show (if _ then _ else _) = _; rw [hpf, if_neg (fun h => h.elim (fun h => by rw [h] at g172; cases g172) (fun h => h.elim (fun h => g177 h) (fun h => g183 (fun e => h ((rlog_iff (show chkE E = 0 by omega) hE0).1 e)))))]
 obtain ⟨gz, hz⟩ := Acc.lower (base' := w0.heap.size) D276 (by omega) hpos
 exact ⟨⟨q.1, gz, q.2.2, by rw [he], by rw [he]; exact hz⟩, u_d⟩

end Go.Proofs.YtjdcpnaocjddoaaGreatDoor
