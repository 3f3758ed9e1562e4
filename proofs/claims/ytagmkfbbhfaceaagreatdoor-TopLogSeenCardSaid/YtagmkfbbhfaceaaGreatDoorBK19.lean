/-
  Part 19 of the proof: contracts and plain laws. Conditions: none.
-/
import Derived.Test.YtagmkfbbhfaceaaGreatDoorRows
import Derived.Handed
import Derived.LaidLaws
import Derived.Lib.LaidTab
import Derived.Test.YtagmkfbbhfaceaaGreatDoorBK18
namespace Go.Proofs.YtagmkfbbhfaceaaGreatDoor
open Go Go.RowKit Go.Proofs.Tryz
set_option maxRecDepth 10000
set_option maxHeartbeats 4000000 in
set_option maxRecDepth 20000 in
theorem TopLogSeen_c (l : List Ent) (al : Option Addr) (bl ol cl : Nat) (fa : Int) (z : UInt8) (w0 : World) (hl : Sl encEnt 6 w0 al bl ol l) (hll : l.length ≤ 9223372036854775807) (hfa : 0 ≤ fa ∧ fa ≤ 255) (hT : Tab10 w0) (hpos : 0 < w0.heap.size) :
    CallsV Tryz.prog 3 [.slice al l.length cl, .int .u8 fa, .int .u8 (z.toNat : Int)] w0 (fun x w' => x = .bool true ∧ Ext w0 w') := by
 have hzr := z.toNat_lt
 have E0 := Sc.mk (Upd.refl (fun _ => False) w0)
 refine f_n func3 ?_
 refine go ?_
 refine q_p (fun g29 => ?_) fun g29 => ?_
 ·
  refine go ?_
  refine x_c func7 rfl rfl (knownSeen_c _) ?_
  rintro _ w6 ⟨rfl, u7⟩ zu7
  refine go ?_
  refine x_c func8 rfl rfl (knownLogs_c _ (hT.ext (E0.u.nx u7)) (by omega)) ?_
  rintro _ w11 ⟨rfl, u12⟩ zu12
  refine go ?_
  refine f_1 results3 ?_
  exact ⟨rfl, u_d⟩
 refine go ?_
 refine x_l fun bk16 w17 ebk16 sbk16 B18 u19 => ?_
 have E20 := Sc.mk (E0.u.nx u19)
 refine go ?_
 refine t_copy (enc := encEnt) (z := .agg #[.int .i64 0, .int .i64 0, .int .i64 0, .int .i64 0, .int .i64 0, .int .i64 0]) (bytes := 48) (k := 6) (ys := l) underlying22 (by kernel_rfl) rfl (by decide) (fun _ => rfl) (by intro x; simp [encEnt, Value.oneCell']) rfl rfl rfl rfl B18 (hl.keep E20.u (fun _ h => h)) (by omega) (by decide) (fun ao21 gb22 cp23 w24 A25 u26 gegb22 => ?_)
 have zu26 := u26.size
 have lt_gb22 := A25.lt
 refine x_c func9 rfl rfl (WriteV_c l ao21 gb22 0 cp23 _ (A25.sl (fun _ => rfl)) (by omega) (by omega)) ?_
 rintro _ w29 ⟨⟨vb, aL, gL, cL, rfl, hFL, hv⟩, u30⟩ zu30
 have E32 := Sc.mk ((E20.u.next u26 (fun i hi h => by omega)).nx u30)
 have lt_gL := hFL.lt
 refine go ?_
 refine q_p (fun g42 => ?_) fun g42 => ?_
 ·
  have hne0 : ¬ chkE l = 0 := by omega
  rw [if_neg hne0] at hv
  have hb0 : (bytesP vb).length = 0 := by rw [hv]; rfl
  iterate 5 refine st1 ?_
  refine t_same 45 (v := .bool true) rfl (congrArg Value.bool (decide_eq_true (by omega))) ?_
  refine go ?_
  refine x_c func7 rfl rfl (knownSeen_c _) ?_
  rintro _ w37 ⟨rfl, u38⟩ zu38
  refine go ?_
  refine x_c func8 rfl rfl (knownLogs_c _ (hT.ext (E32.u.nx u38)) (by omega)) ?_
  rintro _ w42 ⟨rfl, u43⟩ zu43
  refine go ?_
  refine f_1 results3 ?_
  exact ⟨rfl, u_d⟩
 have hok0 : chkE l = 0 := by omega
 rw [if_pos hok0] at hv
 obtain ⟨hgd, hfew⟩ := fill_good (tapeP l)
 have hvf : vb = fillP (tapeP l) := hv
 rw [← hvf] at hgd hfew
 have htl := tapeP_len hok0
 have hbv := bytesP_len vb
 have hn2 := hgd.two
 have hn13 : vb.length ≤ 1300 := by omega
 have hcL := hFL.cap_le
 have hgL9 := hFL.ge (show 0 < (bytesP vb).length by omega)
 have hrd : readR (bytesP vb) = (l, 0, 0) := by rw [hv]; exact readR_log hok0 (by rw [← hv]; exact hn13)
 obtain ⟨q9, hq9⟩ : ∃ q, q = z.toNat % (bytesP vb).length := ⟨_, rfl⟩
 have hq9l : q9 < (bytesP vb).length := by rw [hq9]; exact Nat.mod_lt _ (by omega)
 obtain ⟨d9, hd0, hd9⟩ := harm_byte z
 have hms := chk_ms hok0
 have hml : l.length = (l.map fun x => x.m).length := (List.length_map ..).symm
 have hl0 : 0 < l.length := by rw [hml]; exact hms.2.2
 have hmo := most_rng hms hfa
 have hmE : ∀ q, q < l.length → nth (l.map fun x => x.m) q = (nth l q).m := fun q hq => nth_mapG hq
 have hmR : ∀ q, q < l.length → 0 ≤ (nth l q).m ∧ (nth l q).m ≤ 1000000 := fun q hq => hms.1 _ (List.mem_map_of_mem (nth_mem hq))
 have hm0 := hmR 0 hl0
 have hmL := hmR (l.length - 1) (by omega)
 have hmS : nth l 0 = nth l 0 := rfl
 have hblt := hl.lt hl0
 iterate 8 refine st1 ?_
 refine t_same 54 (v := .bool false) rfl (congrArg Value.bool (decide_eq_false (by omega))) ?_
 refine go ?_
 refine t_conv underlying5 underlying3 rfl rfl rfl (IntWalk.i64_in _ (by omega)) ?_
 refine go ?_
 refine t_rem rfl rfl rfl rfl (by omega) (by omega) (t_same 60 (v := .int .i64 (q9 : Int)) rfl (congrArg (Value.int .i64) (by rw [hq9]; exact (Int.natCast_emod _ _).symm)) ?_)
 refine g_i q9 (hFL.sl (fun _ => rfl)) (fun _ => ?_) (hj := (by omega))
 refine go ?_
 refine t_bo (Bo.quo8 (by omega)) rfl rfl rfl rfl (t_bo (Bo.ari8 rfl (by omega)) rfl rfl rfl rfl (t_same 65 (v := .int .u8 (d9.toNat : Int)) rfl (congrArg (Value.int .u8) (by omega)) (t_bo (Bo.xor8 (nth (bytesP vb) q9) d9) rfl rfl rfl rfl ?_)))
 refine g_i q9 (hFL.sl (fun _ => rfl)) (fun _ => ?_) (hj := (by omega))
 refine t_storeA (vs := [.int .u8 (((nth (bytesP vb) q9) ^^^ d9).toNat : Int)]) (j := q9) (o' := 0) (k := 1) ((nth (bytesP vb) q9) ^^^ d9) (fun _ => rfl) sizeOf5 rfl rfl (by omega) rfl hFL (by first | omega | (simp only [List.length_set]; omega)) rfl rfl (by decide) (by simp [Value.oneCell']) rfl (fun w51 R53 u52 => ?_)
 have zu52 := u52.size
 iterate 5 refine st1 ?_
 refine t_same 69 (v := .slice aL (List.length ((bytesP vb).set q9 ((nth (bytesP vb) q9) ^^^ d9))) cL) rfl (by rw [List.length_set]) ?_
 refine x_c func10 rfl rfl (RepairE_c ((bytesP vb).set q9 (nth (bytesP vb) q9 ^^^ d9)) aL gL 0 cL _ (R53.sl (fun _ => rfl)) (by rw [List.length_set]; omega) (by rw [List.length_set]; omega) (by omega) (bytesP vb) [((q9 / 32 : Nat) : Int)] 0 (log_harm hgd hn13 (by omega) (xor_ne hd0))) ?_
 rintro _ w57 ⟨⟨aF, gF9, cF, aI, gI, cI, rfl, hFF, hFI⟩, u58⟩ zu58
 have lt_gF9 := hFF.lt
 have lt_gI := hFI.lt
 refine go ?_
 refine x_c func11 rfl rfl (ReadLogE_c (bytesP vb) aF gF9 0 cF _ (hFF.sl (fun _ => rfl)) (by have h9 := (hFF).cap_le; omega) (by omega) (by omega) l 0 0 hrd) ?_
 rintro _ w63 ⟨⟨aR, gR, cR, rfl, hFR⟩, u64⟩ zu64
 have lt_gR := hFR.lt
 iterate 22 refine st1 ?_
 refine t_same 89 (v := .bool false) rfl (congrArg Value.bool (decide_eq_false (by exact fun h => h rfl))) ?_
 iterate 7 refine st1 ?_
 refine t_samehd (v := .bool false) (by simp) ?_
 refine go ?_
 refine t_conv underlying5 underlying3 rfl rfl rfl (IntWalk.i64_in _ (by omega)) ?_
 refine go ?_
 refine x_l fun bk70 w71 ebk70 sbk70 B72 u73 => ?_
 refine go ?_
 refine x_l fun bk75 w76 ebk75 sbk75 B77 u78 => ?_
 refine x_n fun bk80 w81 ebk80 sbk80 B82 u83 => ?_
 refine x_s fun w85 sw85 B87 u86 => ?_
 refine go ?_
 have B91 := ((B77.kx u83).keep u86 (by omega))
 refine q_loop (γ := Nat × Option Addr × Nat × Nat × List HC × Option Addr × Nat × Nat) (fun gg => [(0, .slice al l.length cl), (1, .int .u8 fa), (11, .slice aR l.length cR), (14, .pointer (some ⟨bk80, 0, none⟩)), (15, .slice gg.2.2.2.2.2.1 ((List.replicate gg.1 (0 : Int)).length) gg.2.2.2.2.2.2.2), (16, .int .i64 (gg.1 : Int))]) (fun gg w => Upd (fun i => i = bk80 ∨ i = bk75 ∨ w85.heap.size ≤ i) w85 w ∧ Blk w bk80 38 [.int .i64 (l.length : Int), .slice (some ⟨bk70, 0, none⟩) 2 2, .slice gg.2.1 gg.2.2.2.2.1.length gg.2.2.2.1] ∧ (gg.1 ≤ l.length) ∧ (Acc encHC 1 47 w85.heap.size w gg.2.1 gg.2.2.1 gg.2.2.2.1 gg.2.2.2.2.1) ∧ (osR 0 gg.2.2.2.2.1 = (seenL 0 0 (l.map fun x => x.m)).take gg.1) ∧ (osR 1 gg.2.2.2.2.1 = (seenL 1 0 (l.map fun x => x.m)).take gg.1) ∧ (gg.2.2.2.2.1.length = gg.1) ∧ (∀ h ∈ gg.2.2.2.2.1, OptC w85.heap.size w h ∧ h.xs.length = 2) ∧ (∀ h ∈ gg.2.2.2.2.1, ∀ x ∈ h.xs, okOptP l.length 2 x) ∧ (Acc encI 1 3 bk75 w gg.2.2.2.2.2.1 gg.2.2.2.2.2.2.1 gg.2.2.2.2.2.2.2 (List.replicate gg.1 (0 : Int))) ∧ (gg.2.2.2.2.2.2.1 = bk75 ∨ w85.heap.size ≤ gg.2.2.2.2.2.2.1) ∧ (gg.2.2.1 ≠ gg.2.2.2.2.2.2.1)) (fun gg => l.length - gg.1) (0, none, 0, 0, [], some ⟨bk75, 0, none⟩, bk75, 0) ⟨rfl, rfl, rfl, rfl, rfl, rfl, trivial⟩ ⟨Upd.refl _ _, B87, (Nat.zero_le _), (Acc.nil encHC 1 47 w85.heap.size _ (by omega) (Nat.le_refl _)), rfl, rfl, rfl, (fun h hh => by cases hh), (fun h hh => by cases hh), (Acc.ofBlk (xs := ([] : List Int)) encI 1 (fun _ => rfl) B91 (Nat.le_refl _) (by decide)), (.inl rfl), (show (0 : Nat) ≠ bk75 by omega)⟩ ?_
 intro gg w93 hW K92 hK92
 obtain ⟨ix, ao, gx, co, out, aq, gq, cq9⟩ := gg
 change WC _ _ _ _ _ _ [(0, .slice al l.length cl), (1, .int .u8 fa), (11, .slice aR l.length cR), (14, .pointer (some ⟨bk80, 0, none⟩)), (15, .slice aq ((List.replicate ix (0 : Int)).length) cq9), (16, .int .i64 (ix : Int))] _
 change Upd (fun i => i = bk80 ∨ i = bk75 ∨ w85.heap.size ≤ i) w85 w93 ∧ Blk w93 bk80 38 [.int .i64 (l.length : Int), .slice (some ⟨bk70, 0, none⟩) 2 2, .slice ao out.length co] ∧ (ix ≤ l.length) ∧ (Acc encHC 1 47 w85.heap.size w93 ao gx co out) ∧ (osR 0 out = (seenL 0 0 (l.map fun x => x.m)).take ix) ∧ (osR 1 out = (seenL 1 0 (l.map fun x => x.m)).take ix) ∧ (out.length = ix) ∧ (∀ h ∈ out, OptC w85.heap.size w93 h ∧ h.xs.length = 2) ∧ (∀ h ∈ out, ∀ x ∈ h.xs, okOptP l.length 2 x) ∧ (Acc encI 1 3 bk75 w93 aq gq cq9 (List.replicate ix (0 : Int))) ∧ (gq = bk75 ∨ w85.heap.size ≤ gq) ∧ (gx ≠ gq) at hW
 obtain ⟨u94, I95, I96, I97, I98, I99, I100, I101, I102, I103, I104, I105⟩ := hW
 have zu94 := u94.size
 have E106 := Sc.mk ((((((((E32.u.next u52 (fun i hi h => by omega)).nx u58).nx u64).nx u73).nx u78).nx u83).next u86 (fun i hi h => by omega)).next u94 (fun i hi (h : i = bk80 ∨ i = bk75 ∨ w85.heap.size ≤ i) => show False by first | omega | assumption))
 have hi := I96; clear I96
 have hout := I97; clear I97
 have hos0 := I98; clear I98
 have hos1 := I99; clear I99
 have hol := I100; clear I100
 have hoc := I101; clear I101
 have hok9 := I102; clear I102
 have hcq := I103; clear I103
 have hgq := I104; clear I104
 have hne9 := I105; clear I105
 have lt_gx := hout.lt
 have lt_gq := hcq.lt
 have hout0 := hout
 have hcq0 := hcq
 have hrl : (List.replicate ix (0 : Int)).length = ix := List.length_replicate
 refine go ?_
 refine q_p (fun g110 => ?_) fun g110 => ?_
 ·
  have hmi := hmR ix (by omega)
  have hst0 := seen_take (z := 0) (ms := (l.map fun x => x.m)) (k := ix) (by omega)
  have hst1 := seen_take (z := 1) (ms := (l.map fun x => x.m)) (k := ix) (by omega)
  rw [hmE ix (by omega)] at hst0 hst1
  refine go ?_
  refine c_drawnM follows (fun _ => False) (OTl [0, 2, 4, 6, 8, 10, 12, 14, 16]) (by kernel_rfl) fun w112 u113 => ?_
  have zu113 := u113.size
  refine go ?_
  have D115 := ((((((hFR.keep u73 (fun _ h => h)).keep u78 (fun _ h => h)).keep u83 (fun _ h => h)).keep u86 (fun hb => show ¬ (gR = bk80) by first | omega | assumption)).keep u94 (fun hb => show ¬ (gR = bk80 ∨ gR = bk75 ∨ w85.heap.size ≤ gR) by first | omega | assumption)).keep u113 (fun _ h => h))
  refine y_i ix (D115.sl (fun _ => rfl)) (fun _ => ?_)
  refine go ?_
  refine y_i ix (hl.keep (E106.u.nx u113) (fun _ h => h)) (fun _ => ?_)
  refine go ?_
  refine y_neS (xs := [.int .i64 ((nth l ix).m), .int .i64 ((nth l ix).k), .int .i64 ((nth l ix).h), .int .i64 ((nth l ix).p), .int .i64 ((nth l ix).b), .int .i64 ((nth l ix).t)]) (ys := [.int .i64 ((nth l ix).m), .int .i64 ((nth l ix).k), .int .i64 ((nth l ix).h), .int .i64 ((nth l ix).p), .int .i64 ((nth l ix).b), .int .i64 ((nth l ix).t)]) (by kernel_rfl) (eqIn41 9998 ((nth l ix).m) ((nth l ix).k) ((nth l ix).h) ((nth l ix).p) ((nth l ix).b) ((nth l ix).t) ((nth l ix).m) ((nth l ix).k) ((nth l ix).h) ((nth l ix).p) ((nth l ix).b) ((nth l ix).t)) rfl rfl rfl rfl (y_samehd (v := .bool false) (by simp) (y_same 121 (v := .bool false) rfl (congrArg Value.bool (by simp)) ?_))
  refine go ?_
  refine c_drawnM follows (fun _ => False) (OTl [0, 2, 4, 6, 8, 10, 12, 14, 16, 18, 20, 23, 25]) (by kernel_rfl) fun w119 u120 => ?_
  have zu120 := u120.size
  refine go ?_
  have D122 := (D115.keep u120 (fun _ h => h))
  refine y_i ix (D122.sl (fun _ => rfl)) (fun _ => ?_)
  refine go ?_
  refine y_i ix (D122.sl (fun _ => rfl)) (fun _ => ?_)
  refine go ?_
  refine x_n fun bk125 w126 ebk125 sbk125 B127 u128 => ?_
  refine go ?_
  refine x_s fun w130 sw130 B132 u131 => ?_
  refine go ?_
  refine x_l fun bk134 w135 ebk134 sbk134 B136 u137 => ?_
  refine go ?_
  refine x_l fun bk139 w140 ebk139 sbk139 B141 u142 => ?_
  have D144 := ((((((hout.keep u113 (fun _ h => h)).keep u120 (fun _ h => h)).keep u128 (fun _ h => h)).keep u131 (fun hb => show ¬ (gx = bk125) by first | omega | assumption)).keep u137 (fun _ h => h)).keep u142 (fun _ h => h))
  refine t_append (z := .agg #[.slice none 0 0]) (bytes := 24) (k := 1) (base := w85.heap.size) (⟨[⟨1, (ix : Int), 0, 0, (nth l ix).m, (nth l ix).m⟩, ⟨1, (ix : Int), 1, 0, (nth l ix).m, (nth l ix).m⟩], some ⟨bk134, 0, none⟩, bk134, 0, 2⟩ : HC) underlying36 (by kernel_rfl) rfl (by decide) (fun _ => rfl) (by intro x; simp [encHC, Value.oneCell']) rfl rfl rfl rfl D144 B141 (by omega) (by omega) (by decide) (fun ao145 gb146 cp147 w148 A149 u150 gegb146 lngb146 => ?_)
  have zu150 := u150.size
  have lt_gb146 := A149.lt
  refine go ?_
  refine x_l fun bk152 w153 ebk152 sbk152 B154 u155 => ?_
  have D157 := ((((((((hcq.keep u113 (fun _ h => h)).keep u120 (fun _ h => h)).keep u128 (fun _ h => h)).keep u131 (fun hb => show ¬ (gq = bk125) by first | omega | assumption)).keep u137 (fun _ h => h)).keep u142 (fun _ h => h)).keep u150 (fun hb => show ¬ ((gq = gx ∧ w85.heap.size ≤ gq)) by first | omega | assumption)).keep u155 (fun _ h => h))
  refine t_append (z := .int .i64 0) (bytes := 8) (k := 1) (base := bk75) (0 : Int) underlying28 (by kernel_rfl) rfl (by decide) (fun _ => rfl) (by intro x; simp [encI, Value.oneCell']) rfl rfl rfl rfl D157 B154 (by omega) (by omega) (by decide) (fun ao158 gb159 cp160 w161 A162 u163 gegb159 lngb159 => ?_)
  have zu163 := u163.size
  have lt_gb159 := A162.lt
  refine go ?_
  refine x_s fun w165 sw165 B167 u166 => ?_
  refine go ?_
  have D169 := (((A149.keep u155 (fun _ h => h)).keep u163 (fun hb => show ¬ ((gb146 = gq ∧ bk75 ≤ gb146)) by first | omega | assumption)).keep u166 (fun hb => show ¬ (gb146 = bk80) by first | omega | assumption))
  have D170 := (A162.keep u166 (fun hb => show ¬ (gb159 = bk80) by first | omega | assumption))
  have B171 := (((((B136.kx u142).keep u150 (by omega)).kx u155).keep u163 (by omega)).keep u166 (by omega))
  have uR := (((((((((((Upd.refl (fun i9 => (i9 = gx ∧ w85.heap.size ≤ i9) ∨ i9 = bk80 ∨ (i9 = gq ∧ bk75 ≤ i9)) w93).nx u113).nx u120).nx u128).next u131 (fun i9 hi9 (h : i9 = bk125) => show (i9 = gx ∧ w85.heap.size ≤ i9) ∨ i9 = bk80 ∨ (i9 = gq ∧ bk75 ≤ i9) by omega)).nx u137).nx u142).next u150 (fun i9 hi9 (h : (i9 = gx ∧ w85.heap.size ≤ i9)) => show (i9 = gx ∧ w85.heap.size ≤ i9) ∨ i9 = bk80 ∨ (i9 = gq ∧ bk75 ≤ i9) by omega)).nx u155).next u163 (fun i9 hi9 (h : (i9 = gq ∧ bk75 ≤ i9)) => show (i9 = gx ∧ w85.heap.size ≤ i9) ∨ i9 = bk80 ∨ (i9 = gq ∧ bk75 ≤ i9) by omega)).next u166 (fun i9 hi9 (h : i9 = bk80) => show (i9 = gx ∧ w85.heap.size ≤ i9) ∨ i9 = bk80 ∨ (i9 = gq ∧ bk75 ≤ i9) by omega))
  exact hK92 (ix + 1, ao145, gb146, cp147, (out ++ [(⟨[⟨1, (ix : Int), 0, 0, (nth l ix).m, (nth l ix).m⟩, ⟨1, (ix : Int), 1, 0, (nth l ix).m, (nth l ix).m⟩], some ⟨bk134, 0, none⟩, bk134, 0, 2⟩ : HC)]), ao158, gb159, cp160) _ _ (by show l.length - (ix + 1) < l.length - ix; omega) ⟨rfl, rfl, rfl, rfl, (by rw [List.replicate_succ']; rfl), rfl, trivial⟩ ⟨((((((((((u94.nx u113).nx u120).nx u128).next u131 (fun i hi (h : i = bk125) => show i = bk80 ∨ i = bk75 ∨ w85.heap.size ≤ i by first | omega | assumption)).nx u137).nx u142).next u150 (fun i hi (h : (i = gx ∧ w85.heap.size ≤ i)) => show i = bk80 ∨ i = bk75 ∨ w85.heap.size ≤ i by first | omega | assumption)).nx u155).next u163 (fun i hi (h : (i = gq ∧ bk75 ≤ i)) => show i = bk80 ∨ i = bk75 ∨ w85.heap.size ≤ i by first | omega | assumption)).next u166 (fun i hi (h : i = bk80) => show i = bk80 ∨ i = bk75 ∨ w85.heap.size ≤ i by first | omega | assumption)), B167, (by omega), D169, (by rw [osR_snoc, hos0, hst0]; rfl), (by rw [osR_snoc, hos1, hst1]; rfl), (by rw [List.length_append, hol]; rfl), (fun h hh => by
    rcases List.mem_append.1 hh with q | q
    · exact ⟨(hoc h q).1.upd uR (fun hb cs hB h9 => h9.elim (hout0.notBlk hB (by decide)) (fun h8 => h8.elim (fun e9 => by omega) (hcq0.notBlk hB (by decide)))), (hoc h q).2⟩
    · rw [List.mem_singleton.1 q]; exact ⟨⟨⟨_, by omega, Acc.ofRaw (cs := [.int .i64 1, .int .i64 (ix : Int), .int .i64 0, .int .i64 0, .int .i64 ((nth l ix).m), .int .i64 ((nth l ix).m), .int .i64 1, .int .i64 (ix : Int), .int .i64 1, .int .i64 0, .int .i64 ((nth l ix).m), .int .i64 ((nth l ix).m)]) B171 (Nat.le_refl _) (Nat.le_refl _) (by show 2 ≤ maxLen; decide) rfl rfl⟩, rfl⟩, rfl⟩), (okL_snoc hok9 (fun x hx => by
    rcases List.mem_cons.1 hx with q | q
    · rw [q]; exact oks2 (by omega)
    · rw [List.mem_singleton.1 q]; exact oks2 (by omega))), (by rw [List.replicate_succ']; exact D170), (show gb159 = bk75 ∨ w85.heap.size ≤ gb159 by omega), (show gb146 ≠ gb159 by omega)⟩
 clear hrd hv hvf hfew htl hbv hn2 hn13 hgd hq9 hq9l hd0 hd9
 have hin : ix = l.length := by omega
 have hosA0 : osR 0 out = seenL 0 0 (l.map fun x => x.m) := hos0.trans (seen_all (by omega))
 have hosA1 : osR 1 out = seenL 1 0 (l.map fun x => x.m) := hos1.trans (seen_all (by omega))
 refine go ?_
 have hxh173 : ∀ h ∈ out, OptC w85.heap.size w93 h ∧ h.xs.length = 2 := (fun h hh => ⟨(hoc h hh).1.upd (Upd.refl (fun i9 => (i9 = gx ∧ w85.heap.size ≤ i9) ∨ i9 = bk80 ∨ (i9 = gq ∧ bk75 ≤ i9)) w93) (fun hb cs hB h9 => h9.elim (hout.notBlk hB (by decide)) (fun h8 => h8.elim (fun e9 => by omega) (hcq.notBlk hB (by decide)))), (hoc h hh).2⟩)
 have B174 := ((((B72.kx u78).kx u83).keep u86 (by omega)).keep u94 (show ¬ (bk70 = bk80 ∨ bk70 = bk75 ∨ w85.heap.size ≤ bk70) by first | omega | assumption))
 have cah173 : CaM w93 0 l.length (clk2 fa) (some ⟨bk70, 0, none⟩) bk70 0 out ao gx 0 := ⟨Sl.ofBlk (enc := encBcl) (xs := (clk2 fa)) (fun _ => rfl) B174, (hout.sl (fun _ => rfl)), fun h hh => ⟨(hxh173 h hh).1.sl, by have h9 := (hxh173 h hh).2; omega⟩, ⟨by omega, by omega⟩, (by show 2 ≤ 8; decide), (by omega), clk_ok hfa, hok9⟩
 refine x_c func13 rfl rfl (haulCase_c 0 l.length (clk2 fa) (some ⟨bk70, 0, none⟩) bk70 0 2 out ao gx 0 co _ cah173 (by omega)) ?_
 rintro _ w176 ⟨⟨a1h173, g1h173, c1h173, a2h173, g2h173, c2h173, outh173, rfl, x1h173, x2h173, hmh173, hsh173⟩, u177⟩ zu177
 have cbh173 := cah173.cpy (x1h173.sl (fun _ => rfl)) (x2h173.sl (fun _ => rfl)) hmh173 hsh173
 have olh173 : outh173.length = l.length := by have := congrArg List.length hmh173; simp only [List.length_map] at this; omega
 have osh173 : osR 0 outh173 = seenL 0 0 (l.map fun x => x.m) := (osR_xs hmh173).trans hosA0
 refine x_l fun bk180 w181 ebk180 sbk180 B182 u183 => ?_
 refine go ?_
 have D185 := ((hcq.keep u177 (fun _ h => h)).keep u183 (fun _ h => h))
 refine t_copy (enc := encI) (z := .int .i64 0) (bytes := 8) (k := 1) (ys := (List.replicate ix (0 : Int))) underlying28 (by kernel_rfl) rfl (by decide) (fun _ => rfl) (by intro x; simp [encI, Value.oneCell']) rfl rfl rfl rfl B182 (D185.sl (fun _ => rfl)) (by omega) (by decide) (fun ao186 gb187 cp188 w189 A190 u191 gegb187 => ?_)
 have zu191 := u191.size
 have lt_gb187 := A190.lt
 have tmh173 : (List.range l.length).map (tmV l.length (List.length (clk2 fa)) (opnW l.length (clk2 fa) (osR 0 outh173))) = (tmsS 0 fa (l.map fun x => x.m) l.length) := by rw [osh173]; exact tmS_eq hms hfa (by decide) hml
 refine x_c func12 rfl rfl ((Times_c 0 l.length (clk2 fa) a1h173 g1h173 0 c1h173 outh173 a2h173 g2h173 0 c2h173 (List.replicate ix (0 : Int)) ao186 gb187 0 cp188 _ (cbh173.keepN (((Upd.refl (fun i => w176.heap.size ≤ i) _).nx u183).next u191 (fun i hi (h : (i = bk180 ∧ bk180 ≤ i)) => show w176.heap.size ≤ i by first | omega | assumption))) (A190.sl (fun _ => rfl)) (fun x hx => rep_mem x hx) (by rw [hrl, hin, olh173]) (by rw [osh173]; exact ok_L hms hfa (by decide) hml) (by omega) (by rw [osh173]; exact fit_L hms hfa (by decide) hml)).mono fun v w h => by rw [tmh173] at h; exact h) ?_
 rintro _ w194 ⟨⟨aT0, gT0, cT0, rfl, hT0⟩, u195⟩ zu195
 have lt_gT0 := hT0.lt
 clear tmh173 osh173 olh173 hmh173
 have hTl0 : (tmsS 0 fa (l.map fun x => x.m) l.length).length = l.length := tmsS_len
 refine go ?_
 have D200 := ((D185.keep u191 (fun hb => show ¬ ((gq = bk180 ∧ bk180 ≤ gq)) by first | omega | assumption)).keep u195 (fun _ h => h))
 refine x_l1 (fun i => (i = gq ∧ bk75 ≤ i)) [0, 1, 8, 11, 14, 18] (fun (j : Nat) => [(15, .slice aq ((crs l.length j).length) cq9), (19, .int .i64 (j : Int))]) (fun j w => (j ≤ l.length) ∧ (Acc encI 1 3 bk75 w aq gq cq9 (crs l.length j))) (fun j => l.length - j) 0 ⟨(Nat.zero_le _), (by rw [crs_zero, ← hin]; exact D200)⟩ ?_ (h0 := by exact ⟨(congrArg (fun n : Nat => some (Value.slice aq n cq9)) (by rw [crs_len (Nat.zero_le _)]; omega)), rfl, rfl, rfl, rfl, rfl, rfl, rfl, trivial⟩)
 rintro j w202 ⟨hj, hcj⟩ u203 zu203 K201 hK201
 have lt_gq := hcj.lt
 have hcl9 := crs_len (n := l.length) hj
 have hcc9 := hcj.cap_le
 refine go ?_
 refine q_p (fun g161 => ?_) fun g161 => ?_
 ·
  refine go ?_
  refine g_i j (hcj.sl (fun _ => rfl)) (fun _ => ?_)
  refine t_storeA (vs := [.int .i64 1]) (j := j) (o' := 0) (k := 1) 1 (fun _ => rfl) sizeOf3 rfl rfl (by omega) rfl hcj (by first | omega | (simp only [List.length_set]; omega)) rfl rfl (by decide) (by simp [Value.oneCell']) rfl (fun w209 R211 u210 => ?_)
  have zu210 := u210.size
  refine go ?_
  exact hK201 (j + 1) ⟨(by omega), (by rw [← crs_set (by omega)]; exact R211)⟩ (hs := by exact ⟨(congrArg (fun n : Nat => some (Value.slice aq n cq9)) (by rw [crs_len (by omega), crs_len (by omega)])), rfl, rfl, rfl, rfl, rfl, rfl, rfl, trivial⟩)
 have hcz9 : crs l.length j = List.replicate l.length 1 := crs_all (by omega)
 refine go ?_
 have hxh214 : ∀ h ∈ out, OptC w85.heap.size w202 h ∧ h.xs.length = 2 := (fun h hh => ⟨(hoc h hh).1.upd ((((((Upd.refl (fun i9 => (i9 = gx ∧ w85.heap.size ≤ i9) ∨ i9 = bk80 ∨ (i9 = gq ∧ bk75 ≤ i9)) w93).nx u177).nx u183).next u191 (fun i9 hi9 (h : (i9 = bk180 ∧ bk180 ≤ i9)) => show (i9 = gx ∧ w85.heap.size ≤ i9) ∨ i9 = bk80 ∨ (i9 = gq ∧ bk75 ≤ i9) by omega)).nx u195).next u203 (fun i9 hi9 (h : (i9 = gq ∧ bk75 ≤ i9)) => show (i9 = gx ∧ w85.heap.size ≤ i9) ∨ i9 = bk80 ∨ (i9 = gq ∧ bk75 ≤ i9) by omega)) (fun hb cs hB h9 => h9.elim (hout.notBlk hB (by decide)) (fun h8 => h8.elim (fun e9 => by omega) (hcq.notBlk hB (by decide)))), (hoc h hh).2⟩)
 have B215 := (((((B174.kx u177).kx u183).keep u191 (by omega)).kx u195).keep u203 (by omega))
 have D216 := (((((hout.keep u177 (fun _ h => h)).keep u183 (fun _ h => h)).keep u191 (fun hb => show ¬ ((gx = bk180 ∧ bk180 ≤ gx)) by first | omega | assumption)).keep u195 (fun _ h => h)).keep u203 (fun hb => show ¬ ((gx = gq ∧ bk75 ≤ gx)) by first | omega | assumption))
 have cah214 : CaM w202 1 l.length (clk2 fa) (some ⟨bk70, 0, none⟩) bk70 0 out ao gx 0 := ⟨Sl.ofBlk (enc := encBcl) (xs := (clk2 fa)) (fun _ => rfl) B215, (D216.sl (fun _ => rfl)), fun h hh => ⟨(hxh214 h hh).1.sl, by have h9 := (hxh214 h hh).2; omega⟩, ⟨by omega, by omega⟩, (by show 2 ≤ 8; decide), (by omega), clk_ok hfa, hok9⟩
 refine x_c func13 rfl rfl (haulCase_c 1 l.length (clk2 fa) (some ⟨bk70, 0, none⟩) bk70 0 2 out ao gx 0 co _ cah214 (by omega)) ?_
 rintro _ w218 ⟨⟨a1h214, g1h214, c1h214, a2h214, g2h214, c2h214, outh214, rfl, x1h214, x2h214, hmh214, hsh214⟩, u219⟩ zu219
 have cbh214 := cah214.cpy (x1h214.sl (fun _ => rfl)) (x2h214.sl (fun _ => rfl)) hmh214 hsh214
 have olh214 : outh214.length = l.length := by have := congrArg List.length hmh214; simp only [List.length_map] at this; omega
 have osh214 : osR 1 outh214 = seenL 1 0 (l.map fun x => x.m) := (osR_xs hmh214).trans hosA1
 refine x_l fun bk222 w223 ebk222 sbk222 B224 u225 => ?_
 refine go ?_
 have D227 := ((hcj.keep u219 (fun _ h => h)).keep u225 (fun _ h => h))
 refine t_copy (enc := encI) (z := .int .i64 0) (bytes := 8) (k := 1) (ys := (crs l.length j)) underlying28 (by kernel_rfl) rfl (by decide) (fun _ => rfl) (by intro x; simp [encI, Value.oneCell']) rfl rfl rfl rfl B224 (D227.sl (fun _ => rfl)) (by omega) (by decide) (fun ao228 gb229 cp230 w231 A232 u233 gegb229 => ?_)
 have zu233 := u233.size
 have lt_gb229 := A232.lt
 have tmh214 : (List.range l.length).map (tmV l.length (List.length (clk2 fa)) (opnW l.length (clk2 fa) (osR 1 outh214))) = (tmsS 1 fa (l.map fun x => x.m) l.length) := by rw [osh214]; exact tmS_eq hms hfa (by decide) hml
 refine x_c func12 rfl rfl ((Times_c 1 l.length (clk2 fa) a1h214 g1h214 0 c1h214 outh214 a2h214 g2h214 0 c2h214 (crs l.length j) ao228 gb229 0 cp230 _ (cbh214.keepN (((Upd.refl (fun i => w218.heap.size ≤ i) _).nx u225).next u233 (fun i hi (h : (i = bk222 ∧ bk222 ≤ i)) => show w218.heap.size ≤ i by first | omega | assumption))) (A232.sl (fun _ => rfl)) (fun x hx => by rw [hcz9] at hx; exact rep_mem x hx) (by rw [hcl9, olh214]) (by rw [osh214]; exact ok_L hms hfa (by decide) hml) (by omega) (by rw [osh214]; exact fit_L hms hfa (by decide) hml)).mono fun v w h => by rw [tmh214] at h; exact h) ?_
 rintro _ w236 ⟨⟨aT1, gT1, cT1, rfl, hT1⟩, u237⟩ zu237
 have lt_gT1 := hT1.lt
 clear tmh214 osh214 olh214 hmh214
 have hTl1 : (tmsS 1 fa (l.map fun x => x.m) l.length).length = l.length := tmsS_len
 refine go ?_
 have hxh241 : ∀ h ∈ out, OptC w85.heap.size w236 h ∧ h.xs.length = 2 := (fun h hh => ⟨(hoc h hh).1.upd ((((((((((Upd.refl (fun i9 => (i9 = gx ∧ w85.heap.size ≤ i9) ∨ i9 = bk80 ∨ (i9 = gq ∧ bk75 ≤ i9)) w93).nx u177).nx u183).next u191 (fun i9 hi9 (h : (i9 = bk180 ∧ bk180 ≤ i9)) => show (i9 = gx ∧ w85.heap.size ≤ i9) ∨ i9 = bk80 ∨ (i9 = gq ∧ bk75 ≤ i9) by omega)).nx u195).next u203 (fun i9 hi9 (h : (i9 = gq ∧ bk75 ≤ i9)) => show (i9 = gx ∧ w85.heap.size ≤ i9) ∨ i9 = bk80 ∨ (i9 = gq ∧ bk75 ≤ i9) by omega)).nx u219).nx u225).next u233 (fun i9 hi9 (h : (i9 = bk222 ∧ bk222 ≤ i9)) => show (i9 = gx ∧ w85.heap.size ≤ i9) ∨ i9 = bk80 ∨ (i9 = gq ∧ bk75 ≤ i9) by omega)).nx u237) (fun hb cs hB h9 => h9.elim (hout.notBlk hB (by decide)) (fun h8 => h8.elim (fun e9 => by omega) (hcq.notBlk hB (by decide)))), (hoc h hh).2⟩)
 have B242 := ((((B215.kx u219).kx u225).keep u233 (by omega)).kx u237)
 have D243 := ((((D216.keep u219 (fun _ h => h)).keep u225 (fun _ h => h)).keep u233 (fun hb => show ¬ ((gx = bk222 ∧ bk222 ≤ gx)) by first | omega | assumption)).keep u237 (fun _ h => h))
 have cah241 : CaM w236 1 l.length (clk2 fa) (some ⟨bk70, 0, none⟩) bk70 0 out ao gx 0 := ⟨Sl.ofBlk (enc := encBcl) (xs := (clk2 fa)) (fun _ => rfl) B242, (D243.sl (fun _ => rfl)), fun h hh => ⟨(hxh241 h hh).1.sl, by have h9 := (hxh241 h hh).2; omega⟩, ⟨by omega, by omega⟩, (by show 2 ≤ 8; decide), (by omega), clk_ok hfa, hok9⟩
 refine x_c func13 rfl rfl (haulCase_c 1 l.length (clk2 fa) (some ⟨bk70, 0, none⟩) bk70 0 2 out ao gx 0 co _ cah241 (by omega)) ?_
 rintro _ w245 ⟨⟨a1h241, g1h241, c1h241, a2h241, g2h241, c2h241, outh241, rfl, x1h241, x2h241, hmh241, hsh241⟩, u246⟩ zu246
 have cbh241 := cah241.cpy (x1h241.sl (fun _ => rfl)) (x2h241.sl (fun _ => rfl)) hmh241 hsh241
 have olh241 : outh241.length = l.length := by have := congrArg List.length hmh241; simp only [List.length_map] at this; omega
 have osh241 : osR 1 outh241 = seenL 1 0 (l.map fun x => x.m) := (osR_xs hmh241).trans hosA1
 refine x_l fun bk249 w250 ebk249 sbk249 B251 u252 => ?_
 refine go ?_
 have D254 := ((((D227.keep u233 (fun hb => show ¬ ((gq = bk222 ∧ bk222 ≤ gq)) by first | omega | assumption)).keep u237 (fun _ h => h)).keep u246 (fun _ h => h)).keep u252 (fun _ h => h))
 refine t_copy (enc := encI) (z := .int .i64 0) (bytes := 8) (k := 1) (ys := (crs l.length j)) underlying28 (by kernel_rfl) rfl (by decide) (fun _ => rfl) (by intro x; simp [encI, Value.oneCell']) rfl rfl rfl rfl B251 (D254.sl (fun _ => rfl)) (by omega) (by decide) (fun ao255 gb256 cp257 w258 A259 u260 gegb256 => ?_)
 have zu260 := u260.size
 have lt_gb256 := A259.lt
 refine go ?_
 have bt1 : -nth (rchW (1 + l.length + List.length (clk2 fa)) (opnW l.length (clk2 fa) (osR 1 outh241)) (1 + ((l.length : Int) - 1))).m (1 + 0 : Int).toNat = (nth (l.map fun x => x.m) (l.length - 1) - nth (l.map fun x => x.m) 0) := by rw [osh241]; exact (gap_L hms hfa (by decide) hml).1
 have bt2 : nth (rchW (1 + l.length + List.length (clk2 fa)) (opnW l.length (clk2 fa) (osR 1 outh241)) (1 + 0)).m (1 + ((l.length : Int) - 1)).toNat = (nth (l.map fun x => x.m) (l.length - 1) - nth (l.map fun x => x.m) 0) := by rw [osh241]; exact (gap_L hms hfa (by decide) hml).2
 refine x_c func14 rfl rfl ((Between_c 1 l.length (clk2 fa) a1h241 g1h241 0 c1h241 outh241 a2h241 g2h241 0 c2h241 (crs l.length j) ao255 gb256 0 cp257 0 ((l.length : Int) - 1) _ (cbh241.keepN (((Upd.refl (fun i => w245.heap.size ≤ i) _).nx u252).next u260 (fun i hi (h : (i = bk249 ∧ bk249 ≤ i)) => show w245.heap.size ≤ i by first | omega | assumption))) (A259.sl (fun _ => rfl)) (fun x hx => by rw [hcz9] at hx; exact rep_mem x hx) (by rw [hcl9, olh241]) (by rw [osh241]; exact ok_L hms hfa (by decide) hml) (by omega) (by rw [osh241]; exact fit_L hms hfa (by decide) hml) (by omega) (by omega)).mono fun v w h => by rw [bt1, bt2] at h; exact h) ?_
 rintro _ w263 ⟨rfl, u264⟩ zu264
 clear bt1 bt2 osh241 olh241 hmh241 hosA0 hosA1 hos0 hos1 hcz9 hne9 hgq hok9 hoc
 refine go ?_
 refine x_n fun bk267 w268 ebk267 sbk267 B269 u270 => ?_
 refine x_s fun w272 sw272 B274 u273 => ?_
 have E275 := Sc.mk (((((((((((((((E106.u.nx u177).nx u183).next u191 (fun i hi h => by omega)).nx u195).next u203 (fun i hi h => by omega)).nx u219).nx u225).next u233 (fun i hi h => by omega)).nx u237).nx u246).nx u252).next u260 (fun i hi h => by omega)).nx u264).nx u270).next u273 (fun i hi h => by omega))
 iterate 22 refine st1 ?_
 refine t_same 203 (v := .bool false) rfl (congrArg Value.bool (decide_eq_false (by omega))) ?_
 iterate 7 refine st1 ?_
 refine t_same 210 (v := .bool false) rfl (congrArg Value.bool (decide_eq_false (by omega))) ?_
 refine go ?_
 refine t_conv underlying5 underlying3 rfl rfl rfl (IntWalk.i64_in _ (by omega)) ?_
 refine go ?_
 refine g_i 0 (hl.keep E275.u (fun _ h => h)) (fun _ => ?_)
 refine go ?_
 refine t_min rfl rfl rfl rfl (t_same 218 (v := .int .i64 (mostS fa (l.map fun x => x.m))) rfl (congrArg (Value.int .i64) (by unfold mostS; rw [hmE 0 hl0])) ?_)
 refine go ?_
 refine x_l1 (fun _ => False) [11, 18, 20, 21, 23] (fun (k : Nat) => [(24, .int .i64 (k : Int))]) (fun k w => (k ≤ l.length)) (fun k => l.length - k) 0 (Nat.zero_le _) ?_
 rintro k w283 hk u284 zu284 K282 hK282
 refine go ?_
 refine q_p (fun g222 => ?_) fun g222 => ?_
 ·
  have hmk := hmE k (by omega)
  have hmkr := hmR k (by omega)
  have hmk0 := hms.2.1 0 k (by omega) (by omega)
  rw [hmk, hmE 0 (by omega)] at hmk0
  refine go ?_
  have D290 := (((((((((((((((((((((hFR.keep u73 (fun _ h => h)).keep u78 (fun _ h => h)).keep u83 (fun _ h => h)).keep u86 (fun hb => show ¬ (gR = bk80) by first | omega | assumption)).keep u94 (fun hb => show ¬ (gR = bk80 ∨ gR = bk75 ∨ w85.heap.size ≤ gR) by first | omega | assumption)).keep u177 (fun _ h => h)).keep u183 (fun _ h => h)).keep u191 (fun hb => show ¬ ((gR = bk180 ∧ bk180 ≤ gR)) by first | omega | assumption)).keep u195 (fun _ h => h)).keep u203 (fun hb => show ¬ ((gR = gq ∧ bk75 ≤ gR)) by first | omega | assumption)).keep u219 (fun _ h => h)).keep u225 (fun _ h => h)).keep u233 (fun hb => show ¬ ((gR = bk222 ∧ bk222 ≤ gR)) by first | omega | assumption)).keep u237 (fun _ h => h)).keep u246 (fun _ h => h)).keep u252 (fun _ h => h)).keep u260 (fun hb => show ¬ ((gR = bk249 ∧ bk249 ≤ gR)) by first | omega | assumption)).keep u264 (fun _ h => h)).keep u270 (fun _ h => h)).keep u273 (fun hb => show ¬ (gR = bk267) by first | omega | assumption)).keep u284 (fun _ h => h))
  refine g_i k (D290.sl (fun _ => rfl)) (fun _ => ?_)
  refine go ?_
  have D293 := ((((((((((((hT0.keep u203 (fun hb => show ¬ ((gT0 = gq ∧ bk75 ≤ gT0)) by first | omega | assumption)).keep u219 (fun _ h => h)).keep u225 (fun _ h => h)).keep u233 (fun hb => show ¬ ((gT0 = bk222 ∧ bk222 ≤ gT0)) by first | omega | assumption)).keep u237 (fun _ h => h)).keep u246 (fun _ h => h)).keep u252 (fun _ h => h)).keep u260 (fun hb => show ¬ ((gT0 = bk249 ∧ bk249 ≤ gT0)) by first | omega | assumption)).keep u264 (fun _ h => h)).keep u270 (fun _ h => h)).keep u273 (fun hb => show ¬ (gT0 = bk267) by first | omega | assumption)).keep u284 (fun _ h => h))
  refine g_i k (D293.sl (fun _ => rfl)) (fun _ => ?_)
  refine st1 ?_
  refine t_same 233 (v := .agg #[.int .i64 ((nth l k).m), .int .i64 ((nth l k).m)]) rfl (congrArg (fun b : Bcl => Value.agg #[.int .i64 b.lo, .int .i64 b.hi]) (show nth (tmsS 0 fa (l.map fun x => x.m) l.length) k = ⟨(nth l k).m, (nth l k).m⟩ by rw [tmsS_nth (by omega), hmk, if_pos rfl, Int.sub_zero])) ?_
  refine go ?_
  refine t_neS (xs := [.int .i64 ((nth l k).m), .int .i64 ((nth l k).m)]) (ys := [.int .i64 ((nth l k).m), .int .i64 ((nth l k).m)]) (by kernel_rfl) (eqIn34 9998 ((nth l k).m) ((nth l k).m) ((nth l k).m) ((nth l k).m)) rfl rfl rfl rfl (t_samehd (v := .bool false) (by simp) (t_same 237 (v := .bool false) rfl (congrArg Value.bool (by simp)) ?_))
  refine go ?_
  have D295 := (((((((hT1.keep u246 (fun _ h => h)).keep u252 (fun _ h => h)).keep u260 (fun hb => show ¬ ((gT1 = bk249 ∧ bk249 ≤ gT1)) by first | omega | assumption)).keep u264 (fun _ h => h)).keep u270 (fun _ h => h)).keep u273 (fun hb => show ¬ (gT1 = bk267) by first | omega | assumption)).keep u284 (fun _ h => h))
  refine g_i k (D295.sl (fun _ => rfl)) (fun _ => ?_)
  refine st1 ?_
  refine t_same 242 (v := .agg #[.int .i64 ((nth l k).m - mostS fa (l.map fun x => x.m)), .int .i64 ((nth l k).m)]) rfl (congrArg (fun b : Bcl => Value.agg #[.int .i64 b.lo, .int .i64 b.hi]) (show nth (tmsS 1 fa (l.map fun x => x.m) l.length) k = ⟨(nth l k).m - mostS fa (l.map fun x => x.m), (nth l k).m⟩ by rw [tmsS_nth (by omega), hmk, if_neg (by decide)])) ?_
  refine go ?_
  refine t_neS (xs := [.int .i64 ((nth l k).m - mostS fa (l.map fun x => x.m)), .int .i64 ((nth l k).m)]) (ys := [.int .i64 (((nth l k).m) - (mostS fa (l.map fun x => x.m))), .int .i64 ((nth l k).m)]) (by kernel_rfl) (eqIn34 9998 ((nth l k).m - mostS fa (l.map fun x => x.m)) ((nth l k).m) (((nth l k).m) - (mostS fa (l.map fun x => x.m))) ((nth l k).m)) rfl rfl rfl rfl (t_same 248 (v := .bool false) rfl (congrArg Value.bool (by simp)) ?_)
  refine go ?_
  exact hK282 (k + 1) (by omega)
 have hmG := hms.2.1 0 (l.length - 1) (by omega) (by omega)
 rw [hmE 0 (by omega), hmE (l.length - 1) (by omega)] at hmG
 refine go ?_
 refine c_drawnM follows (fun _ => False) (OTl [0, 2, 4, 6, 8, 10, 12, 14, 16, 18, 20, 22, 24]) (by kernel_rfl) fun w298 u299 => ?_
 have zu299 := u299.size
 refine go ?_
 have D301 := ((((((((((((((((((((((hFR.keep u73 (fun _ h => h)).keep u78 (fun _ h => h)).keep u83 (fun _ h => h)).keep u86 (fun hb => show ¬ (gR = bk80) by first | omega | assumption)).keep u94 (fun hb => show ¬ (gR = bk80 ∨ gR = bk75 ∨ w85.heap.size ≤ gR) by first | omega | assumption)).keep u177 (fun _ h => h)).keep u183 (fun _ h => h)).keep u191 (fun hb => show ¬ ((gR = bk180 ∧ bk180 ≤ gR)) by first | omega | assumption)).keep u195 (fun _ h => h)).keep u203 (fun hb => show ¬ ((gR = gq ∧ bk75 ≤ gR)) by first | omega | assumption)).keep u219 (fun _ h => h)).keep u225 (fun _ h => h)).keep u233 (fun hb => show ¬ ((gR = bk222 ∧ bk222 ≤ gR)) by first | omega | assumption)).keep u237 (fun _ h => h)).keep u246 (fun _ h => h)).keep u252 (fun _ h => h)).keep u260 (fun hb => show ¬ ((gR = bk249 ∧ bk249 ≤ gR)) by first | omega | assumption)).keep u264 (fun _ h => h)).keep u270 (fun _ h => h)).keep u273 (fun hb => show ¬ (gR = bk267) by first | omega | assumption)).keep u284 (fun _ h => h)).keep u299 (fun _ h => h))
 refine y_i (l.length - 1) (D301.sl (fun _ => rfl)) (fun _ => ?_)
 refine go ?_
 refine y_i 0 (D301.sl (fun _ => rfl)) (fun _ => ?_)
 iterate 9 refine st1 ?_
 refine t_same 262 (v := .agg #[.int .i64 ((nth l (l.length - 1)).m - (nth l 0).m), .int .i64 ((nth l (l.length - 1)).m - (nth l 0).m)]) rfl (congrArg (fun n : Int => Value.agg #[.int .i64 n, .int .i64 n]) (show (nth (l.map fun x => x.m) (l.length - 1) - nth (l.map fun x => x.m) 0) = ((nth l (l.length - 1)).m - (nth l 0).m) by rw [hmE 0 hl0, hmE (l.length - 1) (by omega)])) ?_
 refine go ?_
 refine t_eqS (xs := [.int .i64 ((nth l (l.length - 1)).m - (nth l 0).m), .int .i64 ((nth l (l.length - 1)).m - (nth l 0).m)]) (ys := [.int .i64 (((nth l (l.length - 1)).m) - ((nth l 0).m)), .int .i64 (((nth l (l.length - 1)).m) - ((nth l 0).m))]) (by kernel_rfl) (eqIn34 9998 ((nth l (l.length - 1)).m - (nth l 0).m) ((nth l (l.length - 1)).m - (nth l 0).m) (((nth l (l.length - 1)).m) - ((nth l 0).m)) (((nth l (l.length - 1)).m) - ((nth l 0).m))) rfl rfl rfl rfl (t_same 266 (v := .bool true) rfl (congrArg Value.bool (by simp)) ?_)
 refine go ?_
 refine x_c func7 rfl rfl (knownSeen_c _) ?_
 rintro _ w306 ⟨rfl, u307⟩ zu307
 refine go ?_
 refine x_c func8 rfl rfl (knownLogs_c _ (hT.ext (((E275.u.nx u284).nx u299).nx u307)) (by omega)) ?_
 rintro _ w311 ⟨rfl, u312⟩ zu312
 refine go ?_
 refine f_1 results3 ?_
 exact ⟨rfl, u_d⟩

end Go.Proofs.YtagmkfbbhfaceaaGreatDoor
namespace Go.Proofs.YtagmkfbbhfaceaaGreatDoor
open Go Go.RowKit
set_option maxRecDepth 10000
/-! ### the witness: a world in which the listed variables hold what is told of them -/
def litC : DataW Unit → Value
  | .lit (.int k n) => .int k n
  | _ => .int .i64 0
def aggC : DataW Unit → List Value
  | .agg l => l.map litC
  | _ => []
def strC : DataW Unit → Value
  | .iface _ (.ptr (.agg [.lit (.string s)])) => .string ⟨s.toArray⟩
  | _ => .int .i64 0
def setC (cs : List Value) : Obj → Obj
  | .cells _ t f => .cells cs.toArray t f
  | o => o
noncomputable def laidWorld (os : Os) : World :=
  { World.holding Tryz.prog os ⟨#[], #[], []⟩ with heap := (((((((World.holding Tryz.prog os ⟨#[], #[], []⟩).heap.modify 8 (setC (aggC Rows.laid_math_bits_deBruijn32tab))).modify 9 (setC (aggC Rows.laid_math_bits_deBruijn64tab))).modify 5 (setC (aggC Rows.laid_internal_strconv_uint64pow10))).modify 4 (setC [.iface 352 (.pointer (some ⟨15, 0, none⟩))])).modify 3 (setC [.iface 352 (.pointer (some ⟨16, 0, none⟩))])).push (.cells #[strC Rows.laid_strconv_ErrRange] 353 (0, 0))).push (.cells #[strC Rows.laid_strconv_ErrSyntax] 353 (0, 0)) }
theorem laid_met (os : Os) (args : Array Value) : laidMet Tryz.prog Rows.topSailedLogRow.laid ((laidWorld os).forCall (fun _ _ => 0) ⟨#[], args, []⟩).memory :=
  laidMet_of_run' 8 (by kernel_rfl) (by kernel_rfl)
theorem glob5 : Tryz.prog.globalNamed "internal/strconv.uint64pow10" = some 5 := by kernel_rfl
theorem glob5t : (Tryz.prog.globals[5]?).map (·.type) = some 372 := by kernel_rfl
theorem tab_of_laid {W : World} (h : laidMet Tryz.prog Rows.topSailedLogRow.laid W) : Tab10 W := by
  have e : (Rows.laid_internal_strconv_uint64pow10 : DataW Unit) = Lib.tabData .u64 Lib.pow10Tab := by kernel_rfl
  obtain ⟨ps, ⟨_, _, _, _, _, _, _, _, _, _, ⟨_, _, _, _, _, _, _, _, _, _, ⟨g', t', cs, fuel, p, q, hg', ht', hvar, hd, _, _⟩, _⟩, _⟩, _⟩ := h
  obtain rfl := Option.some.inj (glob5.symm.trans hg')
  obtain rfl := Option.some.inj (glob5t.symm.trans ht')
  unfold Tab10 Lib.TabIs
  rw [hvar, ← Lib.cells_of_tab (t := 372) (e := 225) (n := 20) (k := .u64) (zs := Lib.pow10Tab) Tryz.underlying372 Tryz.underlying225 (by kernel_rfl) (by kernel_rfl) (by rw [← e]; exact hd)]
theorem tab_pos {w : World} (h : Tab10 w) : 0 < w.heap.size := by
  unfold Tab10 Lib.TabIs World.var? at h
  rw [glob5] at h
  simp only [Option.bind_some] at h
  rcases Nat.lt_or_ge 5 w.heap.size with q | q
  · omega
  · rw [Array.getElem?_eq_none q] at h; cases h

end Go.Proofs.YtagmkfbbhfaceaaGreatDoor
