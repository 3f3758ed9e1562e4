/-
  Part 18 of the proof: contracts and plain laws. Conditions: none.
-/
import Derived.Test.YtjdcpnaocjddoaaGreatDoorHK17
namespace Go.Proofs.YtjdcpnaocjddoaaGreatDoor
open Go Go.RowKit Go.Proofs.Tryz
theorem decD_l6 {n : Int} (h : 0 ≤ n ∧ n < 1000000) : (Lib.decDigits n.toNat).length ≤ 6 := decD_len 5 n.toNat (by omega)
end Go.Proofs.YtjdcpnaocjddoaaGreatDoor
namespace Go.Proofs.YtjdcpnaocjddoaaGreatDoor
open Go Go.RowKit Go.Proofs.Tryz
theorem wlG_join_len {x : Gau} (h : okGau x = true) (i : Nat) : (Lib.join (wlG x i) [32]).length ≤ 300 := by
  obtain ⟨h1, h2, ⟨h3, h4⟩, h5⟩ := okGau_iff h
  have h0 := h5 _ (nth_mem (xs := x.s) (i := 0) (by omega))
  have hl : (wlG x i).length ≤ 26 := by
    unfold wlG
    rw [List.length_append, difG_len, List.length_take, List.length_drop]
    simp only [List.length_cons, List.length_nil]; omega
  have hw : ∀ w ∈ wlG x i, w.length ≤ 7 := fun w hw => by
    unfold wlG at hw
    have hi : ∀ n : Int, 0 ≤ n → n ≤ 100000 → (Lib.itoa n).length ≤ 7 := fun n a b => by
      have := decD_len 5 n.toNat (by omega)
      rw [itoa_dec a]; omega
    rcases List.mem_append.1 hw with hw | hw
    · rcases List.mem_cons.1 hw with hw | hw
      · rw [hw]; exact hi _ (by omega) (by omega)
      rcases List.mem_cons.1 hw with hw | hw
      · rw [hw]; exact hi _ (by omega) (by omega)
      · rw [List.mem_singleton.1 hw]; exact hi _ (by omega) (by omega)
    · exact difG_wlen _ _ h0 (fun n hn => h5 n (List.mem_of_mem_drop (List.mem_of_mem_take hn))) w hw
  have h9 := join_len [32] 7 (wlG x i) hw
  have h8 : (wlG x i).length * (7 + 1) ≤ 26 * 8 := Nat.mul_le_mul_right _ hl
  have h7 : ([32] : List UInt8).length = 1 := rfl
  rw [h7] at h9
  omega
theorem join_wl0 {x : Gau} (h : okGau x = true) : ((((Lib.decDigits x.st.toNat ++ [32]) ++ Lib.decDigits x.hr.toNat) ++ [32]) ++ Lib.decDigits (nth x.s 0).toNat) = Lib.join (wlG x 0) [32] := by
  obtain ⟨h1, h2, ⟨h3, h4⟩, h5⟩ := okGau_iff h
  have h0 := h5 _ (nth_mem (xs := x.s) (i := 0) (by omega))
  unfold wlG
  rw [List.take_zero]
  show _ = Lib.join [Lib.itoa x.st, Lib.itoa x.hr, Lib.itoa (nth x.s 0)] [32]
  rw [join_two, join_two, Lib.join_one, itoa_dec h1.1, itoa_dec h2.1, itoa_dec h0.1]
  simp only [List.append_assoc]
theorem wlG_step {x : Gau} {i : Nat} (h1 : 1 ≤ i) (h2 : i < x.s.length) : wlG x i = wlG x (i - 1) ++ [dW (nth x.s i - nth x.s (i - 1))] := by
  obtain ⟨j, rfl⟩ : ∃ j, i = j + 1 := ⟨i - 1, by omega⟩
  rw [Nat.add_sub_cancel, wlG_next h2]
theorem join_wl {x : Gau} {i : Nat} (h1 : 1 ≤ i) (h2 : i < x.s.length) : Lib.join (wlG x i) [32] = Lib.join (wlG x (i - 1)) [32] ++ [32] ++ dW (nth x.s i - nth x.s (i - 1)) := by
  rw [wlG_step h1 h2, join_snoc _ _ _ (by simp [wlG])]
theorem join_pos {x : Gau} {i : Nat} (h1 : 1 ≤ i) (h2 : i < x.s.length) (h : 0 ≤ nth x.s i - nth x.s (i - 1)) : Lib.join (wlG x (i - 1)) [32] ++ ([32, 43] ++ Lib.decDigits (nth x.s i - nth x.s (i - 1)).toNat) = Lib.join (wlG x i) [32] := by
  rw [join_wl h1 h2]
  unfold dW
  rw [if_neg (by omega), itoa_dec h, List.append_assoc]; rfl
theorem join_neg {x : Gau} {i : Nat} (h1 : 1 ≤ i) (h2 : i < x.s.length) (h : nth x.s i - nth x.s (i - 1) < 0) : Lib.join (wlG x (i - 1)) [32] ++ ([32] ++ (45 :: Lib.decDigits (-(nth x.s i - nth x.s (i - 1))).toNat)) = Lib.join (wlG x i) [32] := by
  rw [join_wl h1 h2]
  unfold dW
  rw [if_pos h, itoa_minus h, List.append_assoc]
theorem gauP_join {x : Gau} {i : Nat} (h1 : x.s.length ≤ i) (h0 : 1 ≤ i) : gauP x = sealP (Lib.join (wlG x (i - 1)) [32] ++ [32]) := by
  rw [wlG_end (by omega)]; rfl
set_option maxHeartbeats 4000000 in
theorem rGauge_c (x : Gau) (w0 : World) (hs : Sl encI 1 w0 x.ao x.g x.ob x.s) (hsl : x.s.length ≤ 1000000) :
    CallsV Tryz.prog 90 [.agg #[.int .i64 x.st, .int .i64 x.hr, .slice x.ao x.s.length x.cp]] w0 (fun v w' => v = .bool (okGau x) ∧ Ext w0 w') := by
 refine f_n func90 ?_
 refine go ?_
 refine x_b fun bk2 w3 ebk2 sbk2 B4 u5 => ?_
 iterate 4 refine st1 ?_
 refine x_k1 (fun _ => False) [1] (fun (z9 : Bool) => [(20, .bool z9)]) (fun z9 w => (z9 = decide (¬ ((0 ≤ x.st ∧ x.st ≤ 99) ∧ (0 ≤ x.hr ∧ x.hr ≤ 100000) ∧ (1 ≤ x.s.length ∧ x.s.length ≤ 24))))) (fun K12 hK12 => ?_) ?_
 ·
  refine go ?_
  refine x_c func97 rfl rfl (rIn_c x.st 0 99 _) ?_
  rintro _ w16 ⟨rfl, u17⟩ zu17
  refine go ?_
  refine t_splitp 8 rfl (fun g8 => ?_) (fun g8 => ?_)
  ·
   refine go ?_
   exact hK12 true (by first | exact (decide_eq_false (by omega)).symm | exact (decide_eq_true (by omega)).symm | exact decide_eq_decide.2 (by omega))
  refine go ?_
  refine x_c func97 rfl rfl (rIn_c x.hr 0 100000 _) ?_
  rintro _ w21 ⟨rfl, u22⟩ zu22
  refine go ?_
  refine t_splitp 14 rfl (fun g14 => ?_) (fun g14 => ?_)
  ·
   refine go ?_
   exact hK12 true (by first | exact (decide_eq_false (by omega)).symm | exact (decide_eq_true (by omega)).symm | exact decide_eq_decide.2 (by omega))
  refine go ?_
  refine x_c func97 rfl rfl (rIn_c (x.s.length : Int) 1 24 _) ?_
  rintro _ w26 ⟨rfl, u27⟩ zu27
  refine go ?_
  exact hK12 (decide (¬ (1 ≤ (x.s.length : Int) ∧ (x.s.length : Int) ≤ 24))) (by first | exact (decide_eq_false (by omega)).symm | exact (decide_eq_true (by omega)).symm | exact decide_eq_decide.2 (by omega))
 rintro z9 w13 hz9 u14 zu14
 refine q_b (fun g20 => ?_) fun g20 => ?_
 ·
  have hzb : (¬ ((0 ≤ x.st ∧ x.st ≤ 99) ∧ (0 ≤ x.hr ∧ x.hr ≤ 100000) ∧ (1 ≤ x.s.length ∧ x.s.length ≤ 24))) := by rw [hz9] at g20; exact of_decide_eq_true g20
  refine go ?_
  refine f_1 results90 ?_
  exact ⟨congrArg Value.bool (by unfold okGau; exact (decide_eq_false (fun h => hzb ⟨h.1, h.2.1, h.2.2.1⟩)).symm), u_d⟩
 have hzb : ¬ (¬ ((0 ≤ x.st ∧ x.st ≤ 99) ∧ (0 ≤ x.hr ∧ x.hr ≤ 100000) ∧ (1 ≤ x.s.length ∧ x.s.length ≤ 24))) := by rw [hz9] at g20; exact of_decide_eq_false g20
 refine go ?_
 refine x_l1 (fun _ => False) [1] (fun (i : Nat) => [(3, .int .i64 (i : Int))]) (fun i w => (i ≤ x.s.length) ∧ (∀ j, j < i → 0 ≤ nth x.s j ∧ nth x.s j ≤ 10000)) (fun i => x.s.length - i) 0 ⟨(Nat.zero_le _), (fun j h => absurd h (Nat.not_lt_zero _))⟩ ?_
 rintro i w35 ⟨hi, hc⟩ u36 zu36 K34 hK34
 refine go ?_
 refine q_p (fun g25 => ?_) fun g25 => ?_
 ·
  refine go ?_
  refine g_i i (hs.keep ((((Upd.refl (fun _ => False) w0).nx u5).nx u14).nx u36) (fun _ h => h)) (fun _ => ?_)
  refine go ?_
  refine x_c func97 rfl rfl (rIn_c (nth x.s i) 0 10000 _) ?_
  rintro _ w44 ⟨rfl, u45⟩ zu45
  refine go ?_
  refine q_p (fun g34 => ?_) fun g34 => ?_
  ·
   refine go ?_
   refine f_1 results90 ?_
   exact ⟨congrArg Value.bool (by unfold okGau; exact (decide_eq_false (fun h => g34 (h.2.2.2 _ (nth_mem (by omega))))).symm), u_d⟩
  refine go ?_
  exact hK34 (i + 1) ⟨(by omega), (fun j hj => by
    rcases Nat.lt_or_ge j i with h | h
    · exact hc j h
    · rw [show j = i by omega]; exact Decidable.not_not.1 g34)⟩
 refine go ?_
 refine f_1 results90 ?_
 exact ⟨congrArg Value.bool (by
   unfold okGau
   have hz := Decidable.not_not.1 hzb
   exact (decide_eq_true ⟨hz.1, hz.2.1, hz.2.2, fun n hn => by
     obtain ⟨j, hj, rfl⟩ := List.mem_iff_getElem.1 hn
     have h9 := hc j (by omega)
     rw [nth_eq hj] at h9; exact h9⟩).symm), u_d⟩

theorem rAfter_c (x y : Gau) (w0 : World) (hx : okGau x = true) :
    CallsV Tryz.prog 91 [.agg #[.int .i64 x.st, .int .i64 x.hr, .slice x.ao x.s.length x.cp], .agg #[.int .i64 y.st, .int .i64 y.hr, .slice y.ao y.s.length y.cp]] w0 (fun v w' => v = .bool (decide (aftG x y)) ∧ Ext w0 w') := by
 have hx9 := okGau_iff hx
 obtain ⟨hx1, hx2, hx3, _⟩ := hx9
 refine f_n func91 ?_
 refine go ?_
 refine x_b fun bk2 w3 ebk2 sbk2 B4 u5 => ?_
 refine x_b fun bk7 w8 ebk7 sbk7 B9 u10 => ?_
 refine go ?_
 refine t_splitp 10 rfl (fun g10 => ?_) (fun g10 => ?_)
 ·
  refine go ?_
  refine f_1 results91 ?_
  exact ⟨congrArg Value.bool (by unfold aftG; first | exact (decide_eq_false (by omega)).symm | exact (decide_eq_true (by omega)).symm | exact decide_eq_decide.2 (by omega)), u_d⟩
 refine go ?_
 refine t_splitp 16 rfl (fun g16 => ?_) (fun g16 => ?_)
 ·
  refine go ?_
  refine f_1 results91 ?_
  exact ⟨congrArg Value.bool (by unfold aftG; first | exact (decide_eq_false (by omega)).symm | exact (decide_eq_true (by omega)).symm | exact decide_eq_decide.2 (by omega)), u_d⟩
 refine go ?_
 refine f_1 results91 ?_
 exact ⟨congrArg Value.bool (by unfold aftG; first | exact (decide_eq_false (by omega)).symm | exact (decide_eq_true (by omega)).symm | exact decide_eq_decide.2 (by omega)), u_d⟩

theorem numneg_c (n : Nat) (w0 : World) (hn : n < 10 ^ 12) (h0 : 0 < n) :
    CallsV Tryz.prog 126 [.int .i64 (-(n : Int))] w0 (fun v w' => v = .string (strB (45 :: Lib.decDigits n)) ∧ Ext w0 w') := by
 have hdl := dec_len 12 n hn
 refine f_n func126 ?_
 refine go ?_
 refine q_p (fun g4 => ?_) fun g4 => ?_
 ·
  refine go ?_
  refine t_neg rfl rfl rfl (by omega) (t_same 6 (v := .int .i64 (n : Int)) rfl (congrArg (Value.int .i64) (by omega)) ?_)
  refine x_c func126 rfl rfl (number_c n _ hn) ?_
  rintro _ w6 ⟨rfl, u7⟩ zu7
  refine t_bo (Bo.addS (by simp only [List.length_cons, List.length_nil]; omega)) rfl rfl rfl rfl ?_
  refine go ?_
  refine f_1 results126 ?_
  exact ⟨rfl, u_d⟩
 exact absurd (show -(n : Int) < 0 by omega) g4

set_option maxHeartbeats 4000000 in
theorem rTextG_c (x : Gau) (w0 : World) (hs : Sl encI 1 w0 x.ao x.g x.ob x.s) (hok : okGau x = true) :
    CallsV Tryz.prog 92 [.agg #[.int .i64 x.st, .int .i64 x.hr, .slice x.ao x.s.length x.cp]] w0 (fun v w' => v = .string (strB (gauP x)) ∧ Ext w0 w') := by
 have hx9 := okGau_iff hok
 obtain ⟨hx1, hx2, hx3, hx4⟩ := hx9
 have hx0 := hx4 _ (nth_mem (xs := x.s) (i := 0) (by omega))
 have hblt := hs.lt (show 0 < x.s.length by omega)
 have hd1 := decD_l6 (n := x.st) (by omega)
 have hd2 := decD_l6 (n := x.hr) (by omega)
 have hd3 := decD_l6 (n := nth x.s 0) (by omega)
 refine f_n func92 ?_
 refine go ?_
 refine x_b fun bk2 w3 ebk2 sbk2 B4 u5 => ?_
 refine go ?_
 refine c_drawnM follows (fun _ => False) (OTl [0, 2, 8, 10, 18, 20, 22, 24, 5, 6, 13, 14, 16, 27, 28, 30]) (by kernel_rfl) fun w8 u9 => ?_
 have zu9 := u9.size
 have E10 := Sc.mk (((Upd.refl (fun _ => False) w0).nx u5).nx u9)
 refine go ?_
 refine y_i 0 (hs.keep E10.u (fun _ h => h)) (fun _ => ?_)
 refine go ?_
 refine x_c func126 rfl rfl (by have h9 := number_c x.st.toNat w8 (by omega); rw [Int.toNat_of_nonneg (by omega)] at h9; exact h9) ?_
 rintro _ w13 ⟨rfl, u14⟩ zu14
 refine go ?_
 refine y_bo (Bo.addS (by simp only [List.length_cons, List.length_nil]; omega)) rfl rfl rfl rfl ?_
 refine go ?_
 refine x_c func126 rfl rfl (by have h9 := number_c x.hr.toNat w13 (by omega); rw [Int.toNat_of_nonneg (by omega)] at h9; exact h9) ?_
 rintro _ w18 ⟨rfl, u19⟩ zu19
 refine go ?_
 refine y_bo (Bo.addS (by simp only [List.length_append, List.length_cons, List.length_nil]; omega)) rfl rfl rfl rfl (y_bo (Bo.addS (by simp only [List.length_append, List.length_cons, List.length_nil]; omega)) rfl rfl rfl rfl ?_)
 refine go ?_
 refine x_c func126 rfl rfl (by have h9 := number_c (nth x.s 0).toNat w18 (by omega); rw [Int.toNat_of_nonneg (by omega)] at h9; exact h9) ?_
 rintro _ w23 ⟨rfl, u24⟩ zu24
 refine go ?_
 refine y_bo (Bo.addS (by simp only [List.length_append, List.length_cons, List.length_nil]; omega)) rfl rfl rfl rfl (y_same 20 (v := .string (strB (Lib.join (wlG x 0) [32]))) rfl (congrArg (fun z => Value.string (strB z)) (join_wl0 hok)) ?_)
 refine go ?_
 refine x_l1 (fun _ => False) [1] (fun (i : Nat) => [(3, .string (strB (Lib.join (wlG x (i - 1)) [32]))), (4, .int .i64 (i : Int))]) (fun i w => (1 ≤ i) ∧ (i ≤ x.s.length)) (fun i => x.s.length - i) 1 ⟨(Nat.le_refl _), (by omega)⟩ ?_
 rintro i w30 ⟨hi1, hi⟩ u31 zu31 K29 hK29
 have hjl := wlG_join_len hok (i - 1)
 refine go ?_
 refine q_p (fun g25 => ?_) fun g25 => ?_
 ·
  have hv1 := hx4 _ (nth_mem (xs := x.s) (i := i) (by omega))
  have hv2 := hx4 _ (nth_mem (xs := x.s) (i := i - 1) (by omega))
  refine go ?_
  refine c_drawnM follows (fun _ => False) (OTl [0, 2, 4, 6, 8, 10, 12, 14, 16, 18, 20, 22, 24]) (by kernel_rfl) fun w37 u38 => ?_
  have zu38 := u38.size
  have E39 := Sc.mk (((((E10.u.nx u14).nx u19).nx u24).nx u31).nx u38)
  refine go ?_
  refine y_i i (hs.keep E39.u (fun _ h => h)) (fun _ => ?_)
  refine go ?_
  refine y_i (i - 1) (hs.keep E39.u (fun _ h => h)) (fun _ => ?_)
  refine go ?_
  refine q_p (fun g41 => ?_) fun g41 => ?_
  ·
   have hjs := join_pos hi1 (show i < x.s.length by omega) (by omega)
   have hdl := decD_l6 (n := (nth x.s i - nth x.s (i - 1))) (by omega)
   refine go ?_
   refine x_c func126 rfl rfl (by have h9 := number_c ((nth x.s i) - (nth x.s (i - 1))).toNat w37 (by omega); rw [Int.toNat_of_nonneg (by omega)] at h9; exact h9) ?_
   rintro _ w44 ⟨rfl, u45⟩ zu45
   refine t_bo (Bo.addS (by simp only [List.length_cons, List.length_nil]; omega)) rfl rfl rfl rfl (t_bo (Bo.addS (by simp only [List.length_append, List.length_cons, List.length_nil]; omega)) rfl rfl rfl rfl (t_same 46 (v := .string (strB (Lib.join (wlG x i) [32]))) rfl (congrArg (fun z => Value.string (strB z)) (hjs)) ?_))
   refine go ?_
   exact hK29 (i + 1) ⟨(by omega), (by omega)⟩ (hs := by exact ⟨(congrArg (fun z => some (Value.string (strB z))) (by rw [Nat.add_sub_cancel])), rfl, rfl, trivial⟩)
  have hjs := join_neg hi1 (show i < x.s.length by omega) (by omega)
  have hdl := decD_l6 (n := -(nth x.s i - nth x.s (i - 1))) (by omega)
  refine go ?_
  refine x_c func126 rfl rfl (by have h9 := numneg_c (-(nth x.s i - nth x.s (i - 1))).toNat w37 (by omega) (by omega); rw [Int.toNat_of_nonneg (by omega), Int.neg_neg] at h9; exact h9) ?_
  rintro _ w49 ⟨rfl, u50⟩ zu50
  refine t_bo (Bo.addS (by simp only [List.length_cons, List.length_nil]; omega)) rfl rfl rfl rfl (t_bo (Bo.addS (by simp only [List.length_append, List.length_cons, List.length_nil]; omega)) rfl rfl rfl rfl (t_same 51 (v := .string (strB (Lib.join (wlG x i) [32]))) rfl (congrArg (fun z => Value.string (strB z)) (hjs)) ?_))
  refine go ?_
  exact hK29 (i + 1) ⟨(by omega), (by omega)⟩ (hs := by exact ⟨(congrArg (fun z => some (Value.string (strB z))) (by rw [Nat.add_sub_cancel])), rfl, rfl, trivial⟩)
 refine go ?_
 refine x_c func127 rfl rfl (line_c (Lib.join (wlG x (i - 1)) [32]) _ (by omega)) ?_
 rintro _ w55 ⟨rfl, u56⟩ zu56
 refine go ?_
 refine f_1 results92 ?_
 exact ⟨by rw [gauP_join (i := i) (by omega) hi1], u_d⟩

set_option maxHeartbeats 4000000 in
theorem rWriteG_c (l : List Gau) (al : Option Addr) (bl ol cl : Nat) (w0 : World) (hl : Sl encGau 3 w0 al bl ol l) (hss : SlG w0 l) (hll : l.length ≤ 1000000000) :
    CallsV Tryz.prog 46 [.slice al l.length cl] w0 (fun v w' => v = .tuple #[.string (strB (textG l).1), .int .i64 (textG l).2] ∧ Ext w0 w') := by
 refine f_n func46 ?_
 refine go ?_
 refine q_p (fun g8 => ?_) fun g8 => ?_
 ·
  refine go ?_
  refine f_ret2 (v1 := .string (strB ([]))) (v2 := .int .i64 5) results46 rfl rfl ?_
  exact ⟨by unfold textG; rw [if_pos (by omega)], u_d⟩
 refine go ?_
 refine x_l1 (fun _ => False) [0] (fun (i : Nat) => [(4, .string (strB ((l.take i).flatMap gauP))), (5, .int .i64 (i : Int))]) (fun i w => (i ≤ l.length) ∧ (chkGa none l = chkGa (prvG l i) (l.drop i)) ∧ (((l.take i).flatMap gauP).length ≤ 304 * i) ∧ (∀ j, j < i → okGau (nth l j) = true)) (fun i => l.length - i) 0 ⟨(Nat.zero_le _), rfl, (Nat.zero_le _), (fun j h => absurd h (Nat.not_lt_zero _))⟩ ?_
 rintro i w9 ⟨hi, hc, hln, hko⟩ u10 zu10 K8 hK8
 have E11 := Sc.mk ((Upd.refl (fun _ => False) w0).nx u10)
 refine go ?_
 refine q_p (fun g12 => ?_) fun g12 => ?_
 ·
  refine go ?_
  refine g_i i (hl.keep E11.u (fun _ h => h)) (fun _ => ?_)
  refine go ?_
  refine x_c func90 rfl rfl (rGauge_c (nth l i) _ ((hss _ (nth_mem (xs := l) (i := i) (by omega))).1.keep E11.u (fun _ h => h)) (hss _ (nth_mem (xs := l) (i := i) (by omega))).2.2) ?_
  rintro _ w19 ⟨rfl, u20⟩ zu20
  have E22 := Sc.mk (E11.u.nx u20)
  refine go ?_
  refine q_b (fun g20 => ?_) fun g20 => ?_
  ·
   have hx : okGau (nth l i) = false := by simpa using g20
   refine go ?_
   refine f_ret2 (v1 := .string (strB ([]))) (v2 := .int .i64 2) results46 rfl rfl ?_
   have h200 : ¬ 200 < l.length := by omega
   have he : chkGa none l = 2 := by rw [hc, drop_nth (by omega)]; unfold chkGa; rw [if_neg (by rw [hx]; decide)]
   exact ⟨by unfold textG; rw [if_neg h200, he, if_neg (by decide)], u_d⟩
  have hx : okGau (nth l i) = true := by simpa using g20
  have hpl := gauP_le hx
  iterate 3 refine st1 ?_
  refine x_k1 (fun _ => False) [0, 4, 5] (fun (z9 : Bool) => [(35, .bool z9)]) (fun z9 w => (z9 = decide (¬ aftO (prvG l i) (nth l i)))) (fun K29 hK29 => ?_) ?_
  ·
   refine c_drawnM follows (fun _ => False) (OTl [0, 2, 4, 6, 8, 10, 12, 14, 16, 18, 20, 22, 25, 26, 28]) (by kernel_rfl) fun w32 u33 => ?_
   have zu33 := u33.size
   have E34 := Sc.mk (E22.u.nx u33)
   refine go ?_
   refine y_splitp 23 rfl (fun g23 => ?_) (fun g23 => ?_)
   ·
    refine go ?_
    refine y_i (i - 1) (hl.keep E34.u (fun _ h => h)) (fun _ => ?_)
    refine go ?_
    refine y_i i (hl.keep E34.u (fun _ h => h)) (fun _ => ?_)
    refine go ?_
    refine x_c func91 rfl rfl (rAfter_c (nth l (i - 1)) (nth l i) _ (hko (i - 1) (by omega))) ?_
    rintro _ w38 ⟨rfl, u39⟩ zu39
    refine go ?_
    exact hK29 (decide (¬ (aftG (nth l (i - 1)) (nth l i)))) (by first | exact (decide_eq_false (fun h => h (show aftO (prvG l i) _ by rw [prvG_zero (by omega)]; trivial))).symm | exact decide_eq_decide.2 ⟨fun h => by rw [prvG_pos (by omega)]; exact h, fun h => by rw [prvG_pos (by omega)] at h; exact h⟩)
   refine go ?_
   exact hK29 false (by first | exact (decide_eq_false (fun h => h (show aftO (prvG l i) _ by rw [prvG_zero (by omega)]; trivial))).symm | exact decide_eq_decide.2 ⟨fun h => by rw [prvG_pos (by omega)]; exact h, fun h => by rw [prvG_pos (by omega)] at h; exact h⟩)
  rintro z9 w30 hz9 u31 zu31
  have E42 := Sc.mk (E22.u.nx u31)
  refine q_b (fun g35 => ?_) fun g35 => ?_
  ·
   have hzb : (¬ aftO (prvG l i) (nth l i)) := by rw [hz9] at g35; exact of_decide_eq_true g35
   refine go ?_
   refine f_ret2 (v1 := .string (strB ([]))) (v2 := .int .i64 6) results46 rfl rfl ?_
   have h200 : ¬ 200 < l.length := by omega
   have he : chkGa none l = 6 := by rw [hc, drop_nth (by omega)]; unfold chkGa; rw [if_pos hx, if_neg hzb]
   exact ⟨by unfold textG; rw [if_neg h200, he, if_neg (by decide)], u_d⟩
  have hzb : ¬ (¬ aftO (prvG l i) (nth l i)) := by rw [hz9] at g35; exact of_decide_eq_false g35
  refine go ?_
  refine g_i i (hl.keep E42.u (fun _ h => h)) (fun _ => ?_)
  refine go ?_
  refine x_c func92 rfl rfl (rTextG_c (nth l i) _ ((hss _ (nth_mem (xs := l) (i := i) (by omega))).1.keep E42.u (fun _ h => h)) hx) ?_
  rintro _ w46 ⟨rfl, u47⟩ zu47
  refine t_bo (Bo.addS (by omega)) rfl rfl rfl rfl ?_
  refine go ?_
  exact hK8 (i + 1) ⟨(by omega), (by rw [hc, drop_nth (by omega), chkGa_ok hx (Decidable.not_not.1 hzb), prvG_succ]), (by rw [take_nth (by omega), List.flatMap_append, show [(nth l i)].flatMap gauP = gauP (nth l i) by simp, List.length_append]; omega), (fun j hj => by
    rcases Nat.lt_or_ge j i with h | h
    · exact hko j h
    · rw [show j = i by omega]; exact hx)⟩ (hs := by exact ⟨(congrArg (fun z => some (Value.string (strB z))) (by rw [take_nth (by omega), List.flatMap_append, show [(nth l i)].flatMap gauP = gauP (nth l i) by simp])), rfl, rfl, trivial⟩)
 refine go ?_
 refine f_ret2 (v1 := .string (strB ((l.take i).flatMap gauP))) (v2 := .int .i64 0) results46 rfl rfl ?_
 have h200 : ¬ 200 < l.length := by omega
 have hil : l.take i = l := List.take_of_length_le (by omega)
 have he : chkGa none l = 0 := by rw [hc, List.drop_of_length_le (by omega)]; rfl
 exact ⟨by unfold textG; rw [if_neg h200, he, if_pos rfl, hil], u_d⟩

end Go.Proofs.YtjdcpnaocjddoaaGreatDoor
namespace Go.Proofs.YtjdcpnaocjddoaaGreatDoor
open Go Go.RowKit Go.Proofs.Tryz
set_option maxHeartbeats 4000000 in
theorem lines_c (s : List UInt8) (w0 : World) (hsl : s.length ≤ 1000000) (hpos : 0 < w0.heap.size) :
    CallsV Tryz.prog 83 [.string (strB s)] w0 (fun v w' => (∃ a9 g9 c9, v = .tuple #[.slice a9 (List.length (linesR s).1) c9, .int .i64 (linesR s).2] ∧ Acc encStr 1 9 w0.heap.size w' a9 g9 c9 (linesR s).1) ∧ Ext w0 w') := by
 refine f_n func83 ?_
 refine go ?_
 refine t_lenS underlying9 rfl rfl rfl rfl ?_
 refine go ?_
 refine q_p (fun g10 => ?_) fun g10 => ?_
 ·
  refine go ?_
  refine f_ret2 (v1 := .slice none 0 0) (v2 := .int .i64 5) results83 rfl rfl ?_
  have he : linesR s = ([], 5) := by unfold linesR; rw [if_pos (by omega)]
  exact ⟨⟨none, 0, 0, by rw [he]; rfl, by rw [he]; exact (Acc.nil _ _ _ _ _ hpos (by omega))⟩, u_d⟩
 iterate 3 refine st1 ?_
 refine x_k1 (fun _ => False) [0] (fun (z9 : Bool) => [(20, .bool z9)]) (fun z9 w => (z9 = decide (s ≠ [] ∧ nth s (s.length - 1) ≠ 10))) (fun K10 hK10 => ?_) ?_
 ·
  refine go ?_
  refine t_bo (Bo.neS s ([])) rfl rfl rfl rfl ?_
  refine go ?_
  refine t_splitp 13 rfl (fun g13 => ?_) (fun g13 => ?_)
  ·
   refine go ?_
   refine t_lenS underlying9 rfl rfl rfl rfl ?_
   refine go ?_
   refine t_idxS (s.length - 1) underlying9 rfl rfl rfl rfl (by have h9 := List.length_pos_iff.2 (by assumption : s ≠ []); omega) (by have h9 := List.length_pos_iff.2 (by assumption : s ≠ []); omega) ?_
   refine go ?_
   exact hK10 (decide (((nth s (s.length - 1)).toNat : Int) ≠ 10)) (by first | exact decide_eq_decide.2 ⟨fun h => ⟨by assumption, fun e => h (by rw [e]; rfl)⟩, fun h e => h.2 (UInt8.toNat_inj.1 (show (nth s (s.length - 1)).toNat = 10 by omega))⟩ | exact (decide_eq_false (fun h => by first | exact absurd h.1 (by assumption) | contradiction)).symm)
  refine go ?_
  exact hK10 false (by first | exact decide_eq_decide.2 ⟨fun h => ⟨by assumption, fun e => h (by rw [e]; rfl)⟩, fun h e => h.2 (UInt8.toNat_inj.1 (show (nth s (s.length - 1)).toNat = 10 by omega))⟩ | exact (decide_eq_false (fun h => by first | exact absurd h.1 (by assumption) | contradiction)).symm)
 rintro z9 w11 hz9 u12 zu12
 refine q_b (fun g20 => ?_) fun g20 => ?_
 ·
  have hzb : (s ≠ [] ∧ nth s (s.length - 1) ≠ 10) := by rw [hz9] at g20; exact of_decide_eq_true g20
  refine go ?_
  refine f_ret2 (v1 := .slice none 0 0) (v2 := .int .i64 120) results83 rfl rfl ?_
  have he : linesR s = ([], 120) := by unfold linesR; rw [if_neg (by omega), if_pos hzb]
  exact ⟨⟨none, 0, 0, by rw [he]; rfl, by rw [he]; exact (Acc.nil _ _ _ _ _ hpos (by omega))⟩, u_d⟩
 have hzb : ¬ (s ≠ [] ∧ nth s (s.length - 1) ≠ 10) := by rw [hz9] at g20; exact of_decide_eq_false g20
 refine go ?_
 refine x_l fun bk16 w17 ebk16 sbk16 B18 u19 => ?_
 refine go ?_
 refine x_l4 (fun i => i = bk16 ∨ w17.heap.size ≤ i) [0] (fun (i : Nat) (f : Nat) (ws : List (List UInt8)) (q : (Option Addr × Nat × Nat)) => [(4, .slice q.1 ws.length q.2.2), (6, .int .i64 (f : Int)), (7, .int .i64 (i : Int))]) (fun i f ws q w => (i ≤ s.length) ∧ (Acc encStr 1 9 bk16 w q.1 q.2.1 q.2.2 ws) ∧ (q.2.1 = bk16 ∨ w17.heap.size ≤ q.2.1) ∧ (PcsI 10 s ws f i) ∧ (ws.length ≤ i)) (fun i f ws q => s.length - i) 0 0 ([]) (some ⟨bk16, 0, none⟩, bk16, 0) ⟨(Nat.zero_le _), (Acc.ofBlk (xs := ([] : List (List UInt8))) encStr 1 (fun _ => rfl) B18 (Nat.le_refl _) (by decide)), (.inl rfl), (PcsI.nil _ _), (Nat.zero_le _)⟩ ?_
 rintro i f ws q w25 ⟨hi, hA, hqW, hW, hwl⟩ u26 zu26 K24 hK24
 have lt_q_2_1 := hA.lt
 have hgl := hA.lt
 have hf := hW.fi
 refine go ?_
 refine t_lenS underlying9 rfl rfl rfl rfl ?_
 refine go ?_
 refine q_p (fun g25 => ?_) fun g25 => ?_
 ·
  refine go ?_
  refine t_idxS i underlying9 rfl rfl rfl rfl rfl (by omega) ?_
  refine go ?_
  refine q_p (fun g31 => ?_) fun g31 => ?_
  ·
   refine go ?_
   refine t_subS f i underlying9 rfl rfl rfl (.inl ⟨rfl, rfl, by first | rfl | omega⟩) (.inl ⟨rfl, rfl, by first | rfl | omega⟩) (by omega) (by omega) ?_
   refine go ?_
   refine x_l fun bk33 w34 ebk33 sbk33 B35 u36 => ?_
   have D38 := (hA.keep u36 (fun _ h => h))
   refine t_append (z := .string (strB ([]))) (bytes := 16) (k := 1) (base := bk16) ((s.drop f).take (i - f)) underlying105 (by kernel_rfl) rfl (by decide) (fun _ => rfl) (by intro x; simp [encStr, Value.oneCell']) rfl rfl rfl rfl D38 B35 (by omega) (by omega) (by decide) (fun ao39 gb40 cp41 w42 A43 u44 gegb40 lngb40 => ?_)
   have zu44 := u44.size
   have lt_gb40 := A43.lt
   refine go ?_
   exact hK24 (i + 1) (i + 1) (ws ++ [(s.drop f).take (i - f)]) (ao39, gb40, cp41) ⟨(by omega), A43, (show gb40 = bk16 ∨ w17.heap.size ≤ gb40 by omega), (hW.cut (by omega) (UInt8.toNat_inj.1 (show (nth s i).toNat = 10 by omega))), (by rw [List.length_append]; simp only [List.length_cons, List.length_nil]; omega)⟩
  refine go ?_
  exact hK24 (i + 1) f ws q ⟨(by omega), hA, (show q.2.1 = bk16 ∨ w17.heap.size ≤ q.2.1 by omega), (hW.next (fun e => g31 (by rw [e]; rfl))), (by omega)⟩
 have hil : i = s.length := by omega
 rw [hil] at hW
 have hfin : ws = linesP s := by unfold linesP; rw [hW.last, List.dropLast_concat]
 refine go ?_
 refine q_p (fun g44 => ?_) fun g44 => ?_
 ·
  refine go ?_
  refine f_ret2 (v1 := .slice none 0 0) (v2 := .int .i64 5) results83 rfl rfl ?_
  have he : linesR s = ([], 5) := by unfold linesR; rw [if_neg (by omega), if_neg hzb, if_pos (by rw [← hfin]; omega)]
  exact ⟨⟨none, 0, 0, by rw [he]; rfl, by rw [he]; exact (Acc.nil _ _ _ _ _ hpos (by omega))⟩, u_d⟩
 refine go ?_
 refine f_ret2 (v1 := .slice q.1 ws.length q.2.2) (v2 := .int .i64 0) results83 rfl rfl ?_
 have he : linesR s = (ws, 0) := by unfold linesR; rw [if_neg (by omega), if_neg hzb, if_neg (by rw [← hfin]; omega), hfin]
 obtain ⟨gz, hz⟩ := Acc.lower (base' := w0.heap.size) hA (by omega) hpos
 exact ⟨⟨_, gz, _, by rw [he], by rw [he]; exact hz⟩, u_d⟩

end Go.Proofs.YtjdcpnaocjddoaaGreatDoor
namespace Go.Proofs.YtjdcpnaocjddoaaGreatDoor
open Go Go.RowKit Go.Proofs.Tryz
set_option maxHeartbeats 4000000 in
theorem digits_c (s : List UInt8) (w0 : World) (_hsl : s.length ≤ 1000000) :
    CallsV Tryz.prog 86 [.string (strB s)] w0 (fun v w' => v = .tuple #[.int .i64 (digV 6 0 s), .int .i64 ((digC 6 s : Nat) : Int)] ∧ Ext w0 w') := by
 refine f_n func86 ?_
 refine go ?_
 refine x_l2 (fun _ => False) [0] (fun (i : Nat) (v : Nat) => [(4, .int .i64 (v : Int)), (5, .int .i64 (i : Int))]) (fun i v w => (i ≤ s.length) ∧ (i ≤ 6) ∧ (v < 10 ^ i) ∧ (digV 6 0 s = digV (6 - i) (v : Int) (s.drop i)) ∧ (digC 6 s = digC (6 - i) (s.drop i) + i)) (fun i v => 6 - i) 0 0 ⟨(Nat.zero_le _), (Nat.zero_le _), (by decide), rfl, rfl⟩ ?_
 rintro i v w5 ⟨hi, hi6, hv, hdv, hdc⟩ u6 zu6 K4 hK4
 have hp6 : 10 ^ i ≤ 10 ^ 6 := Nat.pow_le_pow_right (by decide) hi6
 have hps : 10 ^ (i + 1) = 10 ^ i * 10 := Nat.pow_succ 10 i
 refine st1 ?_
 refine x_k1 (fun _ => False) [0, 4, 5] (fun (z9 : Bool) => [(25, .bool z9)]) (fun z9 w => (z9 = decide (i < s.length ∧ i < 6 ∧ isDg (nth s i) = true))) (fun K13 hK13 => ?_) ?_
 ·
  refine go ?_
  refine t_lenS underlying9 rfl rfl rfl rfl ?_
  refine go ?_
  refine t_splitp 10 rfl (fun g10 => ?_) (fun g10 => ?_)
  ·
   refine go ?_
   refine t_splitp 14 rfl (fun g14 => ?_) (fun g14 => ?_)
   ·
    refine go ?_
    refine t_idxS i underlying9 rfl rfl rfl rfl rfl (by omega) ?_
    refine go ?_
    refine t_splitp 20 rfl (fun g20 => ?_) (fun g20 => ?_)
    ·
     refine go ?_
     refine t_idxS i underlying9 rfl rfl rfl rfl rfl (by omega) ?_
     refine go ?_
     exact hK13 (decide (((nth s i).toNat : Int) ≤ 57)) (by first | exact (decide_eq_false (by omega)).symm | exact (decide_eq_false (fun h => by have h9 := of_decide_eq_true h.2.2; omega)).symm | exact decide_eq_decide.2 ⟨fun h => ⟨by omega, by omega, decide_eq_true ⟨by omega, by omega⟩⟩, fun h => (of_decide_eq_true h.2.2).2⟩)
    refine go ?_
    exact hK13 false (by first | exact (decide_eq_false (by omega)).symm | exact (decide_eq_false (fun h => by have h9 := of_decide_eq_true h.2.2; omega)).symm | exact decide_eq_decide.2 ⟨fun h => ⟨by omega, by omega, decide_eq_true ⟨by omega, by omega⟩⟩, fun h => (of_decide_eq_true h.2.2).2⟩)
   refine go ?_
   exact hK13 false (by first | exact (decide_eq_false (by omega)).symm | exact (decide_eq_false (fun h => by have h9 := of_decide_eq_true h.2.2; omega)).symm | exact decide_eq_decide.2 ⟨fun h => ⟨by omega, by omega, decide_eq_true ⟨by omega, by omega⟩⟩, fun h => (of_decide_eq_true h.2.2).2⟩)
  refine go ?_
  exact hK13 false (by first | exact (decide_eq_false (by omega)).symm | exact (decide_eq_false (fun h => by have h9 := of_decide_eq_true h.2.2; omega)).symm | exact decide_eq_decide.2 ⟨fun h => ⟨by omega, by omega, decide_eq_true ⟨by omega, by omega⟩⟩, fun h => (of_decide_eq_true h.2.2).2⟩)
 rintro z9 w14 hz9 u15 zu15
 refine q_b (fun g25 => ?_) fun g25 => ?_
 ·
  have hzb : (i < s.length ∧ i < 6 ∧ isDg (nth s i) = true) := by rw [hz9] at g25; exact of_decide_eq_true g25
  have hdg := of_decide_eq_true hzb.2.2
  refine go ?_
  refine t_idxS i underlying9 rfl rfl rfl rfl rfl (by omega) (t_bo (Bo.ari8 rfl (by omega)) rfl rfl rfl rfl (t_conv underlying5 underlying3 rfl rfl rfl (IntWalk.i64_in _ (by omega)) ?_))
  refine go ?_
  have hvi : ((10 * v + ((nth s i).toNat - 48) : Nat) : Int) = 10 * (v : Int) + (((nth s i).toNat : Int) - 48) := by omega
  exact hK4 (i + 1) (10 * v + ((nth s i).toNat - 48)) ⟨(by omega), (by omega), (by rw [hps]; omega), (by rw [hdv, show 6 - i = (6 - (i + 1)) + 1 by omega, digV_step hzb.1 hzb.2.2, hvi]), (by rw [hdc, show 6 - i = (6 - (i + 1)) + 1 by omega, digC_step hzb.1 hzb.2.2]; omega)⟩ (hs := by exact ⟨(congrArg (fun z => some (Value.int .i64 z)) (by omega)), rfl, rfl, trivial⟩)
 have hzb : ¬ (i < s.length ∧ i < 6 ∧ isDg (nth s i) = true) := by rw [hz9] at g25; exact of_decide_eq_false g25
 obtain ⟨hs1, hs2⟩ := dig_stop (n := 6 - i) (v := (v : Int)) (s := s) (i := i) (fun h => hzb ⟨h.1, by omega, h.2.2⟩)
 rw [hs1] at hdv
 rw [hs2] at hdc
 refine go ?_
 refine f_ret2 (v1 := .int .i64 (v : Int)) (v2 := .int .i64 (i : Int)) results86 rfl rfl ?_
 exact ⟨by rw [hdv, hdc, Nat.zero_add], u_d⟩

end Go.Proofs.YtjdcpnaocjddoaaGreatDoor
namespace Go.Proofs.YtjdcpnaocjddoaaGreatDoor
open Go Go.RowKit Go.Proofs.Tryz
theorem linesR_err {s : List UInt8} (h : (linesR s).2 ≠ 0) : linesR s = ([], (linesR s).2) := by
  unfold linesR at h ⊢
  split
  · rfl
  · split
    · rfl
    · split
      · rfl
      · rename_i h1 h2 h3
        rw [if_neg h1, if_neg h2, if_neg h3] at h
        exact absurd rfl h
theorem linesR_ok {s : List UInt8} (h : (linesR s).2 = 0) : (linesR s).1 = linesP s ∧ (linesP s).length ≤ 200 ∧ s.length ≤ 120000 := by
  unfold linesR at h ⊢
  split at h
  · cases h
  · split at h
    · cases h
    · split at h
      · cases h
      · rename_i h1 h2 h3
        rw [if_neg h1, if_neg h2, if_neg h3]
        exact ⟨rfl, by omega, by omega⟩
theorem lines_len {s : List UInt8} {k : Nat} (hk : k < (linesP s).length) : (nth (linesP s) k).length ≤ s.length := pcs_items 10 s _ (List.dropLast_subset _ (nth_mem hk))
end Go.Proofs.YtjdcpnaocjddoaaGreatDoor
