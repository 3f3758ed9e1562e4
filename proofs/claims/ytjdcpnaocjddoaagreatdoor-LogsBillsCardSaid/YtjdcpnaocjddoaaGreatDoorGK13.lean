/-
  Part 13 of the proof: contracts and plain laws. Conditions: none.
-/
import Derived.Lib.AtoiTie
import Derived.Lib.AtoiOr
import Derived.Lib.ItoaMem
import Derived.Lib.SplitLaws
import Derived.Lib.IndexBytes
import Derived.Test.YtjdcpnaocjddoaaGreatDoorGK12
namespace Go.Proofs.YtjdcpnaocjddoaaGreatDoor
open Go Go.RowKit Go.Proofs.Tryz
theorem line_c (s : List UInt8) (w0 : World) (hsl : s.length ≤ 90000) :
    CallsV Tryz.prog 127 [.string (strB s)] w0 (fun v w' => v = .string (strB (sealP (s ++ [32]))) ∧ Ext w0 w') := by
 have hwr := weighP_r (s ++ [32])
 have hsl9 : (s ++ [32]).length = s.length + 1 := by rw [List.length_append]; rfl
 refine f_n func127 ?_
 refine go ?_
 refine t_bo (Bo.addS (by simp only [List.length_cons, List.length_nil]; omega)) rfl rfl rfl rfl ?_
 refine go ?_
 refine t_toB underlying9 underlying25 underlying5 rfl rfl rfl (fun bk4 cp5 w6 ebk4 sbk4 B7 u8 => ?_)
 refine x_c func29 rfl rfl (rWeigh_c (s ++ [32]) (some ⟨bk4, 0, none⟩) bk4 0 cp5 673 _ (B7.sl) (by omega) (by decide)) ?_
 rintro _ w11 ⟨rfl, u12⟩ zu12
 refine go ?_
 refine t_quo rfl rfl rfl rfl (by omega) (by omega) (t_conv underlying3 underlying5 rfl rfl rfl (IntWalk.u8_in _ (by omega)) (t_bo (Bo.ari8 rfl (by omega)) rfl rfl rfl rfl (t_same 13 (v := .int .u8 ((UInt8.ofNat (97 + weighP (s ++ [32]) 673 / 26).toNat).toNat : Int)) rfl (congrArg (Value.int .u8) (by rw [u8_ofN (by omega)]; omega)) ?_)))
 refine go ?_
 refine t_rem rfl rfl rfl rfl (by omega) (by omega) (t_conv underlying3 underlying5 rfl rfl rfl (IntWalk.u8_in _ (by omega)) (t_bo (Bo.ari8 rfl (by omega)) rfl rfl rfl rfl (t_same 17 (v := .int .u8 ((UInt8.ofNat (97 + weighP (s ++ [32]) 673 % 26).toNat).toNat : Int)) rfl (congrArg (Value.int .u8) (by rw [u8_ofN (by omega)]; omega)) ?_)))
 refine x_l fun bk16 w17 ebk16 sbk16 B18 u19 => ?_
 refine t_same 18 (v := .slice (some ⟨bk16, 0, none⟩) 2 2) rfl rfl (t_ofB underlying25 underlying5 underlying9 rfl rfl rfl (Sl.ofBlk (enc := encY) (xs := [(UInt8.ofNat (97 + weighP (s ++ [32]) 673 / 26).toNat), (UInt8.ofNat (97 + weighP (s ++ [32]) 673 % 26).toNat)]) (fun _ => rfl) B18) rfl (t_bo (Bo.addS (by simp only [List.length_append, List.length_cons, List.length_nil]; omega)) rfl rfl rfl rfl (t_bo (Bo.addS (by simp only [List.length_append, List.length_cons, List.length_nil]; omega)) rfl rfl rfl rfl ?_)))
 refine go ?_
 refine f_1 results127 ?_
 exact ⟨congrArg (fun z => Value.string (strB z)) (by simp [sealP]), u_d⟩

/-- what Checked returns -/
def chkdP (s : List UInt8) : Int := if ¬ (3 ≤ s.length ∧ s.length ≤ 600) ∨ nth s (s.length - 3) ≠ 32 then 4 else if sealP (s.take (s.length - 3) ++ [32]) ≠ s ++ [10] then 121 else 0

set_option maxHeartbeats 4000000 in
theorem checked_c (s : List UInt8) (w0 : World) (hsl : s.length ≤ 1000000) :
    CallsV Tryz.prog 84 [.string (strB s)] w0 (fun v w' => v = .int .i64 (chkdP s) ∧ Ext w0 w') := by
 refine f_n func84 ?_
 iterate 6 refine st1 ?_
 refine x_k1 (fun _ => False) [0] (fun (z9 : Bool) => [(14, .bool z9)]) (fun z9 w => (z9 = decide (¬ (3 ≤ s.length ∧ s.length ≤ 600) ∨ nth s (s.length - 3) ≠ 32))) (fun K7 hK7 => ?_) ?_
 ·
  refine go ?_
  refine t_lenS underlying9 rfl rfl rfl rfl ?_
  refine x_c func97 rfl rfl (rIn_c (s.length : Int) 3 600 _) ?_
  rintro _ w11 ⟨rfl, u12⟩ zu12
  refine go ?_
  refine t_splitp 7 rfl (fun g7 => ?_) (fun g7 => ?_)
  ·
   refine go ?_
   exact hK7 true (by first | exact (decide_eq_true (.inl (by omega))).symm | exact decide_eq_decide.2 ⟨fun h => .inr (fun e => h (by rw [e]; rfl)), fun h e => h.elim (fun h => h (by omega)) (fun h => h (UInt8.toNat_inj.1 (show (nth s (s.length - 3)).toNat = 32 by omega)))⟩)
  refine go ?_
  refine t_lenS underlying9 rfl rfl rfl rfl ?_
  refine go ?_
  refine t_idxS (s.length - 3) underlying9 rfl rfl rfl rfl (by omega) (by omega) ?_
  refine go ?_
  exact hK7 (decide (((nth s (s.length - 3)).toNat : Int) ≠ 32)) (by first | exact (decide_eq_true (.inl (by omega))).symm | exact decide_eq_decide.2 ⟨fun h => .inr (fun e => h (by rw [e]; rfl)), fun h e => h.elim (fun h => h (by omega)) (fun h => h (UInt8.toNat_inj.1 (show (nth s (s.length - 3)).toNat = 32 by omega)))⟩)
 rintro z9 w8 hz9 u9 zu9
 refine q_b (fun g14 => ?_) fun g14 => ?_
 ·
  have hzb : (¬ (3 ≤ s.length ∧ s.length ≤ 600) ∨ nth s (s.length - 3) ≠ 32) := by rw [hz9] at g14; exact of_decide_eq_true g14
  refine go ?_
  refine f_1 results84 ?_
  exact ⟨by unfold chkdP; rw [if_pos hzb], u_d⟩
 have hzb : ¬ (¬ (3 ≤ s.length ∧ s.length ≤ 600) ∨ nth s (s.length - 3) ≠ 32) := by rw [hz9] at g14; exact of_decide_eq_false g14
 obtain ⟨h3, h32⟩ : (3 ≤ s.length ∧ s.length ≤ 600) ∧ nth s (s.length - 3) = 32 := ⟨Decidable.not_not.1 (fun h => hzb (.inl h)), Decidable.not_not.1 (fun h => hzb (.inr h))⟩
 refine go ?_
 refine t_lenS underlying9 rfl rfl rfl rfl ?_
 refine go ?_
 refine t_subS 0 (s.length - 3) underlying9 rfl rfl rfl (.inr ⟨rfl, rfl⟩) (k := .i64) (m := 0) (x1 := .tmp 0) (.inl ⟨rfl, rfl, by first | rfl | omega⟩) (by omega) (by omega) (t_same 19 (v := .string (strB (s.take (s.length - 3)))) rfl (congrArg (fun z => Value.string (strB z)) (by rw [List.drop_zero, Nat.sub_zero])) ?_)
 refine x_c func127 rfl rfl (line_c (s.take (s.length - 3)) _ (by simp only [List.length_take]; omega)) ?_
 rintro _ w20 ⟨rfl, u21⟩ zu21
 refine go ?_
 refine t_bo (Bo.addS (by simp only [List.length_cons, List.length_nil]; omega)) rfl rfl rfl rfl (t_bo (Bo.neS (sealP ((s.take (s.length - 3)) ++ [32])) (s ++ [10])) rfl rfl rfl rfl ?_)
 refine go ?_
 refine q_p (fun g23 => ?_) fun g23 => ?_
 ·
  refine go ?_
  refine f_1 results84 ?_
  exact ⟨by unfold chkdP; rw [if_neg hzb, if_pos g23], u_d⟩
 refine go ?_
 refine f_1 results84 ?_
 exact ⟨by unfold chkdP; rw [if_neg hzb, if_neg g23], u_d⟩

end Go.Proofs.YtjdcpnaocjddoaaGreatDoor
namespace Go.Proofs.YtjdcpnaocjddoaaGreatDoor
open Go Go.RowKit Go.Proofs.Tryz
theorem dec_small {n : Nat} (h : n < 10) : Lib.decDigits n = [UInt8.ofNat (48 + n)] := by rw [Lib.decDigits, dif_pos h]
theorem dec_big {n : Nat} (h : ¬ n < 10) : Lib.decDigits n = Lib.decDigits (n / 10) ++ [UInt8.ofNat (48 + n % 10)] := by rw [Lib.decDigits, dif_neg h]
theorem dec_len : ∀ (k n : Nat), n < 10 ^ k → (Lib.decDigits n).length ≤ k + 1
  | 0, n, h => by
    rw [dec_small (by omega)]; exact Nat.le_refl _
  | k + 1, n, h => by
    by_cases q : n < 10
    · rw [dec_small q]; simp
    · rw [dec_big q, List.length_append]
      have := dec_len k (n / 10) (by rw [Nat.pow_succ] at h; omega)
      simp only [List.length_cons, List.length_nil]; omega

set_option maxHeartbeats 4000000 in
theorem number_s (n : Nat) (w0 : World) (hn : n < 10 ^ 12) (IH : ∀ m : Nat, m < n → m < 10 ^ 12 → ∀ w : World, CallsV Tryz.prog 126 [.int .i64 (m : Int)] w fun v w' => v = .string (strB (Lib.decDigits m)) ∧ Ext w w') :
    CallsV Tryz.prog 126 [.int .i64 (n : Int)] w0 (fun v w' => v = .string (strB (Lib.decDigits n)) ∧ Ext w0 w') := by
 have hdl := dec_len 12 (n / 10) (by omega)
 refine f_n func126 ?_
 refine go ?_
 refine q_p (fun g10 => ?_) fun g10 => ?_
 ·
  refine go ?_
  refine t_conv underlying3 underlying5 rfl rfl rfl (IntWalk.u8_in _ (by omega)) (t_bo (Bo.ari8 rfl (by omega)) rfl rfl rfl rfl (t_same 13 (v := .int .u8 ((UInt8.ofNat (48 + n)).toNat : Int)) rfl (congrArg (Value.int .u8) (by rw [u8_ofN (by omega)]; omega)) ?_))
  refine x_l fun bk7 w8 ebk7 sbk7 B9 u10 => ?_
  refine t_same 14 (v := .slice (some ⟨bk7, 0, none⟩) 1 1) rfl rfl (t_ofB underlying25 underlying5 underlying9 rfl rfl rfl (Sl.ofBlk (enc := encY) (xs := [(UInt8.ofNat (48 + n))]) (fun _ => rfl) B9) rfl ?_)
  refine go ?_
  refine f_1 results126 ?_
  exact ⟨congrArg (fun z => Value.string (strB z)) (dec_small (by omega)).symm, u_d⟩
 refine go ?_
 refine c_drawnM follows (fun _ => False) (.look 0 (.look 1 (.look 3 (.look 4 (.look 5 (.look 6 (.act 2 (.act 7 (.act 8 (.look 9 (.look 10 .done)) .stop) .stop) (.act 7 (.act 2 (.act 8 (.look 9 (.look 10 .done)) .stop) (.act 8 (.act 2 (.look 9 (.look 10 .done)) .stop) .stop)) .stop)))))))) (by kernel_rfl) fun w13 u14 => ?_
 have zu14 := u14.size
 refine go ?_
 refine y_quo rfl rfl rfl rfl (by omega) (by omega) (y_same 17 (v := .int .i64 ((n / 10 : Nat) : Int)) rfl (congrArg (Value.int .i64) (by omega)) ?_)
 refine go ?_
 refine y_rem rfl rfl rfl rfl (by omega) (by omega) (y_conv underlying3 underlying5 rfl rfl rfl (IntWalk.u8_in _ (by omega)) (y_bo (Bo.ari8 rfl (by omega)) rfl rfl rfl rfl (y_same 22 (v := .int .u8 ((UInt8.ofNat (48 + n % 10)).toNat : Int)) rfl (congrArg (Value.int .u8) (by rw [u8_ofN (by omega)]; omega)) (s_or ?_ ?_))))
 ·
  refine go ?_
  refine x_c func126 rfl rfl (IH (n / 10) (by omega) (by omega) _) ?_
  rintro _ w17 ⟨rfl, u18⟩ zu18
  refine go ?_
  refine x_l fun bk21 w22 ebk21 sbk21 B23 u24 => ?_
  refine t_same 23 (v := .slice (some ⟨bk21, 0, none⟩) 1 1) rfl rfl ?_
  refine go ?_
  refine t_ofB underlying25 underlying5 underlying9 rfl rfl rfl (Sl.ofBlk (enc := encY) (xs := [(UInt8.ofNat (48 + n % 10))]) (fun _ => rfl) B23) rfl ?_
  refine go ?_
  refine y_bo (Bo.addS (by simp only [List.length_cons, List.length_nil]; omega)) rfl rfl rfl rfl ?_
  refine go ?_
  refine f_1 results126 ?_
  exact ⟨congrArg (fun z => Value.string (strB z)) (dec_big (by omega)).symm, u_d⟩
 refine go ?_
 refine x_l fun bk26 w27 ebk26 sbk26 B28 u29 => ?_
 refine t_same 23 (v := .slice (some ⟨bk26, 0, none⟩) 1 1) rfl rfl ?_
 refine go ?_
 refine s_or ?_ ?_
 ·
  refine go ?_
  refine x_c func126 rfl rfl (IH (n / 10) (by omega) (by omega) _) ?_
  rintro _ w32 ⟨rfl, u33⟩ zu33
  refine go ?_
  have B36 := (B28.kx u33)
  refine t_ofB underlying25 underlying5 underlying9 rfl rfl rfl (Sl.ofBlk (enc := encY) (xs := [(UInt8.ofNat (48 + n % 10))]) (fun _ => rfl) B36) rfl ?_
  refine go ?_
  refine y_bo (Bo.addS (by simp only [List.length_cons, List.length_nil]; omega)) rfl rfl rfl rfl ?_
  refine go ?_
  refine f_1 results126 ?_
  exact ⟨congrArg (fun z => Value.string (strB z)) (dec_big (by omega)).symm, u_d⟩
 refine go ?_
 refine t_ofB underlying25 underlying5 underlying9 rfl rfl rfl (Sl.ofBlk (enc := encY) (xs := [(UInt8.ofNat (48 + n % 10))]) (fun _ => rfl) B28) rfl ?_
 refine go ?_
 refine x_c func126 rfl rfl (IH (n / 10) (by omega) (by omega) _) ?_
 rintro _ w38 ⟨rfl, u39⟩ zu39
 refine go ?_
 refine y_bo (Bo.addS (by simp only [List.length_cons, List.length_nil]; omega)) rfl rfl rfl rfl ?_
 refine go ?_
 refine f_1 results126 ?_
 exact ⟨congrArg (fun z => Value.string (strB z)) (dec_big (by omega)).symm, u_d⟩

theorem number_c : ∀ (m : Nat) (w : World), m < 10 ^ 12 → CallsV Tryz.prog 126 [.int .i64 (m : Int)] w fun v w' => v = .string (strB (Lib.decDigits m)) ∧ Ext w w' := fun m => by
  induction m using Nat.strongRecOn with
  | ind n ih => exact fun w h => number_s n w h (fun m hm h9 w9 => ih m hm w9 h9)

end Go.Proofs.YtjdcpnaocjddoaaGreatDoor
namespace Go.Proofs.YtjdcpnaocjddoaaGreatDoor
open Go Go.RowKit Go.Proofs.Tryz
set_option maxHeartbeats 4000000 in
theorem rBill_c (x : Bil) (w0 : World) (hs : Sl encI 1 w0 x.ao x.g x.ob x.s) (hsl : x.s.length ≤ 1000000) :
    CallsV Tryz.prog 81 [.agg #[.int .i64 x.n, .int .i64 x.c, .int .i64 x.t, .int .i64 x.f, .int .i64 x.o, .slice x.ao x.s.length x.cp]] w0 (fun v w' => v = .bool (okBill x) ∧ Ext w0 w') := by
 refine f_n func81 ?_
 refine go ?_
 refine x_b fun bk2 w3 ebk2 sbk2 B4 u5 => ?_
 iterate 4 refine st1 ?_
 refine x_k1 (fun _ => False) [1] (fun (z9 : Bool) => [(44, .bool z9)]) (fun z9 w => (z9 = decide (¬ ((1 ≤ x.n ∧ x.n ≤ 9999) ∧ (0 ≤ x.c ∧ x.c ≤ 99) ∧ (1 ≤ x.t ∧ x.t ≤ 100000) ∧ ((0 ≤ x.f ∧ x.f ≤ 100000) ∧ (0 ≤ x.o ∧ x.o ≤ 100000)) ∧ x.f ≠ x.o ∧ x.s.length ≤ 10)))) (fun K12 hK12 => ?_) ?_
 ·
  refine go ?_
  refine x_c func97 rfl rfl (rIn_c x.n 1 9999 _) ?_
  rintro _ w16 ⟨rfl, u17⟩ zu17
  refine go ?_
  refine t_splitp 8 rfl (fun g8 => ?_) (fun g8 => ?_)
  ·
   refine go ?_
   exact hK12 true (by first | exact (decide_eq_false (by omega)).symm | exact (decide_eq_true (by omega)).symm | exact decide_eq_decide.2 (by omega))
  refine go ?_
  refine x_c func97 rfl rfl (rIn_c x.c 0 99 _) ?_
  rintro _ w21 ⟨rfl, u22⟩ zu22
  refine go ?_
  refine t_splitp 14 rfl (fun g14 => ?_) (fun g14 => ?_)
  ·
   refine go ?_
   exact hK12 true (by first | exact (decide_eq_false (by omega)).symm | exact (decide_eq_true (by omega)).symm | exact decide_eq_decide.2 (by omega))
  refine go ?_
  refine x_c func97 rfl rfl (rIn_c x.t 1 100000 _) ?_
  rintro _ w26 ⟨rfl, u27⟩ zu27
  refine go ?_
  refine t_splitp 20 rfl (fun g20 => ?_) (fun g20 => ?_)
  ·
   refine go ?_
   exact hK12 true (by first | exact (decide_eq_false (by omega)).symm | exact (decide_eq_true (by omega)).symm | exact decide_eq_decide.2 (by omega))
  refine go ?_
  refine x_c func97 rfl rfl (rIn_c x.f 0 100000 _) ?_
  rintro _ w31 ⟨rfl, u32⟩ zu32
  refine go ?_
  refine t_splitp 26 rfl (fun g26 => ?_) (fun g26 => ?_)
  ·
   refine go ?_
   exact hK12 true (by first | exact (decide_eq_false (by omega)).symm | exact (decide_eq_true (by omega)).symm | exact decide_eq_decide.2 (by omega))
  refine go ?_
  refine x_c func97 rfl rfl (rIn_c x.o 0 100000 _) ?_
  rintro _ w36 ⟨rfl, u37⟩ zu37
  refine go ?_
  refine t_splitp 32 rfl (fun g32 => ?_) (fun g32 => ?_)
  ·
   refine go ?_
   exact hK12 true (by first | exact (decide_eq_false (by omega)).symm | exact (decide_eq_true (by omega)).symm | exact decide_eq_decide.2 (by omega))
  refine go ?_
  refine t_splitp 39 rfl (fun g39 => ?_) (fun g39 => ?_)
  ·
   refine go ?_
   exact hK12 true (by first | exact (decide_eq_false (by omega)).symm | exact (decide_eq_true (by omega)).symm | exact decide_eq_decide.2 (by omega))
  refine go ?_
  exact hK12 (decide (10 < (x.s.length : Int))) (by first | exact (decide_eq_false (by omega)).symm | exact (decide_eq_true (by omega)).symm | exact decide_eq_decide.2 (by omega))
 rintro z9 w13 hz9 u14 zu14
 refine q_b (fun g44 => ?_) fun g44 => ?_
 ·
  have hzb : (¬ ((1 ≤ x.n ∧ x.n ≤ 9999) ∧ (0 ≤ x.c ∧ x.c ≤ 99) ∧ (1 ≤ x.t ∧ x.t ≤ 100000) ∧ ((0 ≤ x.f ∧ x.f ≤ 100000) ∧ (0 ≤ x.o ∧ x.o ≤ 100000)) ∧ x.f ≠ x.o ∧ x.s.length ≤ 10)) := by rw [hz9] at g44; exact of_decide_eq_true g44
  refine go ?_
  refine f_1 results81 ?_
  exact ⟨by unfold okBill; rw [decide_eq_false hzb, Bool.and_false], u_d⟩
 have hzb : ¬ (¬ ((1 ≤ x.n ∧ x.n ≤ 9999) ∧ (0 ≤ x.c ∧ x.c ≤ 99) ∧ (1 ≤ x.t ∧ x.t ≤ 100000) ∧ ((0 ≤ x.f ∧ x.f ≤ 100000) ∧ (0 ≤ x.o ∧ x.o ≤ 100000)) ∧ x.f ≠ x.o ∧ x.s.length ≤ 10)) := by rw [hz9] at g44; exact of_decide_eq_false g44
 refine go ?_
 refine x_l2 (fun _ => False) [1] (fun (i : Nat) (m : Int) => [(3, .int .i64 (i : Int))]) (fun i m w => (i ≤ x.s.length) ∧ (sealG m (x.s.drop i) = sealG 0 x.s) ∧ (0 ≤ m ∧ m ≤ 99999) ∧ ((i = 0 ∧ m = 0) ∨ (0 < i ∧ m = nth x.s (i - 1)))) (fun i m => x.s.length - i) 0 0 ⟨(Nat.zero_le _), rfl, (by decide), (.inl ⟨rfl, rfl⟩)⟩ ?_
 rintro i m w45 ⟨hi, hc, hm, hmp⟩ u46 zu46 K44 hK44
 refine go ?_
 refine q_p (fun g49 => ?_) fun g49 => ?_
 ·
  iterate 4 refine st1 ?_
  refine x_k1 (fun _ => False) [1, 3] (fun (z9 : Bool) => [(76, .bool z9)]) (fun z9 w => (z9 = decide (¬ (m + 1 ≤ (nth x.s i) ∧ (nth x.s i) ≤ 99999)))) (fun K55 hK55 => ?_) ?_
  ·
   refine c_drawnM follows (fun _ => False) (OTl [0, 2, 4, 6, 8, 11, 12, 14, 16, 18, 20, 22, 24, 26, 28, 30, 32, 34, 36, 38, 40, 42, 44, 46, 48]) (by kernel_rfl) fun w58 u59 => ?_
   have zu59 := u59.size
   have E60 := Sc.mk (((((Upd.refl (fun _ => False) w0).nx u5).nx u14).nx u46).nx u59)
   refine go ?_
   refine y_i i (hs.keep E60.u (fun _ h => h)) (fun _ => ?_)
   refine go ?_
   refine x_c func97 rfl rfl (rIn_c (nth x.s i) 1 99999 _) ?_
   rintro _ w63 ⟨rfl, u64⟩ zu64
   refine go ?_
   refine y_splitp 59 rfl (fun g59 => ?_) (fun g59 => ?_)
   ·
    refine go ?_
    exact hK55 true (by first | exact (decide_eq_false (by omega)).symm | exact (decide_eq_true (by omega)).symm | exact decide_eq_decide.2 (by omega))
   refine go ?_
   refine y_splitp 62 rfl (fun g62 => ?_) (fun g62 => ?_)
   ·
    refine go ?_
    refine y_i i (hs.keep E60.u (fun _ h => h)) (fun _ => ?_)
    refine go ?_
    refine y_i (i - 1) (hs.keep E60.u (fun _ h => h)) (fun _ => ?_)
    refine go ?_
    exact hK55 (decide ((nth x.s i) ≤ (nth x.s (i - 1)))) (by first | exact (decide_eq_false (by omega)).symm | exact (decide_eq_true (by omega)).symm | exact decide_eq_decide.2 (by omega))
   refine go ?_
   exact hK55 false (by first | exact (decide_eq_false (by omega)).symm | exact (decide_eq_true (by omega)).symm | exact decide_eq_decide.2 (by omega))
  rintro z9 w56 hz9 u57 zu57
  refine q_b (fun g76 => ?_) fun g76 => ?_
  ·
   have hzc : (¬ (m + 1 ≤ (nth x.s i) ∧ (nth x.s i) ≤ 99999)) := by rw [hz9] at g76; exact of_decide_eq_true g76
   refine go ?_
   refine f_1 results81 ?_
   have hS : sealG 0 x.s = false := by rw [← hc, drop_nth (by omega)]; unfold sealG; rw [if_neg hzc]
   exact ⟨by unfold okBill; rw [hS]; rfl, u_d⟩
  have hzc : ¬ (¬ (m + 1 ≤ (nth x.s i) ∧ (nth x.s i) ≤ 99999)) := by rw [hz9] at g76; exact of_decide_eq_false g76
  have h19 : m + 1 ≤ (nth x.s i) ∧ (nth x.s i) ≤ 99999 := Decidable.not_not.1 hzc
  refine go ?_
  exact hK44 (i + 1) (nth x.s i) ⟨(by omega), (by rw [drop_nth (by omega)] at hc; rw [← hc]; conv => rhs; unfold sealG; rw [if_pos h19]), (by omega), (.inr ⟨by omega, by rw [Nat.add_sub_cancel]⟩)⟩
 have hS : sealG 0 x.s = true := by rw [← hc, List.drop_of_length_le (by omega)]; rfl
 refine go ?_
 refine f_1 results81 ?_
 exact ⟨by unfold okBill; rw [hS, decide_eq_true (Decidable.not_not.1 hzb)]; rfl, u_d⟩

end Go.Proofs.YtjdcpnaocjddoaaGreatDoor
namespace Go.Proofs.YtjdcpnaocjddoaaGreatDoor
open Go Go.RowKit
/-! ### pieces, joined again -/
theorem nth_apL {α : Type} [Inhabited α] {a b : List α} {i : Nat} (h : i < a.length) : nth (a ++ b) i = nth a i := by unfold nth; rw [List.getD_eq_getElem?_getD, List.getElem?_append_left h, List.getD_eq_getElem?_getD]
theorem nth_ap0 {α : Type} [Inhabited α] {a b : List α} : nth (a ++ b) a.length = nth b 0 := by unfold nth; rw [List.getD_eq_getElem?_getD, List.getElem?_append_right (Nat.le_refl _), List.getD_eq_getElem?_getD, Nat.sub_self]
theorem join_two (x y : List UInt8) (r : List (List UInt8)) (sep : List UInt8) : Lib.join (x :: y :: r) sep = x ++ sep ++ Lib.join (y :: r) sep := by
  rw [Lib.join_cons, Lib.join_cons]; simp [Lib.joinTail]
theorem join_snoc (sep : List UInt8) : ∀ (ws : List (List UInt8)) (w : List UInt8), ws ≠ [] → Lib.join (ws ++ [w]) sep = Lib.join ws sep ++ sep ++ w
  | [], _, h => absurd rfl h
  | [x], w, _ => by
    show Lib.join [x, w] sep = _
    rw [join_two, Lib.join_one, Lib.join_one]
  | x :: y :: r, w, _ => by
    show Lib.join (x :: y :: (r ++ [w])) sep = _
    have ih := join_snoc sep (y :: r) w (by simp)
    rw [join_two, join_two, show y :: (r ++ [w]) = (y :: r) ++ [w] from rfl, ih]
    simp only [List.append_assoc]
theorem pcs_join (c : UInt8) : ∀ (ws : List (List UInt8)), ws ≠ [] → (∀ w ∈ ws, c ∉ w) → pcs c (Lib.join ws [c]) = ws
  | [], h, _ => absurd rfl h
  | [x], _, h => by
    rw [Lib.join_one]
    exact pcs_one c x fun k hk e => h x (List.mem_cons_self ..) (e ▸ nth_mem hk)
  | x :: y :: r, _, h => by
    rw [join_two]
    have ih := pcs_join c (y :: r) (by simp) fun w hw => h w (List.mem_cons_of_mem _ hw)
    rw [pcs_cut c x.length (x ++ [c] ++ Lib.join (y :: r) [c]) (by simp) (fun k hk e => h x (List.mem_cons_self ..) (by
      have e9 : nth (x ++ [c] ++ Lib.join (y :: r) [c]) k = nth x k := by rw [List.append_assoc]; exact nth_apL hk
      rw [e9] at e; exact e ▸ nth_mem hk)) (by rw [List.append_assoc, nth_ap0]; rfl)]
    rw [List.append_assoc, List.take_left', show x.length + 1 = (x ++ [c]).length by simp, ← List.append_assoc, List.drop_left', ih]
    · rfl
    · rfl
theorem join_pcs (c : UInt8) : ∀ (s : List UInt8), Lib.join (pcs c s) [c] = s
  | [] => rfl
  | x :: r => by
    have ih := join_pcs c r
    have hne := pcs_ne c r
    unfold pcs
    cases hp : pcs c r with
    | nil => exact absurd hp hne
    | cons y t =>
      rw [hp] at ih
      split
      · rename_i e
        rw [join_two, ih, e]; rfl
      · show Lib.join ((x :: y) :: t) [c] = _
        rw [Lib.join_cons] at ih ⊢
        rw [← ih]; rfl
theorem pcs_free (c : UInt8) : ∀ (s : List UInt8), ∀ w ∈ pcs c s, c ∉ w
  | [], w, hw => by
    rw [List.mem_singleton.1 (show w ∈ [[]] from hw)]; exact List.not_mem_nil
  | x :: r, w, hw => by
    have ih := pcs_free c r
    have hne := pcs_ne c r
    unfold pcs at hw
    cases hp : pcs c r with
    | nil => exact absurd hp hne
    | cons y t =>
      rw [hp] at ih
      split at hw
      · rcases List.mem_cons.1 hw with rfl | hw
        · exact List.not_mem_nil
        · rw [hp] at hw; exact ih w hw
      · rename_i e
        rw [hp] at hw
        rcases List.mem_cons.1 hw with rfl | hw
        · intro h
          rcases List.mem_cons.1 h with h | h
          · exact e h.symm
          · exact ih y (List.mem_cons_self ..) h
        · exact ih w (List.mem_cons_of_mem _ hw)
/-- text that ends with a letter: its pieces ahead of the last one, and the last one -/
theorem pcs_last (c : UInt8) (s : List UInt8) : ∃ ws w, pcs c s = ws ++ [w] ∧ c ∉ w ∧ (pcs c s).dropLast = ws ∧ (ws ≠ [] → s = Lib.join ws [c] ++ [c] ++ w) ∧ (ws = [] → s = w) := by
  have hne := pcs_ne c s
  have e := List.dropLast_concat_getLast hne
  refine ⟨(pcs c s).dropLast, (pcs c s).getLast hne, e.symm, pcs_free c s _ (List.getLast_mem hne), rfl, fun h => ?_, fun h => ?_⟩
  · have h9 := join_pcs c s
    rw [← e, join_snoc _ _ _ h] at h9
    exact h9.symm
  · have h9 := join_pcs c s
    rw [← e, h, List.nil_append, Lib.join_one] at h9
    exact h9.symm
theorem weighP_l (l : List UInt8) : (97 ≤ (97 + weighP l 673 / 26).toNat ∧ (97 + weighP l 673 / 26).toNat ≤ 122) ∧ (97 ≤ (97 + weighP l 673 % 26).toNat ∧ (97 + weighP l 673 % 26).toNat ≤ 122) := by
  have := weighP_r l
  omega
theorem letter_ne {n : Nat} (h : 97 ≤ n ∧ n ≤ 122) : UInt8.ofNat n ≠ 32 := fun e => by
  have h1 := congrArg UInt8.toNat e
  rw [UInt8.toNat_ofNat', Nat.mod_eq_of_lt (by omega)] at h1
  have h2 : (32 : UInt8).toNat = 32 := rfl
  omega
/-- a sealed text, without its line feed -/
theorem sealP_cut {t s : List UInt8} (h : sealP t = s ++ [10]) : ∃ a b : UInt8, a ≠ 32 ∧ b ≠ 32 ∧ s = t ++ [a, b] := by
  have hw := weighP_l t
  unfold sealP at h
  refine ⟨_, _, letter_ne hw.1, letter_ne hw.2, ?_⟩
  have h1 := (List.append_inj' h rfl).1
  rw [← h1]; simp
/-- both ways to check the letters of a line agree -/
theorem seal_same {s : List UInt8} (h3 : 3 ≤ s.length) (h32 : nth s (s.length - 3) = 32) : sealedP (pcs 32 s).dropLast = s ++ [10] ↔ sealP (s.take (s.length - 3) ++ [32]) = s ++ [10] := by
  have key : ∀ (t : List UInt8) (a b : UInt8), s = t ++ [a, b] → t.length = s.length - 2 := fun t a b e => by rw [e]; simp
  have hs3 : s.take (s.length - 2) = s.take (s.length - 3) ++ [32] := by
    rw [show s.length - 2 = (s.length - 3) + 1 by omega, take_nth (by omega), h32]
  obtain ⟨ws, w, e1, e2, e3, e4, e5⟩ := pcs_last 32 s
  constructor
  · intro h
    unfold sealedP at h
    obtain ⟨a, b, ha, hb, hs⟩ := sealP_cut h
    have e9 : Lib.join (pcs 32 s).dropLast [32] ++ [32] = s.take (s.length - 3) ++ [32] := by
      have hk := key _ a b hs
      generalize Lib.join (pcs 32 s).dropLast [32] ++ [32] = t at hs hk ⊢
      rw [← hs3, ← hk, hs, List.take_left' rfl]
    rw [← e9]; exact h
  · intro h
    obtain ⟨a, b, ha, hb, hs⟩ := sealP_cut h
    have hn : pcs 32 s = pcs 32 (s.take (s.length - 3)) ++ [[a, b]] := by
      have hj : s = Lib.join (pcs 32 (s.take (s.length - 3)) ++ [[a, b]]) [32] := by
        rw [join_snoc _ _ _ (pcs_ne _ _), join_pcs]; exact hs
      conv => lhs; rw [hj]
      refine pcs_join 32 _ (by simp) fun x hx => ?_
      rcases List.mem_append.1 hx with hx | hx
      · exact pcs_free 32 _ x hx
      · rw [List.mem_singleton.1 hx]
        intro h9
        rcases List.mem_cons.1 h9 with h9 | h9
        · exact ha h9.symm
        · exact hb (List.mem_singleton.1 h9).symm
    unfold sealedP
    rw [hn, List.dropLast_concat, join_pcs]; exact h
/-! ### digits -/
theorem isDg_iff {c : UInt8} : isDg c = true ↔ 48 ≤ c.toNat ∧ c.toNat ≤ 57 := by
  unfold isDg; rw [decide_eq_true_eq]; omega
theorem dgt_of {n : Nat} (h : n < 10) : (UInt8.ofNat (48 + n)).toNat = 48 + n := by
  rw [UInt8.toNat_ofNat', Nat.mod_eq_of_lt (by omega)]
theorem decD_small {n : Nat} (h : n < 10) : Lib.decDigits n = [UInt8.ofNat (48 + n)] := by rw [Lib.decDigits, dif_pos h]
theorem decD_big {n : Nat} (h : ¬ n < 10) : Lib.decDigits n = Lib.decDigits (n / 10) ++ [UInt8.ofNat (48 + n % 10)] := by rw [Lib.decDigits, dif_neg h]
theorem decD_dg (n : Nat) : ∀ c ∈ Lib.decDigits n, isDg c = true := by
  induction n using Nat.strongRecOn with
  | ind n ih =>
    intro c hc
    by_cases h : n < 10
    · rw [decD_small h] at hc
      rw [List.mem_singleton.1 hc, isDg_iff, dgt_of h]; omega
    · rw [decD_big h] at hc
      rcases List.mem_append.1 hc with hc | hc
      · exact ih (n / 10) (by omega) c hc
      · rw [List.mem_singleton.1 hc, isDg_iff, dgt_of (Nat.mod_lt _ (by decide))]; omega
theorem decD_free {n : Nat} {c : UInt8} (h : isDg c = false) : c ∉ Lib.decDigits n := fun hc => by rw [decD_dg n c hc] at h; cases h
theorem decD_len : ∀ (k n : Nat), n < 10 ^ (k + 1) → (Lib.decDigits n).length ≤ k + 1
  | 0, n, h => by
    rw [decD_small (by omega)]; exact Nat.le_refl _
  | k + 1, n, h => by
    by_cases q : n < 10
    · rw [decD_small q]; simp
    · rw [decD_big q, List.length_append]
      have := decD_len k (n / 10) (by rw [Nat.pow_succ] at h; omega)
      simp only [List.length_cons, List.length_nil]; omega
theorem decD_pos (n : Nat) : 0 < (Lib.decDigits n).length := by
  by_cases q : n < 10
  · rw [decD_small q]; exact Nat.one_pos
  · rw [decD_big q, List.length_append]; simp
def valD (v : Int) (l : List UInt8) : Int := l.foldl (fun v c => 10 * v + ((c.toNat : Int) - 48)) v
theorem valD_dec (n : Nat) : valD 0 (Lib.decDigits n) = n := by
  induction n using Nat.strongRecOn with
  | ind n ih =>
    by_cases h : n < 10
    · rw [decD_small h]
      show 10 * 0 + (((UInt8.ofNat (48 + n)).toNat : Int) - 48) = _
      rw [dgt_of h]; omega
    · rw [decD_big h]
      unfold valD
      rw [List.foldl_append]
      show 10 * valD 0 (Lib.decDigits (n / 10)) + (((UInt8.ofNat (48 + n % 10)).toNat : Int) - 48) = _
      rw [ih (n / 10) (by omega), dgt_of (Nat.mod_lt _ (by decide))]; omega
theorem dig_app : ∀ (l : List UInt8) (k : Nat) (v : Int) (r : List UInt8), (∀ c ∈ l, isDg c = true) → l.length ≤ k → (∀ c, r.head? = some c → isDg c = false) → digV k v (l ++ r) = valD v l ∧ digC k (l ++ r) = l.length
  | [], k, v, r, _, _, hr => by
    cases k with
    | zero => cases r <;> exact ⟨rfl, rfl⟩
    | succ k =>
      cases r with
      | nil => exact ⟨rfl, rfl⟩
      | cons c r =>
        have h := hr c rfl
        constructor
        · show (if _ then _ else _) = _
          rw [if_neg (by rw [h]; decide)]; rfl
        · show (if _ then _ else _) = _
          rw [if_neg (by rw [h]; decide)]; rfl
  | x :: l, k, v, r, hd, hk, hr => by
    cases k with
    | zero => simp at hk
    | succ k =>
      have h := hd x (List.mem_cons_self ..)
      have ih := dig_app l k (10 * v + ((x.toNat : Int) - 48)) r (fun c hc => hd c (List.mem_cons_of_mem _ hc)) (by simpa using hk) hr
      constructor
      · show (if isDg x = true then digV k (10 * v + ((x.toNat : Int) - 48)) (l ++ r) else _) = _
        rw [if_pos h, ih.1]; rfl
      · show (if isDg x = true then digC k (l ++ r) + 1 else _) = _
        rw [if_pos h, ih.2]; rfl
theorem dig_dec {n : Nat} (h : n < 1000000) (r : List UInt8) (hr : ∀ c, r.head? = some c → isDg c = false) : digV 6 0 (Lib.decDigits n ++ r) = n ∧ digC 6 (Lib.decDigits n ++ r) = (Lib.decDigits n).length := by
  have h1 := dig_app (Lib.decDigits n) 6 0 r (decD_dg n) (decD_len 5 n h) hr
  rw [valD_dec] at h1; exact h1
theorem dig_dec0 {n : Nat} (h : n < 1000000) : digV 6 0 (Lib.decDigits n) = n := by
  have h1 := (dig_dec h [] (fun c h => by cases h)).1
  rw [List.append_nil] at h1; exact h1
theorem decFrom_app : ∀ (l : List UInt8) (acc : Nat) (b : UInt8) (n d : Nat), Lib.decFrom acc l = some n → Lib.digitVal b = some d → Lib.decFrom acc (l ++ [b]) = some (n * 10 + d)
  | [], acc, b, n, d, h, hd => by
    have h : some acc = some n := h
    injection h with h
    subst h
    simp [Lib.decFrom, hd]
  | x :: l, acc, b, n, d, h, hd => by
    simp only [List.cons_append, Lib.decFrom] at h ⊢
    cases hx : Lib.digitVal x with
    | none => simp [hx] at h
    | some e =>
      simp only [hx] at h ⊢
      exact decFrom_app l _ b n d h hd
theorem decFrom_dec (n : Nat) : Lib.decFrom 0 (Lib.decDigits n) = some n := by
  induction n using Nat.strongRecOn with
  | ind n ih =>
    have hv : ∀ m, m < 10 → Lib.digitVal (UInt8.ofNat (48 + m)) = some m := fun m hm => by
      unfold Lib.digitVal
      rw [dgt_of hm, if_pos (by omega)]
      congr 1; omega
    by_cases h : n < 10
    · rw [decD_small h]
      unfold Lib.decFrom
      rw [hv n h]
      show Lib.decFrom (0 * 10 + n) [] = _
      rw [Nat.zero_mul, Nat.zero_add]; rfl
    · rw [decD_big h, decFrom_app _ _ _ _ _ (ih (n / 10) (by omega)) (hv _ (Nat.mod_lt _ (by decide)))]
      congr 1; omega
/-- the program's number of a text -/
def numP (s : List UInt8) : Int := Lib.atoiOr s (-1)
theorem numP_dec {n : Nat} (h : n < 1000000) : numP (Lib.decDigits n) = n := by
  have hl := decD_len 5 n h
  have hd := decD_dg n
  have hf := decFrom_dec n
  unfold numP Lib.atoiOr
  rw [Lib.atoiAll_short _ (by omega)]
  cases he : Lib.decDigits n with
  | nil => have := decD_pos n; rw [he] at this; cases this
  | cons c r =>
    rw [he] at hf hd
    have hc := isDg_iff.1 (hd c (List.mem_cons_self ..))
    have e1 : ¬ (c == 45) = true := fun e => by rw [beq_iff_eq.1 e] at hc; exact absurd hc (by decide)
    have e2 : ¬ (c == 43) = true := fun e => by rw [beq_iff_eq.1 e] at hc; exact absurd hc (by decide)
    have ea : Lib.atoi (c :: r) = some (n : Int) := by
      show (if (c == 45) = true then _ else if (c == 43) = true then _ else (Lib.decNat (c :: r)).map fun (m : Nat) => (m : Int)) = _
      rw [if_neg e1, if_neg e2]
      unfold Lib.decNat
      rw [if_neg (by simp), hf]; rfl
    rw [ea]; rfl
theorem itoa_dec {n : Int} (h : 0 ≤ n) : Lib.itoa n = Lib.decDigits n.toNat := by
  have h1 := Lib.itoa_nonneg n.toNat
  rw [Int.toNat_of_nonneg h] at h1; exact h1
/-! ### bills, read -/
def Bil.bare (x : Bil) : Bil := ⟨x.n, x.c, x.t, x.f, x.o, x.s, none, 0, 0, 0⟩
def bil0 : Bil := ⟨0, 0, 0, 0, 0, [], none, 0, 0, 0⟩
theorem okBill_bare (x : Bil) : okBill x.bare = okBill x := rfl
theorem billP_bare (x : Bil) : billP x.bare = billP x := rfl
def cutL (c : UInt8) (s : List UInt8) : List UInt8 := (pcs c s).headD []
def cutR (c : UInt8) (s : List UInt8) : List UInt8 := s.drop ((cutL c s).length + 1)
/-- what the program's reader makes of words -/
def parB (ws : List (List UInt8)) : Bil :=
  if ws.length ≠ 5 then bil0 else ⟨numP (nth ws 0), numP (nth ws 1), numP (nth ws 2), numP (cutL 62 (nth ws 3)), numP (cutR 62 (nth ws 3)), if nth ws 4 = [45] then [] else (pcs 44 (nth ws 4)).map numP, none, 0, 0, 0⟩
/-- seals, by the reference -/
def sealD (s : List UInt8) : List Int := if _h : s = [] then [] else (if 0 < digC 6 s then [digV 6 0 s] else []) ++ sealD (s.drop (digC 6 s + 1))
termination_by s.length
decreasing_by
  have := List.length_pos_iff.2 _h
  rw [List.length_drop]; omega
/-- what the reference makes of a line -/
def parR (s : List UInt8) : Bil :=
  if (pcs 32 s).length ≠ 6 then bil0 else
    ⟨digV 6 0 (nth (pcs 32 s) 0), digV 6 0 (nth (pcs 32 s) 1), digV 6 0 (nth (pcs 32 s) 2), digV 6 0 (nth (pcs 32 s) 3), digV 6 0 ((nth (pcs 32 s) 3).drop (min (digC 6 (nth (pcs 32 s) 3) + 1) (nth (pcs 32 s) 3).length)), sealD (nth (pcs 32 s) 4), none, 0, 0, 0⟩
def parL (s : List UInt8) : Bil := parB (pcs 32 s).dropLast
/-- a line, read by a parser -/
def lineB (p : List UInt8 → Bil) (s : List UInt8) : Bil × Int := if chkdP s ≠ 0 then (bil0, chkdP s) else if okBill (p s) = true ∧ billP (p s) = s ++ [10] then (p s, 0) else (bil0, 4)
def goB (L : List UInt8 → Bil × Int) : List Bil → List (List UInt8) → List Bil × Int × Int
  | acc, [] => (acc, 0, 0)
  | acc, s :: r => if (L s).2 ≠ 0 then ([], acc.length, (L s).2) else if 0 < acc.length ∧ ¬ (nth acc (acc.length - 1)).n < (L s).1.n then ([], acc.length, 6) else goB L (acc ++ [(L s).1]) r
def readB (L : List UInt8 → Bil × Int) (s : List UInt8) : List Bil × Int × Int := if (linesR s).2 ≠ 0 then ([], 0, (linesR s).2) else goB L [] (linesR s).1
theorem goB_bad {L : List UInt8 → Bil × Int} {acc : List Bil} {s : List UInt8} {r : List (List UInt8)} (h : (L s).2 ≠ 0) : goB L acc (s :: r) = ([], (acc.length : Int), (L s).2) := by
  show (if _ then _ else _) = _
  rw [if_pos h]
theorem goB_twice {L : List UInt8 → Bil × Int} {acc : List Bil} {s : List UInt8} {r : List (List UInt8)} (h : (L s).2 = 0) (h2 : 0 < acc.length ∧ ¬ (nth acc (acc.length - 1)).n < (L s).1.n) : goB L acc (s :: r) = ([], (acc.length : Int), 6) := by
  show (if _ then _ else _) = _
  rw [if_neg (by rw [h]; decide), if_pos h2]
theorem goB_next {L : List UInt8 → Bil × Int} {acc : List Bil} {s : List UInt8} {r : List (List UInt8)} (h : (L s).2 = 0) (h2 : ¬ (0 < acc.length ∧ ¬ (nth acc (acc.length - 1)).n < (L s).1.n)) : goB L acc (s :: r) = goB L (acc ++ [(L s).1]) r := by
  conv => lhs; unfold goB
  rw [if_neg (by rw [h]; decide), if_neg h2]
/-! ### the text of a valid bill is parsed as this bill -/
theorem sealG_rng : ∀ {l : List Int} {m : Int}, 0 ≤ m → sealG m l = true → ∀ n ∈ l, 0 ≤ n ∧ n < 1000000 := fun hm h n hn => by
  have := sealG_mem hm h n hn
  omega
theorem seals_pcs {l : List Int} (hl : ∀ n ∈ l, 0 ≤ n ∧ n < 1000000) (hne : l ≠ []) : pcs 44 (Lib.join (sealsP l) [44]) = l.map Lib.itoa ∧ Lib.join (sealsP l) [44] ≠ [45] := by
  have e : sealsP l = l.map Lib.itoa := by
    unfold sealsP
    rw [if_neg (fun h => hne (List.eq_nil_of_length_eq_zero h))]
  have hp : pcs 44 (Lib.join (sealsP l) [44]) = l.map Lib.itoa := by
    rw [e]
    refine pcs_join 44 _ (by simpa using hne) fun w hw => ?_
    obtain ⟨n, hn, rfl⟩ := List.mem_map.1 hw
    rw [itoa_dec (hl n hn).1]; exact decD_free (by decide)
  refine ⟨hp, fun h9 => ?_⟩
  rw [h9] at hp
  have h1 : pcs 44 [45] = [[45]] := by decide
  rw [h1] at hp
  cases l with
  | nil => exact hne rfl
  | cons n r =>
    rw [List.map_cons] at hp
    have h2 := (List.cons.inj hp).1
    have hn := hl n (List.mem_cons_self ..)
    rw [itoa_dec hn.1] at h2
    have h3 := decD_dg n.toNat 45 (by rw [← h2]; exact List.mem_singleton.2 rfl)
    revert h3; decide
theorem map_numP {l : List Int} (hl : ∀ n ∈ l, 0 ≤ n ∧ n < 1000000) : (l.map Lib.itoa).map numP = l := by
  rw [List.map_map]
  conv => rhs; rw [← List.map_id l]
  refine List.map_congr_left fun n hn => ?_
  have := hl n hn
  show numP (Lib.itoa n) = n
  rw [itoa_dec this.1, numP_dec (by omega), Int.toNat_of_nonneg this.1]
theorem num_itoa {n : Int} (h : 0 ≤ n ∧ n ≤ 100000) : numP (Lib.itoa n) = n := by
  rw [itoa_dec h.1, numP_dec (by omega), Int.toNat_of_nonneg h.1]
theorem cut_gt {a b : List UInt8} (h : (62 : UInt8) ∉ a) : cutL 62 (a ++ [62] ++ b) = a ∧ cutR 62 (a ++ [62] ++ b) = b := by
  have e : pcs 62 (a ++ [62] ++ b) = a :: pcs 62 b := by
    rw [pcs_cut 62 a.length (a ++ [62] ++ b) (by simp) (fun k hk e9 => h (by
      have e8 : nth (a ++ [62] ++ b) k = nth a k := by rw [List.append_assoc]; exact nth_apL hk
      rw [e8] at e9; exact e9 ▸ nth_mem hk)) (by rw [List.append_assoc, nth_ap0]; rfl)]
    rw [List.append_assoc, List.take_left', show a.length + 1 = (a ++ [62]).length by simp, ← List.append_assoc, List.drop_left']
    · rfl
    · rfl
  have e1 : cutL 62 (a ++ [62] ++ b) = a := by unfold cutL; rw [e]; rfl
  refine ⟨e1, ?_⟩
  unfold cutR
  rw [e1, show a.length + 1 = (a ++ [62]).length by simp, List.drop_left']
  rfl
/-- the words of a bill -/
def wrdB (x : Bil) : List (List UInt8) := [Lib.itoa x.n, Lib.itoa x.c, Lib.itoa x.t, Lib.itoa x.f ++ [62] ++ Lib.itoa x.o, Lib.join (sealsP x.s) [44]]
theorem parB_wrd {x : Bil} (h : okBill x = true) : parB (wrdB x) = x.bare := by
  obtain ⟨h1, h2, h3, h4, ⟨h5, h6⟩, _, _⟩ := okBill_iff h
  have hs := sealG_rng (by decide) h1
  unfold parB
  rw [if_neg (by simp [wrdB])]
  have hc := cut_gt (a := Lib.itoa x.f) (b := Lib.itoa x.o) (by rw [itoa_dec h5.1]; exact decD_free (by decide))
  have e0 : nth (wrdB x) 0 = Lib.itoa x.n := rfl
  have e1 : nth (wrdB x) 1 = Lib.itoa x.c := rfl
  have e2 : nth (wrdB x) 2 = Lib.itoa x.t := rfl
  have e3 : nth (wrdB x) 3 = Lib.itoa x.f ++ [62] ++ Lib.itoa x.o := rfl
  have e4 : nth (wrdB x) 4 = Lib.join (sealsP x.s) [44] := rfl
  rw [e0, e1, e2, e3, e4, hc.1, hc.2, num_itoa (by omega), num_itoa (by omega), num_itoa (by omega), num_itoa h5, num_itoa h6]
  have e5 : (if Lib.join (sealsP x.s) [44] = [45] then [] else (pcs 44 (Lib.join (sealsP x.s) [44])).map numP) = x.s := by
    by_cases hn : x.s = []
    · rw [hn]; rfl
    · obtain ⟨p1, p2⟩ := seals_pcs hs hn
      rw [if_neg p2, p1, map_numP hs]
  rw [e5]; rfl
theorem wrd_free {x : Bil} (h : okBill x = true) : ∀ w ∈ wrdB x, (32 : UInt8) ∉ w := by
  obtain ⟨h1, h2, h3, h4, ⟨h5, h6⟩, _, _⟩ := okBill_iff h
  have hs := sealG_rng (by decide) h1
  have hd : ∀ n : Int, 0 ≤ n → (32 : UInt8) ∉ Lib.itoa n := fun n hn => by rw [itoa_dec hn]; exact decD_free (by decide)
  intro w hw
  unfold wrdB at hw
  rcases List.mem_cons.1 hw with rfl | hw
  · exact hd _ (by omega)
  rcases List.mem_cons.1 hw with rfl | hw
  · exact hd _ (by omega)
  rcases List.mem_cons.1 hw with rfl | hw
  · exact hd _ (by omega)
  rcases List.mem_cons.1 hw with rfl | hw
  · intro h9
    rcases List.mem_append.1 h9 with h9 | h9
    · rcases List.mem_append.1 h9 with h9 | h9
      · exact hd _ (by omega) h9
      · revert h9; decide
    · exact hd _ (by omega) h9
  · rw [List.mem_singleton.1 hw]
    clear hw
    have hj : ∀ l : List (List UInt8), (∀ w ∈ l, (32 : UInt8) ∉ w) → (32 : UInt8) ∉ Lib.join l [44] := fun l => by
      induction l with
      | nil => intro _ h9; cases h9
      | cons y l ih =>
        intro hy
        cases l with
        | nil => rw [Lib.join_one]; exact hy y (List.mem_cons_self ..)
        | cons z l =>
          rw [join_two]
          intro h9
          rcases List.mem_append.1 h9 with h9 | h9
          · rcases List.mem_append.1 h9 with h9 | h9
            · exact hy y (List.mem_cons_self ..) h9
            · revert h9; decide
          · exact ih (fun w hw => hy w (List.mem_cons_of_mem _ hw)) h9
    refine hj _ fun w hw => ?_
    unfold sealsP at hw
    split at hw
    · rw [List.mem_singleton.1 hw]; decide
    · obtain ⟨n, hn, rfl⟩ := List.mem_map.1 hw
      exact hd n (hs n hn).1
/-- a line that is the text of a valid bill, in words -/
theorem line_words {x : Bil} {s : List UInt8} (h : okBill x = true) (hb : billP x = s ++ [10]) : ∃ a b : UInt8, pcs 32 s = wrdB x ++ [[a, b]] := by
  have e : sealP (Lib.join (wrdB x) [32] ++ [32]) = s ++ [10] := hb
  obtain ⟨a, b, ha, hb, hs⟩ := sealP_cut e
  refine ⟨a, b, ?_⟩
  have hj : s = Lib.join (wrdB x ++ [[a, b]]) [32] := by
    rw [join_snoc _ _ _ (by simp [wrdB])]; exact hs
  rw [hj]
  refine pcs_join 32 _ (by simp) fun w hw => ?_
  rcases List.mem_append.1 hw with hw | hw
  · exact wrd_free h w hw
  · rw [List.mem_singleton.1 hw]
    intro h9
    rcases List.mem_cons.1 h9 with h9 | h9
    · exact ha h9.symm
    · exact hb (List.mem_singleton.1 h9).symm
theorem parL_line {x : Bil} {s : List UInt8} (h : okBill x = true) (hb : billP x = s ++ [10]) : parL s = x.bare := by
  obtain ⟨a, b, e⟩ := line_words h hb
  unfold parL
  rw [e, List.dropLast_concat, parB_wrd h]
theorem sealD_nil : sealD [] = [] := by rw [sealD, dif_pos rfl]
theorem sealD_cons {s : List UInt8} (h : s ≠ []) : sealD s = (if 0 < digC 6 s then [digV 6 0 s] else []) ++ sealD (s.drop (digC 6 s + 1)) := by
  rw [sealD, dif_neg h]
theorem sealD_dash : sealD [45] = [] := by
  rw [sealD_cons (by simp)]
  have h : digC 6 [45] = 0 := by decide
  rw [h]
  exact sealD_nil
theorem sealD_join : ∀ {l : List Int}, (∀ n ∈ l, 0 ≤ n ∧ n < 1000000) → l ≠ [] → sealD (Lib.join (l.map Lib.itoa) [44]) = l
  | [], _, h => absurd rfl h
  | [n], hl, _ => by
    have hn := hl n (List.mem_cons_self ..)
    show sealD (Lib.join [Lib.itoa n] [44]) = _
    have hp := decD_pos n.toNat
    rw [Lib.join_one, itoa_dec hn.1, sealD_cons (fun e => by rw [e] at hp; cases hp)]
    have hd := dig_dec (n := n.toNat) (by omega) [] (fun c h => by cases h)
    rw [List.append_nil] at hd
    rw [hd.1, hd.2, if_pos hp, List.drop_of_length_le (by omega), sealD_nil, Int.toNat_of_nonneg hn.1]; rfl
  | n :: m :: r, hl, _ => by
    have hn := hl n (List.mem_cons_self ..)
    have ih := sealD_join (l := m :: r) (fun k hk => hl k (List.mem_cons_of_mem _ hk)) (by simp)
    show sealD (Lib.join (Lib.itoa n :: Lib.itoa m :: r.map Lib.itoa) [44]) = _
    have hp := decD_pos n.toNat
    rw [join_two, itoa_dec hn.1, List.append_assoc]
    have hd := dig_dec (n := n.toNat) (by omega) ([44] ++ Lib.join (Lib.itoa m :: r.map Lib.itoa) [44]) (fun c h => by
      have h : some (44 : UInt8) = some c := h
      injection h with h
      rw [← h]; decide)
    rw [sealD_cons (fun e => by have := congrArg List.length e; simp at this), hd.1, hd.2, if_pos hp, Int.toNat_of_nonneg hn.1]
    rw [show (Lib.decDigits n.toNat).length + 1 = (Lib.decDigits n.toNat ++ [44]).length by simp, ← List.append_assoc, List.drop_left' rfl]
    show [n] ++ sealD (Lib.join ((m :: r).map Lib.itoa) [44]) = _
    rw [ih]; rfl
theorem dig_itoa {n : Int} (h : 0 ≤ n ∧ n ≤ 100000) : digV 6 0 (Lib.itoa n) = n := by
  rw [itoa_dec h.1, dig_dec0 (by omega), Int.toNat_of_nonneg h.1]
theorem parR_line {x : Bil} {s : List UInt8} (h : okBill x = true) (hb : billP x = s ++ [10]) : parR s = x.bare := by
  obtain ⟨a, b, e⟩ := line_words h hb
  obtain ⟨h1, h2, h3, h4, ⟨h5, h6⟩, _, _⟩ := okBill_iff h
  have hs := sealG_rng (by decide) h1
  unfold parR
  rw [e, if_neg (by simp [wrdB])]
  have e0 : nth (wrdB x ++ [[a, b]]) 0 = Lib.itoa x.n := rfl
  have e1 : nth (wrdB x ++ [[a, b]]) 1 = Lib.itoa x.c := rfl
  have e2 : nth (wrdB x ++ [[a, b]]) 2 = Lib.itoa x.t := rfl
  have e3 : nth (wrdB x ++ [[a, b]]) 3 = Lib.itoa x.f ++ [62] ++ Lib.itoa x.o := rfl
  have e4 : nth (wrdB x ++ [[a, b]]) 4 = Lib.join (sealsP x.s) [44] := rfl
  rw [e0, e1, e2, e3, e4, dig_itoa (by omega), dig_itoa (by omega), dig_itoa (by omega)]
  have hd := dig_dec (n := x.f.toNat) (by omega) ([62] ++ Lib.itoa x.o) (fun c h => by
    have h : some (62 : UInt8) = some c := h
    injection h with h
    rw [← h]; decide)
  have e6 : Lib.itoa x.f ++ [62] ++ Lib.itoa x.o = Lib.decDigits x.f.toNat ++ ([62] ++ Lib.itoa x.o) := by rw [itoa_dec h5.1, List.append_assoc]
  rw [e6, hd.1, hd.2, Nat.min_eq_left (by simp), show (Lib.decDigits x.f.toNat).length + 1 = (Lib.decDigits x.f.toNat ++ [62]).length by simp, ← List.append_assoc, List.drop_left' rfl, dig_itoa h6, Int.toNat_of_nonneg h5.1]
  have e5 : sealD (Lib.join (sealsP x.s) [44]) = x.s := by
    by_cases hn : x.s = []
    · rw [hn]; exact sealD_dash
    · have e : sealsP x.s = x.s.map Lib.itoa := by
        unfold sealsP
        rw [if_neg (fun h => hn (List.eq_nil_of_length_eq_zero h))]
      rw [e, sealD_join hs hn]
  rw [e5]; rfl
theorem parB_bare (ws : List (List UInt8)) : (parB ws).bare = parB ws := by unfold parB; split <;> rfl
theorem parR_bare (s : List UInt8) : (parR s).bare = parR s := by unfold parR; split <;> rfl
/-- both parsers read each line alike -/
theorem lineB_same (s : List UInt8) : lineB parL s = lineB parR s := by
  unfold lineB
  split
  · rfl
  · by_cases h1 : okBill (parL s) = true ∧ billP (parL s) = s ++ [10]
    · have e : parR s = parL s := by rw [parR_line h1.1 h1.2]; exact parB_bare _
      rw [if_pos h1, e, if_pos h1]
    · rw [if_neg h1]
      by_cases h2 : okBill (parR s) = true ∧ billP (parR s) = s ++ [10]
      · have e : parL s = parR s := by rw [parL_line h2.1 h2.2, parR_bare]
        rw [e] at h1
        exact absurd h2 h1
      · rw [if_neg h2]
theorem readB_same (s : List UInt8) : readB (lineB parL) s = readB (lineB parR) s := by
  rw [show lineB parL = lineB parR from funext lineB_same]
theorem idx_spec (c : UInt8) : ∀ l : List UInt8, (Lib.indexByte l c = -1 ∧ ∀ k, k < l.length → nth l k ≠ c) ∨ ∃ i : Nat, Lib.indexByte l c = i ∧ i < l.length ∧ nth l i = c ∧ ∀ k, k < i → nth l k ≠ c
  | [] => .inl ⟨rfl, fun k h => absurd h (Nat.not_lt_zero _)⟩
  | b :: l => by
    unfold Lib.indexByte
    by_cases h : b = c
    · rw [if_pos (beq_iff_eq.2 h)]
      exact .inr ⟨0, rfl, Nat.succ_pos _, h, fun k hk => absurd hk (Nat.not_lt_zero _)⟩
    · rw [if_neg (fun e => h (beq_iff_eq.1 e))]
      rcases idx_spec c l with ⟨h1, h2⟩ | ⟨i, h1, h2, h3, h4⟩
      · rw [h1, if_pos (by decide)]
        refine .inl ⟨rfl, fun k hk => ?_⟩
        cases k with
        | zero => exact h
        | succ k => exact h2 k (by simpa using hk)
      · rw [h1, if_neg (fun e => by have := beq_iff_eq.1 e; omega)]
        refine .inr ⟨i + 1, by omega, Nat.succ_lt_succ h2, h3, fun k hk => ?_⟩
        cases k with
        | zero => exact h
        | succ k => exact h4 k (by omega)
/-- one step along the pieces: no c at all -/
theorem pcs_miss {c : UInt8} {l : List UInt8} (h : Lib.indexByte l c < 0) : pcs c l = [l] := by
  rcases idx_spec c l with ⟨_, h2⟩ | ⟨i, h1, _⟩
  · exact pcs_one c l h2
  · omega
/-- one step along the pieces: the first one ends at i -/
theorem pcs_hit {c : UInt8} {l : List UInt8} {i : Nat} (h : Lib.indexByte l c = i) : i < l.length ∧ nth l i = c ∧ pcs c l = l.take i :: pcs c (l.drop (i + 1)) := by
  rcases idx_spec c l with ⟨h1, _⟩ | ⟨j, h1, h2, h3, h4⟩
  · omega
  · have e : i = j := by omega
    subst e
    exact ⟨h2, h3, pcs_cut c i l h2 h4 h3⟩
theorem pcs_count (c : UInt8) : ∀ l : List UInt8, (pcs c l).length = l.count c + 1
  | [] => rfl
  | b :: l => by
    have ih := pcs_count c l
    unfold pcs
    by_cases h : b = c
    · rw [if_pos h, List.length_cons, ih, h, List.count_cons_self]
    · rw [if_neg h, List.length_cons, List.length_tail, ih, List.count_cons_of_ne h]; rfl
theorem linesP_count (s : List UInt8) : (linesP s).length = s.count 10 := by
  unfold linesP
  rw [List.length_dropLast, pcs_count, Nat.add_sub_cancel]
theorem splitK_pcs (c : UInt8) : ∀ (k : Nat) (s : List UInt8), s.count c = k → Lib.splitK [c] 0 k s = pcs c s
  | 0, s, h => by
    have h1 : ∀ j, j < s.length → nth s j ≠ c := fun j hj e => by
      have h2 := List.count_pos_iff.2 (e ▸ nth_mem hj : c ∈ s)
      omega
    rw [pcs_one c s h1]; rfl
  | k + 1, s, h => by
    have hm : c ∈ s := List.count_pos_iff.1 (by omega)
    unfold Lib.splitK
    rw [Lib.index_one]
    rcases idx_spec c s with ⟨h1, h2⟩ | ⟨i, h1, h2, h3, h4⟩
    · obtain ⟨j, hj, e⟩ := List.mem_iff_getElem.1 hm
      exact absurd (by rw [nth_eq hj]; exact e) (h2 j hj)
    · have hc : (s.drop (i + 1)).count c = k := by
        have e := pcs_count c s
        rw [(pcs_hit h1).2.2, List.length_cons, pcs_count] at e
        omega
      rw [h1, if_neg (fun e => by have := beq_iff_eq.1 e; omega), (pcs_hit h1).2.2, ← splitK_pcs c k _ hc]
      rfl

end Go.Proofs.YtjdcpnaocjddoaaGreatDoor
