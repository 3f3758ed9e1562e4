/-
  The reference: what is valid, and rosters. Conditions: none.
-/
import Derived.Test.YtagmodjadmecdaaGreatHA17
import Derived.Test.YtagmodjadmecdaaGreatHA18
namespace Go.Proofs.YtagmodjadmecdaaGreat
open Go Go.RowKit Tryz

theorem Acc.takeN {α : Type} {enc : α → List Value} {k : Nat} {e : TypeId} {base : Nat} {w : World} {ao : Option Addr} {g cap : Nat} {xs : List α} (hk : ∀ x, (enc x).length = k) (h : Acc enc k e base w ao g cap xs) (n : Nat) : Acc enc k e base w ao g cap (xs.take n) := by
  refine ⟨h.lt, ?_⟩
  rcases h.at_ with ⟨h1, h2, h3, h4⟩ | ⟨h1, h2, cur, h3, h4, h5, h6, h7⟩
  · exact .inl ⟨h1, by rw [h2]; simp, h3, h4⟩
  · refine .inr ⟨h1, h2, cur, h3, by rw [List.length_take]; omega, h5, h6, ?_⟩
    have h9 := congrArg (List.take ((xs.take n).length * k)) h7
    rw [List.take_take, Nat.min_eq_left (Nat.mul_le_mul_right k (by rw [List.length_take]; omega))] at h9
    have e9 : xs.flatMap enc = (xs.take n).flatMap enc ++ (xs.drop n).flatMap enc := by rw [← List.flatMap_append, List.take_append_drop]
    have e8 := flatMap_len hk (xs.take n)
    rw [h9, e9, List.take_append_of_le_length (by omega), List.take_of_length_le (by omega)]
theorem Acc.subTo0 {α : Type} {enc : α → List Value} {k j : Nat} {e : TypeId} {base : Nat} {w : World} {ao : Option Addr} {g cap : Nat} {xs : List α} (h : Acc enc k e base w ao g cap xs) : subAddr ao cap 0 j = ao := by
  unfold subAddr
  split
  · rfl
  · rcases h.at_ with ⟨h1, _⟩ | ⟨h1, _⟩
    · rw [h1]; rfl
    · rw [h1, Nat.zero_mul]; simp [addr_add]
theorem Sl.from_ {α : Type} [Inhabited α] {enc : α → List Value} {k : Nat} {w : World} {ao : Option Addr} {b o : Nat} {xs : List α} (h : Sl enc k w ao b o xs) (cap l : Nat) (hc : xs.length ≤ cap) : Sl enc k w (subAddr ao cap l k) b (o + l * k) (xs.drop l) := by
  have h9 := h.sub cap l xs.length hc
  rwa [List.take_of_length_le (by rw [List.length_drop]; omega)] at h9
theorem put_srt {s : Sp} {l : List Sp} {k : Nat} (h : Srt l) (hk : k ≤ l.length) (h1 : 0 < k → ¬ LtS s (nth l (k - 1))) (h2 : ∀ j, k ≤ j → j < l.length → LtS s (nth l j)) : Srt (l.take k ++ s :: l.drop k) := by
  have hs : ∀ {x y : Sp}, ¬ LtS y x → ¬ LtS x y → x = y := fun {x y} a b => by cases x; cases y; unfold LtS at a b; simp only [] at a b; simp only [Sp.mk.injEq]; omega
  unfold Srt
  rw [List.pairwise_append]
  refine ⟨h.sublist (List.take_sublist _ _), List.pairwise_cons.2 ⟨fun y hy => ?_, h.sublist (List.drop_sublist _ _)⟩, fun x hx y hy => ?_⟩
  · obtain ⟨j, hj, rfl⟩ := List.getElem_of_mem hy
    rw [List.getElem_drop, ← nth_eq]
    rw [List.length_drop] at hj
    have := h2 (k + j) (by omega) (by omega)
    unfold LtS at this ⊢; omega
  · obtain ⟨i, hi, rfl⟩ := List.getElem_of_mem hx
    rw [List.length_take] at hi
    rw [List.getElem_take, ← nth_eq]
    rcases List.mem_cons.1 hy with e | hy
    · subst e
      have h3 := h1 (by omega)
      rcases Nat.lt_or_ge i (k - 1) with q | q
      · have h4 := List.pairwise_iff_getElem.1 h i (k - 1) (by omega) (by omega) q
        rw [← nth_eq, ← nth_eq] at h4
        unfold LtS at h3 h4 ⊢; omega
      · rw [show i = k - 1 by omega]; exact h3
    · obtain ⟨j, hj, rfl⟩ := List.getElem_of_mem hy
      rw [List.length_drop] at hj
      rw [List.getElem_drop, ← nth_eq]
      have h4 := List.pairwise_iff_getElem.1 h i (k + j) (by omega) (by omega) (by omega)
      rwa [← nth_eq, ← nth_eq] at h4
theorem put_eq {s : Sp} {l out : List Sp} {k : Nat} (he : out = srtS l) (hk : k ≤ out.length) (h1 : ¬ (0 < k ∧ LtS s (nth out (k - 1)))) (h2 : ∀ j, k ≤ j → j < out.length → LtS s (nth out j)) : out.take k ++ ([s] ++ out.drop k) = srtS (l ++ [s]) := by
  refine srt_eq (put_srt (he ▸ srt_srt l) hk (fun h hc => h1 ⟨h, hc⟩) h2) ?_
  have e1 : (out.take k ++ s :: out.drop k).Perm (s :: out) := by
    have := (List.perm_middle (a := s) (l₁ := out.take k) (l₂ := out.drop k))
    rwa [List.take_append_drop] at this
  refine e1.trans ?_
  rw [he]
  exact ((srt_perm l).cons s).trans (List.perm_append_comm (l₁ := [s]))

theorem own53 : Own Tryz.prog 53 := ⟨Tryz.f53, func53, by kernel_rfl, by kernel_rfl⟩
theorem own13 : Own Tryz.prog 13 := ⟨Tryz.f13, func13, by kernel_rfl, by kernel_rfl⟩
theorem own97 : Own Tryz.prog 97 := ⟨Tryz.f97, func97, by kernel_rfl, by kernel_rfl⟩
theorem own69 : Own Tryz.prog 69 := ⟨Tryz.f69, func69, by kernel_rfl, by kernel_rfl⟩
theorem own54 : Own Tryz.prog 54 := ⟨Tryz.f54, func54, by kernel_rfl, by kernel_rfl⟩
theorem own55 : Own Tryz.prog 55 := ⟨Tryz.f55, func55, by kernel_rfl, by kernel_rfl⟩
theorem own16 : Own Tryz.prog 16 := ⟨Tryz.f16, func16, by kernel_rfl, by kernel_rfl⟩
theorem rin_c (n a b : Int) (w0 : World) :
    CallsV Tryz.prog 53 [.int .i64 n, .int .i64 a, .int .i64 b] w0 (fun v w' => v = .bool (decide (a ≤ n ∧ n ≤ b)) ∧ Ext w0 w') := by
 have E0 := Upd.refl (fun _ => False) w0
 refine f_enter (N := 15) func53 rfl rfl rfl (c_seq fun K1 hK1 => (c_region (t_assign rfl rfl rfl (t_nil' (hK1 _ _ (c_seq fun K2 hK2 => (c_region (t_move rfl rfl rfl (t_move rfl rfl rfl (t_cmp rfl rfl rfl rfl rfl (t_move rfl rfl rfl (t_splitp 10 rfl (fun g10 => ?_) (fun g10 => ?_)))))))))))))
 ·
  refine t_move rfl rfl rfl (t_move rfl rfl rfl (t_cmp rfl rfl rfl rfl rfl (t_pick_t rfl rfl rfl rfl (t_assign rfl rfl rfl (t_nil' (hK2 _ _ (c_ret (f_ret1 (v := .bool (decide (n ≤ b))) results53 rfl ?_))))))))
  exact ⟨congrArg Value.bool (by rw [Bool.eq_iff_iff]; simp <;> omega), E0⟩
 refine t_skip rfl rfl rfl (t_skip rfl rfl rfl (t_skip rfl rfl rfl (t_pick_f rfl rfl rfl rfl (t_assign rfl rfl rfl (t_nil' (hK2 _ _ (c_ret (f_ret1 (v := .bool false) results53 rfl ?_))))))))
 exact ⟨congrArg Value.bool (by rw [Bool.eq_iff_iff]; simp <;> omega), E0⟩

theorem rRules_c (r : Rul) (w0 : World) :
    CallsV Tryz.prog 13 [.agg #[.int .i64 r.rest, .int .i64 r.span, .int .i64 r.work, .int .i64 r.week, .int .i64 r.ww]] w0 (fun v w' => v = .bool (okRul r) ∧ Ext w0 w') := by
 refine f_enter (N := 26) func13 rfl rfl rfl (c_seq fun K1 hK1 => (c_region (t_box (cs := [.int .i64 r.rest, .int .i64 r.span, .int .i64 r.work, .int .i64 r.week, .int .i64 r.ww]) rfl rfl rfl rfl (fun bk2 w3 ebk2 sbk2 B4 u5 => ?_))))
 have zu5 := u5.size
 refine t_assign rfl rfl rfl (t_nil' (hK1 _ _ (c_seq fun K7 hK7 => (c_region (t_field underlying23 rfl sizeOf3 (0) rfl rfl rfl rfl (t_load isAgg3 rfl rfl rfl (B4.get rfl) (t_call own53 rfl rfl rfl rfl (rin_c r.rest 1 20160 _) (fun v8 w9 r11 => ?_))))))))
 obtain ⟨rfl, u10⟩ := r11
 have zu10 := u10.size
 have E12 := ((Upd.refl (fun _ => False) w0).nx u5).nx u10
 refine t_move rfl rfl rfl (t_splitp 6 rfl (fun g6 => ?_) (fun g6 => ?_))
 ·
  refine t_field underlying23 rfl sizeOf3 (1) rfl rfl rfl rfl ?_
  have B13 := (B4.kx u10)
  refine t_load isAgg3 rfl rfl rfl (B13.get rfl) (t_call own53 rfl rfl rfl rfl (rin_c r.span 1 20160 _) (fun v14 w15 r17 => ?_))
  obtain ⟨rfl, u16⟩ := r17
  have zu16 := u16.size
  have E18 := E12.nx u16
  refine t_pick_t rfl rfl rfl rfl (t_move rfl rfl rfl (t_splitp 11 rfl (fun g11 => ?_) (fun g11 => ?_)))
  ·
   refine t_field underlying23 rfl sizeOf3 (2) rfl rfl rfl rfl ?_
   have B19 := (B13.kx u16)
   refine t_load isAgg3 rfl rfl rfl (B19.get rfl) (t_call own53 rfl rfl rfl rfl (rin_c r.work 1 20160 _) (fun v20 w21 r23 => ?_))
   obtain ⟨rfl, u22⟩ := r23
   have zu22 := u22.size
   have E24 := E18.nx u22
   refine t_pick_t rfl rfl rfl rfl (t_move rfl rfl rfl (t_splitp 16 rfl (fun g16 => ?_) (fun g16 => ?_)))
   ·
    refine t_field underlying23 rfl sizeOf3 (3) rfl rfl rfl rfl ?_
    have B25 := (B19.kx u22)
    refine t_load isAgg3 rfl rfl rfl (B25.get rfl) (t_call own53 rfl rfl rfl rfl (rin_c r.week 1 20160 _) (fun v26 w27 r29 => ?_))
    obtain ⟨rfl, u28⟩ := r29
    have zu28 := u28.size
    have E30 := E24.nx u28
    refine t_pick_t rfl rfl rfl rfl (t_move rfl rfl rfl (t_splitp 21 rfl (fun g21 => ?_) (fun g21 => ?_)))
    ·
     refine t_field underlying23 rfl sizeOf3 (4) rfl rfl rfl rfl ?_
     have B31 := (B25.kx u28)
     refine t_load isAgg3 rfl rfl rfl (B31.get rfl) (t_call own53 rfl rfl rfl rfl (rin_c r.ww 1 20160 _) (fun v32 w33 r35 => ?_))
     obtain ⟨rfl, u34⟩ := r35
     have zu34 := u34.size
     refine t_pick_t rfl rfl rfl rfl (t_assign rfl rfl rfl (t_nil' (hK7 _ _ (c_ret (f_ret1 (v := .bool (decide (1 ≤ r.ww ∧ r.ww ≤ 20160))) results13 rfl ?_)))))
     exact ⟨congrArg Value.bool (by rw [Bool.eq_iff_iff]; simp [okRul] <;> omega), (E30.nx u34)⟩
    refine t_skip rfl rfl rfl (t_skip rfl rfl rfl (t_skip rfl rfl rfl (t_pick_f rfl rfl rfl rfl (t_assign rfl rfl rfl (t_nil' (hK7 _ _ (c_ret (f_ret1 (v := .bool false) results13 rfl ?_))))))))
    exact ⟨congrArg Value.bool (by rw [Bool.eq_iff_iff]; simp [okRul] <;> omega), E30⟩
   refine t_skip rfl rfl rfl (t_skip rfl rfl rfl (t_skip rfl rfl rfl (t_pick_f rfl rfl rfl rfl (t_move rfl rfl rfl (t_skip rfl rfl rfl (t_skip rfl rfl rfl (t_skip rfl rfl rfl (t_pick_f rfl rfl rfl rfl (t_assign rfl rfl rfl (t_nil' (hK7 _ _ (c_ret (f_ret1 (v := .bool false) results13 rfl ?_)))))))))))))
   exact ⟨congrArg Value.bool (by rw [Bool.eq_iff_iff]; simp [okRul] <;> omega), E24⟩
  refine t_skip rfl rfl rfl (t_skip rfl rfl rfl (t_skip rfl rfl rfl (t_pick_f rfl rfl rfl rfl (t_move rfl rfl rfl (t_skip rfl rfl rfl (t_skip rfl rfl rfl (t_skip rfl rfl rfl (t_pick_f rfl rfl rfl rfl (t_move rfl rfl rfl (t_skip rfl rfl rfl (t_skip rfl rfl rfl (t_skip rfl rfl rfl (t_pick_f rfl rfl rfl rfl (t_assign rfl rfl rfl (t_nil' (hK7 _ _ (c_ret (f_ret1 (v := .bool false) results13 rfl ?_))))))))))))))))))
  exact ⟨congrArg Value.bool (by rw [Bool.eq_iff_iff]; simp [okRul] <;> omega), E18⟩
 refine t_skip rfl rfl rfl (t_skip rfl rfl rfl (t_skip rfl rfl rfl (t_pick_f rfl rfl rfl rfl (t_move rfl rfl rfl (t_skip rfl rfl rfl (t_skip rfl rfl rfl (t_skip rfl rfl rfl (t_pick_f rfl rfl rfl rfl (t_move rfl rfl rfl (t_skip rfl rfl rfl (t_skip rfl rfl rfl (t_skip rfl rfl rfl (t_pick_f rfl rfl rfl rfl (t_move rfl rfl rfl (t_skip rfl rfl rfl (t_skip rfl rfl rfl (t_skip rfl rfl rfl (t_pick_f rfl rfl rfl rfl (t_assign rfl rfl rfl (t_nil' (hK7 _ _ (c_ret (f_ret1 (v := .bool false) results13 rfl ?_)))))))))))))))))))))))
 exact ⟨congrArg Value.bool (by rw [Bool.eq_iff_iff]; simp [okRul] <;> omega), E12⟩

theorem rbounds_c (a b : Int) (w0 : World) :
    CallsV Tryz.prog 97 [.agg #[.int .i64 a, .int .i64 b]] w0 (fun v w' => v = .bool (decide (0 ≤ a ∧ a ≤ b ∧ b ≤ 20160)) ∧ Ext w0 w') := by
 refine f_enter (N := 18) func97 rfl rfl rfl (c_seq fun K1 hK1 => (c_region (t_box (cs := [.int .i64 a, .int .i64 b]) rfl rfl rfl rfl (fun bk2 w3 ebk2 sbk2 B4 u5 => ?_))))
 have zu5 := u5.size
 have E6 := (Upd.refl (fun _ => False) w0).nx u5
 refine t_assign rfl rfl rfl (t_nil' (hK1 _ _ (c_seq fun K7 hK7 => (c_region (t_field underlying35 rfl sizeOf3 (0) rfl rfl rfl rfl (t_load isAgg3 rfl rfl rfl (B4.get rfl) (t_cmp rfl rfl rfl rfl rfl (t_move rfl rfl rfl (t_splitp 6 rfl (fun g6 => ?_) (fun g6 => ?_))))))))))
 ·
  refine t_field underlying35 rfl sizeOf3 (0) rfl rfl rfl rfl (t_load isAgg3 rfl rfl rfl (B4.get rfl) (t_field underlying35 rfl sizeOf3 (1) rfl rfl rfl rfl (t_load isAgg3 rfl rfl rfl (B4.get rfl) (t_cmp rfl rfl rfl rfl rfl (t_pick_t rfl rfl rfl rfl (t_move rfl rfl rfl (t_splitp 13 rfl (fun g13 => ?_) (fun g13 => ?_))))))))
  ·
   refine t_field underlying35 rfl sizeOf3 (1) rfl rfl rfl rfl (t_load isAgg3 rfl rfl rfl (B4.get rfl) (t_cmp rfl rfl rfl rfl rfl (t_pick_t rfl rfl rfl rfl (t_assign rfl rfl rfl (t_nil' (hK7 _ _ (c_ret (f_ret1 (v := .bool (decide (b ≤ 20160))) results97 rfl ?_))))))))
   exact ⟨congrArg Value.bool (by rw [Bool.eq_iff_iff]; simp <;> omega), E6⟩
  refine t_skip rfl rfl rfl (t_skip rfl rfl rfl (t_skip rfl rfl rfl (t_pick_f rfl rfl rfl rfl (t_assign rfl rfl rfl (t_nil' (hK7 _ _ (c_ret (f_ret1 (v := .bool false) results97 rfl ?_))))))))
  exact ⟨congrArg Value.bool (by rw [Bool.eq_iff_iff]; simp <;> omega), E6⟩
 refine t_skip rfl rfl rfl (t_skip rfl rfl rfl (t_skip rfl rfl rfl (t_skip rfl rfl rfl (t_skip rfl rfl rfl (t_pick_f rfl rfl rfl rfl (t_move rfl rfl rfl (t_skip rfl rfl rfl (t_skip rfl rfl rfl (t_skip rfl rfl rfl (t_pick_f rfl rfl rfl rfl (t_assign rfl rfl rfl (t_nil' (hK7 _ _ (c_ret (f_ret1 (v := .bool false) results97 rfl ?_)))))))))))))))
 exact ⟨congrArg Value.bool (by rw [Bool.eq_iff_iff]; simp <;> omega), E6⟩

theorem rDuty_c (d : Dty) (w0 : World) :
    CallsV Tryz.prog 69 [.agg #[.int .i64 d.bl, .int .i64 d.bh, .int .i64 d.el, .int .i64 d.eh]] w0 (fun v w' => v = .bool (okDty d) ∧ Ext w0 w') := by
 refine f_enter (N := 20) func69 rfl rfl rfl (c_seq fun K1 hK1 => (c_region (t_box (cs := [.int .i64 d.bl, .int .i64 d.bh, .int .i64 d.el, .int .i64 d.eh]) rfl rfl rfl rfl (fun bk2 w3 ebk2 sbk2 B4 u5 => ?_))))
 have zu5 := u5.size
 refine t_assign rfl rfl rfl (t_nil' (hK1 _ _ (c_seq fun K7 hK7 => (c_region (t_field underlying37 rfl sizeOf35 (0) rfl rfl rfl rfl (t_loadN (vs := [.int .i64 d.bl, .int .i64 d.bh]) isAgg35 sizeOf35 rfl rfl rfl (B4.at.sub 0 2) rfl (t_call own97 rfl rfl rfl rfl (rbounds_c d.bl d.bh _) (fun v8 w9 r11 => ?_))))))))
 obtain ⟨rfl, u10⟩ := r11
 have zu10 := u10.size
 have E12 := ((Upd.refl (fun _ => False) w0).nx u5).nx u10
 refine t_move rfl rfl rfl (t_splitp 6 rfl (fun g6 => ?_) (fun g6 => ?_))
 ·
  refine t_field underlying37 rfl sizeOf35 (2) rfl rfl rfl rfl ?_
  have B13 := (B4.kx u10)
  refine t_loadN (vs := [.int .i64 d.el, .int .i64 d.eh]) isAgg35 sizeOf35 rfl rfl rfl (B13.at.sub 2 2) rfl (t_call own97 rfl rfl rfl rfl (rbounds_c d.el d.eh _) (fun v14 w15 r17 => ?_))
  obtain ⟨rfl, u16⟩ := r17
  have zu16 := u16.size
  have E18 := E12.nx u16
  refine t_pick_t rfl rfl rfl rfl (t_move rfl rfl rfl (t_splitp 11 rfl (fun g11 => ?_) (fun g11 => ?_)))
  ·
   refine t_field underlying37 rfl sizeOf35 (0) rfl rfl rfl rfl (t_field underlying35 rfl sizeOf3 (1) rfl rfl rfl rfl ?_)
   have B19 := (B13.kx u16)
   refine t_load isAgg3 rfl rfl rfl (B19.get rfl) (t_field underlying37 rfl sizeOf35 (2) rfl rfl rfl rfl (t_field underlying35 rfl sizeOf3 (2) rfl rfl rfl rfl (t_load isAgg3 rfl rfl rfl (B19.get rfl) (t_cmp rfl rfl rfl rfl rfl (t_pick_t rfl rfl rfl rfl (t_assign rfl rfl rfl (t_nil' (hK7 _ _ (c_ret (f_ret1 (v := .bool (decide (d.bh ≤ d.el))) results69 rfl ?_))))))))))
   exact ⟨congrArg Value.bool (by rw [Bool.eq_iff_iff]; simp [okDty] <;> omega), E18⟩
  refine t_skip rfl rfl rfl (t_skip rfl rfl rfl (t_skip rfl rfl rfl (t_skip rfl rfl rfl (t_skip rfl rfl rfl (t_skip rfl rfl rfl (t_skip rfl rfl rfl (t_pick_f rfl rfl rfl rfl (t_assign rfl rfl rfl (t_nil' (hK7 _ _ (c_ret (f_ret1 (v := .bool false) results69 rfl ?_))))))))))))
  exact ⟨congrArg Value.bool (by rw [Bool.eq_iff_iff]; simp [okDty] <;> omega), E18⟩
 refine t_skip rfl rfl rfl (t_skip rfl rfl rfl (t_skip rfl rfl rfl (t_pick_f rfl rfl rfl rfl (t_move rfl rfl rfl (t_skip rfl rfl rfl (t_skip rfl rfl rfl (t_skip rfl rfl rfl (t_skip rfl rfl rfl (t_skip rfl rfl rfl (t_skip rfl rfl rfl (t_skip rfl rfl rfl (t_pick_f rfl rfl rfl rfl (t_assign rfl rfl rfl (t_nil' (hK7 _ _ (c_ret (f_ret1 (v := .bool false) results69 rfl ?_)))))))))))))))))
 exact ⟨congrArg Value.bool (by rw [Bool.eq_iff_iff]; simp [okDty] <;> omega), E12⟩

theorem rDuties_c (l : List Dty) (al : Option Addr) (bl ol cl : Nat) (w0 : World) (hl : Sl encDty 4 w0 al bl ol l) (hll : l.length ≤ 1000000) :
    CallsV Tryz.prog 54 [.slice al l.length cl] w0 (fun v w' => v = .int .i64 (chkD l) ∧ Ext w0 w') := by
 have E0 := Upd.refl (fun _ => False) w0
 refine f_enter (N := 19) func54 rfl rfl rfl (c_seq fun K1 hK1 => (c_region (t_assign rfl rfl rfl (t_nil' (hK1 _ _ (c_seq fun K2 hK2 => (c_seq fun K3 hK3 => (c_region (t_move rfl rfl rfl (t_len underlying24 rfl rfl rfl rfl (t_cmp rfl rfl rfl rfl rfl (t_nil' (hK3 _ _ (c_condp rfl (fun g6 => ?_) (fun g6 => ?_)))))))))))))))
 ·
  refine c_seq fun K4 hK4 => (c_region (t_assign rfl rfl rfl (t_nil' (hK4 _ _ (c_ret (f_ret1 (v := .int .i64 5) results54 rfl ?_))))))
  exact ⟨congrArg (Value.int .i64) (by unfold chkD; rw [if_pos (by omega)]), E0⟩
 refine c_skip (hK2 _ _ (c_seq fun K5 hK5 => (c_seq fun K6 hK6 => (c_region (t_assign rfl rfl rfl (t_nil' (hK6 _ _ (c_block (c_loop (γ := Nat) (fun k => [(0, .slice al l.length cl), (3, .int .i64 (k : Int))]) (fun k w => Upd (fun _ => False) w0 w ∧ (k ≤ l.length) ∧ (((l.take k).any fun d => !okDty d) = false)) (fun k => l.length - k) 0 ⟨rfl, rfl, trivial⟩ ⟨Upd.refl _ _, (Nat.zero_le _), rfl⟩ ?_)))))))))
 intro k w8 hW K7 hK7
 obtain ⟨u9, I10, I11⟩ := hW
 have zu9 := u9.size
 have E12 := E0.nx u9
 have hk := I10; clear I10
 have hno := I11; clear I11
 refine c_seq fun K13 hK13 => (c_seq fun K14 hK14 => (c_region (t_move rfl rfl rfl (t_move rfl rfl rfl (t_len underlying24 rfl rfl rfl rfl (t_cmp rfl rfl rfl rfl rfl (t_nil' (hK14 _ _ (c_condp rfl (fun g10 => ?_) (fun g10 => ?_))))))))))
 ·
  refine c_skip (hK13 _ _ (c_seq fun K15 hK15 => (c_block (c_seq fun K16 hK16 => (c_region (t_move rfl rfl rfl (t_move rfl rfl rfl ?_)))))))
  have i17 : k < l.length := (by omega)
  refine t_index (j := k) underlying24 sizeOf37 rfl rfl rfl rfl ((hl.keep E12 (fun _ h => h)).addr (by omega)) rfl i17 (t_loadN (vs := [.int .i64 ((nth l k).bl), .int .i64 ((nth l k).bh), .int .i64 ((nth l k).el), .int .i64 ((nth l k).eh)]) isAgg37 sizeOf37 rfl rfl rfl (((hl.keep E12 (fun _ h => h)).at_ k (by omega)).sub 0 4) rfl (t_call own69 rfl rfl rfl rfl (rDuty_c (nth l k) _) (fun v18 w19 r21 => ?_)))
  obtain ⟨rfl, u20⟩ := r21
  have zu20 := u20.size
  refine t_not rfl rfl rfl (t_nil' (hK16 _ _ (c_cond rfl (fun g18 => ?_) (fun g18 => ?_))))
  ·
   refine c_seq fun K23 hK23 => (c_region (t_assign rfl rfl rfl (t_nil' (hK23 _ _ (c_ret (f_ret1 (v := .int .i64 2) results54 rfl ?_))))))
   exact ⟨congrArg (Value.int .i64) (by unfold chkD; rw [if_neg (by omega), if_pos (List.any_eq_true.2 ⟨_, nth_mem (show k < l.length by omega), g18⟩)]), (E12.nx u20)⟩
  refine c_skip (hK15 _ _ (c_region (t_move rfl rfl rfl (t_ari rfl rfl rfl rfl rfl (by omega) (t_assign rfl rfl rfl (t_nil' ?_))))))
  exact hK7 (k + 1) _ _ (by omega) ⟨rfl, rfl, trivial⟩ ⟨(u9.nx u20), (by omega), (any_snoc (p := fun d => !okDty d) (by omega) hno g18)⟩
 refine c_exit (hK5 _ _ (c_seq fun K24 hK24 => (c_region (t_assign rfl rfl rfl (t_nil' (hK24 _ _ (c_ret (f_ret1 (v := .int .i64 0) results54 rfl ?_))))))))
 exact ⟨congrArg (Value.int .i64) (by unfold chkD; rw [if_neg (by omega), if_neg (by rw [List.take_of_length_le (by omega)] at hno; simp [hno])]), E12⟩

theorem rSorted_c (l : List Sp) (al : Option Addr) (bl ol cl : Nat) (w0 : World) (hl : Sl encSp 2 w0 al bl ol l) (hll : l.length ≤ 100000) (hpos : 0 < w0.heap.size) :
    CallsV Tryz.prog 55 [.slice al l.length cl] w0 (fun v w' => (∃ ao g cp, v = .slice ao (List.length (srtS l)) cp ∧ Acc encSp 2 114 w0.heap.size w' ao g cp (srtS l)) ∧ Ext w0 w') := by
 refine f_enter (N := 75) func55 rfl rfl rfl (c_seq fun K1 hK1 => (c_region (t_assign rfl rfl rfl (t_nil' (hK1 _ _ (c_seq fun K2 hK2 => (c_region (t_bslice (ps := []) (cs := []) (e := 114) rfl rfl ⟨rfl, rfl⟩ (fun w => by kernel_rfl) (fun bk3 w4 ebk3 sbk3 B5 u6 => ?_)))))))))
 have zu6 := u6.size
 refine t_assign rfl rfl rfl (t_nil' (hK2 _ _ (c_seq fun K8 hK8 => (c_seq fun K9 hK9 => (c_region (t_assign rfl rfl rfl (t_nil' (hK9 _ _ (c_block (c_loop (γ := Nat × Option Addr × Nat × Nat × List Sp) (fun gg => [(0, .slice al l.length cl), (3, .slice gg.2.1 gg.2.2.2.2.length gg.2.2.2.1), (4, .int .i64 (gg.1 : Int))]) (fun gg w => Upd (fun i => bk3 ≤ i) w4 w ∧ (gg.1 ≤ l.length) ∧ (Acc encSp 2 114 bk3 w gg.2.1 gg.2.2.1 gg.2.2.2.1 gg.2.2.2.2) ∧ (gg.2.2.2.2 = srtS (l.take gg.1))) (fun gg => l.length - gg.1) (0, some ⟨bk3, 0, none⟩, bk3, 0, []) ⟨rfl, rfl, rfl, trivial⟩ ⟨Upd.refl _ _, (Nat.zero_le _), (Acc.ofRaw (cs := []) B5 (Nat.le_refl _) (Nat.le_refl _) (Nat.zero_le _) (by rfl) (by rfl)), rfl⟩ ?_))))))))))
 intro gg w11 hW K10 hK10
 obtain ⟨p, ao, go, co, out⟩ := gg
 change WC _ _ _ _ _ _ [(0, .slice al l.length cl), (3, .slice ao out.length co), (4, .int .i64 (p : Int))] _
 change Upd (fun i => bk3 ≤ i) w4 w11 ∧ (p ≤ l.length) ∧ (Acc encSp 2 114 bk3 w11 ao go co out) ∧ (out = srtS (l.take p)) at hW
 obtain ⟨u12, I13, I14, I15⟩ := hW
 have zu12 := u12.size
 have E16 := ((Upd.refl (fun _ => False) w0).nx u6).next u12 (fun i hi (h : bk3 ≤ i) => show False by first | omega | assumption)
 have hp := I13; clear I13
 have hout := I14; clear I14
 have hoe := I15; clear I15
 have lt_go := hout.lt
 have hol : out.length = p := by rw [hoe, srt_len, List.length_take]; omega
 have hco := hout.cap_le
 refine c_seq fun K17 hK17 => (c_seq fun K18 hK18 => (c_region (t_move rfl rfl rfl (t_move rfl rfl rfl (t_len underlying41 rfl rfl rfl rfl (t_cmp rfl rfl rfl rfl rfl (t_nil' (hK18 _ _ (c_condp rfl (fun g10 => ?_) (fun g10 => ?_))))))))))
 ·
  have hbl := hl.lt (show 0 < l.length by omega)
  refine c_skip (hK17 _ _ (c_seq fun K19 hK19 => (c_block (c_seq fun K20 hK20 => (c_region (t_move rfl rfl rfl (t_len underlying41 rfl rfl rfl rfl (t_assign rfl rfl rfl (t_nil' (hK20 _ _ (c_seq fun K21 hK21 => (c_block (c_loop (γ := Nat) (fun k => [(0, .slice al l.length cl), (3, .slice ao out.length co), (4, .int .i64 (p : Int)), (5, .int .i64 (k : Int))]) (fun k w => Upd (fun _ => False) w11 w ∧ (k ≤ out.length) ∧ (∀ j, k ≤ j → j < out.length → LtS (nth l p) (nth out j))) (fun k => k) out.length ⟨rfl, rfl, rfl, rfl, trivial⟩ ⟨Upd.refl _ _, (Nat.le_refl _), (fun j h1 h2 => absurd h2 (by omega))⟩ ?_)))))))))))))
  intro k w23 hW K22 hK22
  obtain ⟨u24, I25, I26⟩ := hW
  have zu24 := u24.size
  have E27 := E16.nx u24
  have hk := I25; clear I25
  have hab := I26; clear I26
  refine c_seq fun K28 hK28 => (c_cut (γ := Bool) (fun q => [(0, .slice al l.length cl), (3, .slice ao out.length co), (4, .int .i64 (p : Int)), (5, .int .i64 (k : Int)), (58, .bool q)]) (fun q w => Upd (fun _ => False) w23 w ∧ (q = true ↔ (0 < k ∧ LtS (nth l p) (nth out (k - 1))))) (fun K30 hK30 => ?_) ?_)
  ·
   refine c_drawnM follows (fun _ => False) (.look 0 (.look 1 (.look 2 (.look 3 (.look 4 (.look 5 (.look 6 (.look 7 (.look 8 (.look 9 (.look 10 (.look 11 (.look 12 (.look 13 (.look 14 (.look 15 (.look 16 (.look 17 (.look 18 (.look 19 (.look 20 (.look 21 (.look 22 (.look 23 (.look 24 (.look 25 (.look 26 (.look 27 (.look 28 (.look 29 (.look 30 (.look 31 (.look 32 (.look 33 (.look 34 (.look 35 (.look 36 (.look 37 (.look 38 (.look 39 (.look 40 (.look 41 (.look 42 (.look 43 .done)))))))))))))))))))))))))))))))))))))))))))) (by kernel_rfl) fun w33 u34 => ?_
   have zu34 := u34.size
   have E35 := E27.nx u34
   refine y_move rfl rfl rfl (y_cmp rfl rfl rfl rfl rfl (y_move rfl rfl rfl (y_splitp 17 rfl (fun g17 => ?_) (fun g17 => ?_))))
   ·
    refine y_move rfl rfl rfl (y_move rfl rfl rfl ?_)
    have i36 : p < l.length := (by omega)
    refine y_index (j := p) underlying41 sizeOf114 rfl rfl rfl rfl ((hl.keep E35 (fun _ h => h)).addr (by omega)) rfl i36 (y_field underlying114 rfl sizeOf3 (ol + p * 2 + 0) rfl rfl rfl rfl (y_load isAgg3 rfl rfl rfl (((hl.keep E35 (fun _ h => h)).at_ p (by omega)) 0 _ rfl) (fun h => h) (y_move rfl rfl rfl (y_move rfl rfl rfl (y_ari rfl rfl rfl rfl rfl (by omega) ?_)))))
    have D37 := ((hout.kE u24).kE u34)
    have i38 : (k - 1) < out.length := (by omega)
    refine y_index (j := (k - 1)) underlying41 sizeOf114 rfl rfl rfl rfl ((D37.sl (fun _ => rfl)).addr (by omega)) (by omega) i38 (y_field underlying114 rfl sizeOf3 (0 + (k - 1) * 2 + 0) rfl rfl rfl rfl ?_)
    have D39 := ((hout.kE u24).kE u34)
    refine y_load isAgg3 rfl rfl rfl (((D39.sl (fun _ => rfl)).at_ (k - 1) (by omega)) 0 _ rfl) (fun h => h) (y_cmp rfl rfl rfl rfl rfl (y_move rfl rfl rfl (y_splitp 30 rfl (fun g30 => ?_) (fun g30 => ?_))))
    ·
     refine y_skip rfl rfl rfl (y_skip rfl rfl rfl (y_skip rfl rfl rfl (y_skip rfl rfl rfl (y_skip rfl rfl rfl (y_skip rfl rfl rfl (y_skip rfl rfl rfl (y_skip rfl rfl rfl (y_skip rfl rfl rfl (y_skip rfl rfl rfl (y_skip rfl rfl rfl (y_skip rfl rfl rfl (y_skip rfl rfl rfl (y_skip rfl rfl rfl (y_skip rfl rfl rfl (y_skip rfl rfl rfl (y_skip rfl rfl rfl (y_skip rfl rfl rfl (y_skip rfl rfl rfl (y_skip rfl rfl rfl (y_skip rfl rfl rfl (y_skip rfl rfl rfl (y_skip rfl rfl rfl (y_skip rfl rfl rfl ?_)))))))))))))))))))))))
     refine y_skip rfl rfl rfl (y_skip rfl rfl rfl (y_pick_t rfl rfl rfl rfl (y_pick_t rfl rfl rfl rfl (s_nil ?_))))
     exact hK30 true _ _ ⟨rfl, rfl, rfl, rfl, rfl, trivial⟩ ⟨((Upd.refl _ _).nx u34), (by unfold LtS; exact ⟨fun _ => by omega, fun _ => rfl⟩)⟩
    refine y_move rfl rfl rfl (y_move rfl rfl rfl ?_)
    have i40 : p < l.length := (by omega)
    refine y_index (j := p) underlying41 sizeOf114 rfl rfl rfl rfl ((hl.keep E35 (fun _ h => h)).addr (by omega)) rfl i40 (y_field underlying114 rfl sizeOf3 (ol + p * 2 + 0) rfl rfl rfl rfl (y_load isAgg3 rfl rfl rfl (((hl.keep E35 (fun _ h => h)).at_ p (by omega)) 0 _ rfl) (fun h => h) (y_move rfl rfl rfl (y_move rfl rfl rfl (y_ari rfl rfl rfl rfl rfl (by omega) ?_)))))
    have i41 : (k - 1) < out.length := (by omega)
    refine y_index (j := (k - 1)) underlying41 sizeOf114 rfl rfl rfl rfl ((D37.sl (fun _ => rfl)).addr (by omega)) (by omega) i41 (y_field underlying114 rfl sizeOf3 (0 + (k - 1) * 2 + 0) rfl rfl rfl rfl (y_load isAgg3 rfl rfl rfl (((D39.sl (fun _ => rfl)).at_ (k - 1) (by omega)) 0 _ rfl) (fun h => h) (y_cmp rfl rfl rfl rfl rfl (y_move rfl rfl rfl (y_splitp 43 rfl (fun g43 => ?_) (fun g43 => ?_))))))
    ·
     refine y_move rfl rfl rfl (y_move rfl rfl rfl ?_)
     have i42 : p < l.length := (by omega)
     refine y_index (j := p) underlying41 sizeOf114 rfl rfl rfl rfl ((hl.keep E35 (fun _ h => h)).addr (by omega)) rfl i42 (y_field underlying114 rfl sizeOf3 (ol + p * 2 + 1) rfl rfl rfl rfl (y_load isAgg3 rfl rfl rfl (((hl.keep E35 (fun _ h => h)).at_ p (by omega)) 1 _ rfl) (fun h => h) (y_move rfl rfl rfl (y_move rfl rfl rfl (y_ari rfl rfl rfl rfl rfl (by omega) ?_)))))
     have i43 : (k - 1) < out.length := (by omega)
     refine y_index (j := (k - 1)) underlying41 sizeOf114 rfl rfl rfl rfl ((D37.sl (fun _ => rfl)).addr (by omega)) (by omega) i43 (y_field underlying114 rfl sizeOf3 (0 + (k - 1) * 2 + 1) rfl rfl rfl rfl (y_load isAgg3 rfl rfl rfl (((D39.sl (fun _ => rfl)).at_ (k - 1) (by omega)) 1 _ rfl) (fun h => h) (y_cmp rfl rfl rfl rfl rfl (y_pick_t rfl rfl rfl rfl (y_pick_f rfl rfl rfl rfl (y_pick_t rfl rfl rfl rfl (s_nil ?_)))))))
     exact hK30 (decide ((nth l p).e < (nth out (k - 1)).e)) _ _ ⟨rfl, rfl, rfl, rfl, rfl, trivial⟩ ⟨((Upd.refl _ _).nx u34), (by unfold LtS; rw [decide_eq_true_eq]; constructor <;> intro h <;> omega)⟩
    refine y_skip rfl rfl rfl (y_skip rfl rfl rfl (y_skip rfl rfl rfl (y_skip rfl rfl rfl (y_skip rfl rfl rfl (y_skip rfl rfl rfl (y_skip rfl rfl rfl (y_skip rfl rfl rfl (y_skip rfl rfl rfl (y_skip rfl rfl rfl (y_skip rfl rfl rfl (y_skip rfl rfl rfl (y_pick_f rfl rfl rfl rfl (y_pick_f rfl rfl rfl rfl (y_pick_t rfl rfl rfl rfl (s_nil ?_)))))))))))))))
    exact hK30 false _ _ ⟨rfl, rfl, rfl, rfl, rfl, trivial⟩ ⟨((Upd.refl _ _).nx u34), (by unfold LtS; exact ⟨fun h => (by cases h), fun h => absurd h (by omega)⟩)⟩
   refine y_skip rfl rfl rfl (y_skip rfl rfl rfl (y_skip rfl rfl rfl (y_skip rfl rfl rfl (y_skip rfl rfl rfl (y_skip rfl rfl rfl (y_skip rfl rfl rfl (y_skip rfl rfl rfl (y_skip rfl rfl rfl (y_skip rfl rfl rfl (y_skip rfl rfl rfl (y_skip rfl rfl rfl (y_skip rfl rfl rfl (y_skip rfl rfl rfl (y_skip rfl rfl rfl (y_skip rfl rfl rfl (y_skip rfl rfl rfl (y_skip rfl rfl rfl (y_skip rfl rfl rfl (y_skip rfl rfl rfl (y_skip rfl rfl rfl (y_skip rfl rfl rfl (y_skip rfl rfl rfl (y_skip rfl rfl rfl ?_)))))))))))))))))))))))
   refine y_skip rfl rfl rfl (y_skip rfl rfl rfl (y_skip rfl rfl rfl (y_skip rfl rfl rfl (y_skip rfl rfl rfl (y_skip rfl rfl rfl (y_skip rfl rfl rfl (y_skip rfl rfl rfl (y_skip rfl rfl rfl (y_skip rfl rfl rfl (y_skip rfl rfl rfl (y_skip rfl rfl rfl (y_skip rfl rfl rfl (y_skip rfl rfl rfl (y_skip rfl rfl rfl (y_skip rfl rfl rfl (y_pick_f rfl rfl rfl rfl (s_nil ?_)))))))))))))))))
   exact hK30 false _ _ ⟨rfl, rfl, rfl, rfl, rfl, trivial⟩ ⟨((Upd.refl _ _).nx u34), (by unfold LtS; exact ⟨fun h => (by cases h), fun h => absurd h (by omega)⟩)⟩
  intro q w31 hW
  obtain ⟨u32, I44⟩ := hW
  have zu32 := u32.size
  have hq := I44; clear I44
  refine c_cond rfl (fun g58 => ?_) (fun g58 => ?_)
  ·
   refine c_skip (hK28 _ _ (c_block (c_region (t_move rfl rfl rfl (t_ari rfl rfl rfl rfl rfl (by omega) (t_assign rfl rfl rfl (t_nil' ?_)))))))
   exact hK22 (k - 1) _ _ (by have := (hq.1 g58).1; omega) ⟨rfl, rfl, rfl, (congrArg (fun z => some (Value.int .i64 z)) (by have := (hq.1 g58).1; omega)), trivial⟩ ⟨(u24.nx u32), (by omega), (fun j h1 h2 => by
     by_cases h : j = k - 1
     · rw [h]; exact (hq.1 g58).2
     · exact hab j (by omega) h2)⟩
  have hex : ¬ (0 < k ∧ LtS (nth l p) (nth out (k - 1))) := fun h => by rw [hq.2 h] at g58; cases g58
  refine c_exit (hK21 _ _ (c_drawnM follows (fun i => (i = go ∧ bk3 ≤ i)) (.look 0 (.look 1 (.look 2 (.look 3 (.look 4 (.look 5 (.look 6 (.look 8 (.look 9 (.look 10 (.act 7 (.act 11 (.act 12 (.look 13 .done) .stop) .stop) .stop))))))))))) (by kernel_rfl) fun w46 u47 => ?_))
  have zu47 := u47.size
  have E48 := (E27.nx u32).nx u47
  refine y_move rfl rfl rfl (y_move rfl rfl rfl (y_sliceTo (k) underlying41 sizeOf114 rfl rfl rfl rfl rfl (by omega) (y_same 63 (v := .slice ao ((out.take k).length) co) rfl (by rw [hout.subTo0, List.length_take, Nat.min_eq_left (by omega)]) (y_move rfl rfl rfl (y_move rfl rfl rfl ?_)))))
  have i49 : p < l.length := (by omega)
  refine y_index (j := p) underlying41 sizeOf114 rfl rfl rfl rfl ((hl.keep E48 (fun _ h => h)).addr (by omega)) rfl i49 (y_loadN (vs := [.int .i64 ((nth l p).b), .int .i64 ((nth l p).e)]) isAgg114 sizeOf114 rfl rfl rfl (((hl.keep E48 (fun _ h => h)).at_ p (by omega)).sub 0 2) rfl (by show ¬ ((bl = go ∧ bk3 ≤ bl)); first | omega | assumption) (y_move rfl rfl rfl (y_move rfl rfl rfl (y_sliceFrom (k) underlying41 sizeOf114 rfl rfl rfl rfl rfl (by omega) (by omega) (y_same 71 (v := .slice (subAddr ao co k 2) ((out.drop k).length) (co - k)) rfl (by rw [List.length_drop]) (s_do (t_bslice (ps := [(0, .agg #[.int .i64 ((nth l p).b), .int .i64 ((nth l p).e)])]) (cs := [.int .i64 ((nth l p).b), .int .i64 ((nth l p).e)]) (e := 114) rfl rfl ⟨rfl, rfl⟩ (fun w => by kernel_rfl) (fun bk50 w51 ebk50 sbk50 B52 u53 => ?_))))))))
  have zu53 := u53.size
  refine s_next ((Upd.refl _ _).nx u53) (s_do ?_)
  have D55 := ((((hout.kE u24).kE u32).kE u47).kE u53)
  refine t_appLit (enc := encSp) (z := .agg #[.int .i64 0, .int .i64 0]) (bytes := 16) (k := 2) (xs := [(nth l p)]) (ys := (out.drop k)) underlying41 (by kernel_rfl) rfl (by decide) (fun _ => rfl) (by intro x; simp [encSp, Value.oneCell']) rfl rfl rfl rfl B52 (Sl.from_ (D55.sl (fun _ => rfl)) co k (by omega)) (by first | decide | simp) (by rw [List.length_drop]; omega) (by decide) (fun ao56 gb57 cp58 w59 A60 u61 gegb57 => ?_)
  have zu61 := u61.size
  have lt_gb57 := A60.lt
  refine s_next ((Upd.refl _ _).next u61 (fun i hi (h : (i = bk50 ∧ bk50 ≤ i)) => show w46.heap.size ≤ i ∨ ((i = go ∧ bk3 ≤ i)) by first | omega | exact .inr h)) (s_do ?_)
  have D63 := (D55.keep u61 (fun hb => show ¬ ((go = bk50 ∧ bk50 ≤ go)) by first | omega | assumption))
  refine t_appendAll (enc := encSp) (z := .agg #[.int .i64 0, .int .i64 0]) (bytes := 16) (k := 2) (base := bk3) (xs := (out.take k)) (ys := ([(nth l p)] ++ (out.drop k))) underlying41 (by kernel_rfl) rfl (by decide) (fun _ => rfl) (by intro x; simp [encSp, Value.oneCell']) rfl rfl rfl rfl (Acc.takeN (enc := encSp) (k := 2) (fun _ => rfl) D63 k) (A60.sl (fun _ => rfl)) (by omega) (by rw [List.length_take]; omega) (by rw [List.length_append, List.length_drop, List.length_singleton]; omega) (by decide) (fun ao64 gb65 cp66 w67 A68 u69 gegb65 lngb65 => ?_)
  have zu69 := u69.size
  have lt_gb65 := A68.lt
  refine s_next ((Upd.refl _ _).next u69 (fun i hi (h : (i = go ∧ bk3 ≤ i)) => show w46.heap.size ≤ i ∨ ((i = go ∧ bk3 ≤ i)) by first | omega | exact .inr h)) (y_assign rfl rfl rfl (s_nil (hK19 _ _ (c_region (t_move rfl rfl rfl (t_ari rfl rfl rfl rfl rfl (by omega) (t_assign rfl rfl rfl (t_nil' ?_))))))))
  exact hK10 (p + 1, ao64, gb65, cp66, ((out.take k) ++ ([(nth l p)] ++ (out.drop k)))) _ _ (by show l.length - (p + 1) < l.length - p; omega) ⟨rfl, rfl, rfl, trivial⟩ ⟨((((((u12.nx u24).nx u32).nx u47).nx u53).next u61 (fun i hi (h : (i = bk50 ∧ bk50 ≤ i)) => show bk3 ≤ i by first | omega | assumption)).next u69 (fun i hi (h : (i = go ∧ bk3 ≤ i)) => show bk3 ≤ i by first | omega | assumption)), (by omega), A68, (by rw [take_nth (by omega)]; exact put_eq hoe (by omega) hex hab)⟩
 refine c_exit (hK8 _ _ (c_seq fun K71 hK71 => (c_region (t_move rfl rfl rfl (t_assign rfl rfl rfl (t_nil' (hK71 _ _ (c_ret (f_ret1 (v := .slice ao out.length co) results55 rfl ?_)))))))))
 have hpe : out = srtS l := by rw [hoe, List.take_of_length_le (by omega)]
 subst hpe
 obtain ⟨g9, ha9⟩ := Acc.lower (base' := w0.heap.size) hout (by omega) hpos
 exact ⟨⟨ao, g9, co, rfl, ha9⟩, E16⟩

theorem rLongest_c (l : List Dty) (al : Option Addr) (bl ol cl : Nat) (w0 : World) (hl : Sl encDty 4 w0 al bl ol l) (hll : l.length ≤ 100000) (hpos : 0 < w0.heap.size) :
    CallsV Tryz.prog 16 [.slice al l.length cl] w0 (fun v w' => (∃ ao g cp, v = .slice ao (List.length (srtS (l.map lngS))) cp ∧ Acc encSp 2 114 w0.heap.size w' ao g cp (srtS (l.map lngS))) ∧ Ext w0 w') := by
 refine f_enter (N := 30) func16 rfl rfl rfl (c_seq fun K1 hK1 => (c_region (t_assign rfl rfl rfl (t_nil' (hK1 _ _ (c_seq fun K2 hK2 => (c_region (t_bslice (ps := []) (cs := []) (e := 114) rfl rfl ⟨rfl, rfl⟩ (fun w => by kernel_rfl) (fun bk3 w4 ebk3 sbk3 B5 u6 => ?_)))))))))
 have zu6 := u6.size
 refine t_assign rfl rfl rfl (t_nil' (hK2 _ _ (c_seq fun K8 hK8 => (c_seq fun K9 hK9 => (c_region (t_assign rfl rfl rfl (t_nil' (hK9 _ _ (c_block (c_loop (γ := Nat × Option Addr × Nat × Nat × List Sp) (fun gg => [(0, .slice al l.length cl), (3, .slice gg.2.1 gg.2.2.2.2.length gg.2.2.2.1), (4, .int .i64 (gg.1 : Int))]) (fun gg w => Upd (fun i => bk3 ≤ i) w4 w ∧ (gg.1 ≤ l.length) ∧ (Acc encSp 2 114 bk3 w gg.2.1 gg.2.2.1 gg.2.2.2.1 gg.2.2.2.2) ∧ (gg.2.2.2.2 = (l.take gg.1).map lngS)) (fun gg => l.length - gg.1) (0, some ⟨bk3, 0, none⟩, bk3, 0, []) ⟨rfl, rfl, rfl, trivial⟩ ⟨Upd.refl _ _, (Nat.zero_le _), (Acc.ofRaw (cs := []) B5 (Nat.le_refl _) (Nat.le_refl _) (Nat.zero_le _) (by rfl) (by rfl)), rfl⟩ ?_))))))))))
 intro gg w11 hW K10 hK10
 obtain ⟨k, ao, go, co, out⟩ := gg
 change WC _ _ _ _ _ _ [(0, .slice al l.length cl), (3, .slice ao out.length co), (4, .int .i64 (k : Int))] _
 change Upd (fun i => bk3 ≤ i) w4 w11 ∧ (k ≤ l.length) ∧ (Acc encSp 2 114 bk3 w11 ao go co out) ∧ (out = (l.take k).map lngS) at hW
 obtain ⟨u12, I13, I14, I15⟩ := hW
 have zu12 := u12.size
 have E16 := ((Upd.refl (fun _ => False) w0).nx u6).next u12 (fun i hi (h : bk3 ≤ i) => show False by first | omega | assumption)
 have hk := I13; clear I13
 have hout := I14; clear I14
 have hoe := I15; clear I15
 have lt_go := hout.lt
 have hol : out.length = k := by rw [hoe, List.length_map, List.length_take]; omega
 refine c_seq fun K17 hK17 => (c_seq fun K18 hK18 => (c_region (t_move rfl rfl rfl (t_move rfl rfl rfl (t_len underlying24 rfl rfl rfl rfl (t_cmp rfl rfl rfl rfl rfl (t_nil' (hK18 _ _ (c_condp rfl (fun g9 => ?_) (fun g9 => ?_))))))))))
 ·
  have hbl := hl.lt (show 0 < l.length by omega)
  refine c_skip (hK17 _ _ (c_seq fun K19 hK19 => (c_block (c_drawnM follows (fun i => (i = go ∧ bk3 ≤ i)) (.look 0 (.look 1 (.look 2 (.look 3 (.look 4 (.look 5 (.look 6 (.look 7 (.look 8 (.look 9 (.look 10 (.look 11 (.look 12 (.look 13 (.act 14 (.act 15 (.look 16 .done) .stop) .stop))))))))))))))) (by kernel_rfl) fun w20 u21 => ?_))))
  have zu21 := u21.size
  have E22 := E16.nx u21
  refine y_move rfl rfl rfl (y_move rfl rfl rfl (y_move rfl rfl rfl ?_))
  have i23 : k < l.length := (by omega)
  refine y_index (j := k) underlying24 sizeOf37 rfl rfl rfl rfl ((hl.keep E22 (fun _ h => h)).addr (by omega)) rfl i23 (y_field underlying37 rfl sizeOf35 (ol + k * 4 + 0) rfl rfl rfl rfl (y_field underlying35 rfl sizeOf3 (ol + k * 4 + 0 + 0) rfl rfl rfl rfl (y_load isAgg3 rfl rfl rfl (((hl.keep E22 (fun _ h => h)).at_ k (by omega)) 0 _ rfl) (by show ¬ ((bl = go ∧ bk3 ≤ bl)); first | omega | assumption) (y_move rfl rfl rfl (y_move rfl rfl rfl ?_)))))
  have i24 : k < l.length := (by omega)
  refine y_index (j := k) underlying24 sizeOf37 rfl rfl rfl rfl ((hl.keep E22 (fun _ h => h)).addr (by omega)) rfl i24 (y_field underlying37 rfl sizeOf35 (ol + k * 4 + 2) rfl rfl rfl rfl (y_field underlying35 rfl sizeOf3 (ol + k * 4 + 2 + 1) rfl rfl rfl rfl (y_load isAgg3 rfl rfl rfl (((hl.keep E22 (fun _ h => h)).at_ k (by omega)) 3 _ rfl) (by show ¬ ((bl = go ∧ bk3 ≤ bl)); first | omega | assumption) (y_build (ps := [(0, .int .i64 ((nth l k).bl)), (1, .int .i64 ((nth l k).eh))]) (v := .agg #[.int .i64 ((nth l k).bl), .int .i64 ((nth l k).eh)]) rfl rfl ⟨rfl, rfl⟩ (fun w => by kernel_rfl) (s_do (t_bslice (ps := [(0, .agg #[.int .i64 ((nth l k).bl), .int .i64 ((nth l k).eh)])]) (cs := [.int .i64 ((nth l k).bl), .int .i64 ((nth l k).eh)]) (e := 114) rfl rfl ⟨rfl, rfl⟩ (fun w => by kernel_rfl) (fun bk25 w26 ebk25 sbk25 B27 u28 => ?_)))))))
  have zu28 := u28.size
  refine s_next ((Upd.refl _ _).nx u28) (s_do ?_)
  have D30 := ((hout.kE u21).kE u28)
  refine t_append (z := .agg #[.int .i64 0, .int .i64 0]) (bytes := 16) (k := 2) (base := bk3) (lngS (nth l k)) underlying41 (by kernel_rfl) rfl (by decide) (fun _ => rfl) (by intro x; simp [encSp, Value.oneCell']) rfl rfl rfl rfl D30 B27 (by omega) (by omega) (by decide) (fun ao31 gb32 cp33 w34 A35 u36 gegb32 lngb32 => ?_)
  have zu36 := u36.size
  have lt_gb32 := A35.lt
  refine s_next ((Upd.refl _ _).next u36 (fun i hi (h : (i = go ∧ bk3 ≤ i)) => show w20.heap.size ≤ i ∨ ((i = go ∧ bk3 ≤ i)) by first | omega | exact .inr h)) (y_assign rfl rfl rfl (s_nil (hK19 _ _ (c_region (t_move rfl rfl rfl (t_ari rfl rfl rfl rfl rfl (by omega) (t_assign rfl rfl rfl (t_nil' ?_))))))))
  exact hK10 (k + 1, ao31, gb32, cp33, (out ++ [(lngS (nth l k))])) _ _ (by show l.length - (k + 1) < l.length - k; omega) ⟨rfl, rfl, rfl, trivial⟩ ⟨(((u12.nx u21).nx u28).next u36 (fun i hi (h : (i = go ∧ bk3 ≤ i)) => show bk3 ≤ i by first | omega | assumption)), (by omega), A35, (by rw [hoe, take_nth (by omega), List.map_append]; rfl)⟩
 refine c_exit (hK8 _ _ (c_seq fun K38 hK38 => (c_region (t_move rfl rfl rfl (t_call own55 rfl rfl rfl rfl (rSorted_c out ao go 0 co _ (hout.sl (fun _ => rfl)) (by omega) (by omega)) (fun v40 w41 r43 => ?_))))))
 obtain ⟨⟨aoS39, gS39, cS39, rfl, haS39⟩, u42⟩ := r43
 have zu42 := u42.size
 have lt_gS39 := haS39.lt
 refine t_assign rfl rfl rfl (t_nil' (hK38 _ _ (c_ret (f_ret1 (v := .slice aoS39 ((srtS out).length) cS39) results16 rfl ?_))))
 have hpe : out = l.map lngS := by rw [hoe, List.take_of_length_le (by omega)]
 subst hpe
 obtain ⟨g9, ha9⟩ := Acc.lower (base' := w0.heap.size) haS39 (by omega) hpos
 exact ⟨⟨aoS39, g9, cS39, rfl, ha9⟩, (E16.nx u42)⟩

end Go.Proofs.YtagmodjadmecdaaGreat
