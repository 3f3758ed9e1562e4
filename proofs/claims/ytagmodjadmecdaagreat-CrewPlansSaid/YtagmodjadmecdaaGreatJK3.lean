/-
  Part 3 of the proof: contracts and plain laws. Conditions: none.
-/
import Derived.RangeFuncNested
import Derived.RangeFuncBound
import Derived.RangeFuncLeaves
import Derived.Test.YtagmodjadmecdaaGreatJK2
namespace Go.Proofs.YtagmodjadmecdaaGreat
open Go Go.RowKit Tryz
theorem own82 : Own Tryz.prog 82 := ⟨Tryz.f82, func82, by kernel_rfl, by kernel_rfl⟩
theorem own84 : Own Tryz.prog 84 := ⟨Tryz.f84, func84, by kernel_rfl, by kernel_rfl⟩
theorem own83 : Own Tryz.prog 83 := ⟨Tryz.f83, func83, by kernel_rfl, by kernel_rfl⟩
theorem own51 : Own Tryz.prog 51 := ⟨Tryz.f51, func51, by kernel_rfl, by kernel_rfl⟩

theorem search_c (l : List Sp) (al : Option Addr) (bl ol cl : Nat) (s : Sp) (w0 : World) (hl : Sl encSp 2 w0 al bl ol l) (hll : l.length ≤ 100000) (hs : Srt l) :
    CallsV Tryz.prog 82 [.slice al l.length cl, .agg #[.int .i64 s.b, .int .i64 s.e], .func (.func 81) #[] #[]] w0 (fun v w' => (∃ (k : Nat) (b : Bool), v = .tuple #[.int .i64 (k : Int), .bool b] ∧ k ≤ l.length ∧ (∀ j, j < k → LtS (nth l j) s) ∧ (k < l.length → ¬ LtS (nth l k) s)) ∧ Ext w0 w') := by
 refine f_enter (N := 49) func82 rfl rfl rfl (c_seq fun K1 hK1 => (c_region (t_box (cs := [.int .i64 s.b, .int .i64 s.e]) rfl rfl rfl rfl (fun bk2 w3 ebk2 sbk2 B4 u5 => ?_))))
 have zu5 := u5.size
 refine t_assign rfl rfl rfl (t_assign rfl rfl rfl (t_nil' (hK1 _ _ (c_seq fun K7 hK7 => (c_region (t_move rfl rfl rfl (t_len underlying103 rfl rfl rfl rfl (t_assign rfl rfl rfl (t_nil' (hK7 _ _ (c_seq fun K8 hK8 => (c_region (t_move rfl rfl rfl (t_assign rfl rfl rfl (t_assign rfl rfl rfl (t_nil' (hK8 _ _ (c_seq fun K9 hK9 => (c_block (c_loop (γ := Nat × Nat) (fun gg => [(0, .slice al l.length cl), (2, .func (.func 81) #[] #[]), (4, .pointer (some ⟨bk2, 0, none⟩)), (8, .int .i64 (l.length : Int)), (9, .int .i64 (gg.1 : Int)), (10, .int .i64 (gg.2 : Int))]) (fun gg w => Upd (fun _ => False) w3 w ∧ (gg.1 ≤ gg.2) ∧ (gg.2 ≤ l.length) ∧ (0 < gg.1 → LtS (nth l (gg.1 - 1)) s) ∧ (gg.2 < l.length → ¬ LtS (nth l gg.2) s)) (fun gg => gg.2 - gg.1) (0, l.length) ⟨rfl, rfl, rfl, rfl, rfl, rfl, trivial⟩ ⟨Upd.refl _ _, (Nat.zero_le _), (Nat.le_refl _), (fun h => absurd h (Nat.lt_irrefl _)), (fun h => absurd h (Nat.lt_irrefl _))⟩ ?_))))))))))))))))))))
 intro gg w11 hW K10 hK10
 obtain ⟨i, j⟩ := gg
 change WC _ _ _ _ _ _ [(0, .slice al l.length cl), (2, .func (.func 81) #[] #[]), (4, .pointer (some ⟨bk2, 0, none⟩)), (8, .int .i64 (l.length : Int)), (9, .int .i64 (i : Int)), (10, .int .i64 (j : Int))] _
 change Upd (fun _ => False) w3 w11 ∧ (i ≤ j) ∧ (j ≤ l.length) ∧ (0 < i → LtS (nth l (i - 1)) s) ∧ (j < l.length → ¬ LtS (nth l j) s) at hW
 obtain ⟨u12, I13, I14, I15, I16⟩ := hW
 have zu12 := u12.size
 have E17 := ((Upd.refl (fun _ => False) w0).nx u5).nx u12
 have hij := I13; clear I13
 have hjl := I14; clear I14
 have hi := I15; clear I15
 have hj := I16; clear I16
 refine c_seq fun K18 hK18 => (c_seq fun K19 hK19 => (c_region (t_move rfl rfl rfl (t_move rfl rfl rfl (t_cmp rfl rfl rfl rfl rfl (t_nil' (hK19 _ _ (c_condp rfl (fun g17 => ?_) (fun g17 => ?_)))))))))
 ·
  refine c_skip (hK18 _ _ (c_block (c_seq fun K20 hK20 => (c_region (t_move rfl rfl rfl (t_move rfl rfl rfl (t_ari rfl rfl rfl rfl rfl (by omega) (t_conv underlying3 underlying179 rfl rfl rfl (IntWalk.u64_in _ (by omega)) (t_shr1 rfl rfl rfl rfl (by omega) (t_conv underlying179 underlying3 rfl rfl rfl (IntWalk.i64_in _ (by omega)) (t_assign rfl rfl rfl (t_nil' (hK20 _ _ (c_seq fun K21 hK21 => (c_drawnM follows (fun _ => False) (.look 0 (.look 1 (.look 2 (.look 3 (.look 4 (.look 5 (.act 6 (.look 7 .done) .stop))))))) (by kernel_rfl) fun w22 u23 => ?_)))))))))))))))
  have zu23 := u23.size
  have E24 := E17.nx u23
  refine y_move rfl rfl rfl (y_move rfl rfl rfl (y_move rfl rfl rfl ?_))
  have i25 : ((i + j) / 2) < l.length := (by omega)
  refine y_index (j := ((i + j) / 2)) underlying103 sizeOf109 rfl rfl rfl rfl ((hl.keep E24 (fun _ h => h)).addr (by omega)) (by omega) i25 (y_loadN (vs := [.int .i64 ((nth l ((i + j) / 2)).b), .int .i64 ((nth l ((i + j) / 2)).e)]) isAgg109 sizeOf109 rfl rfl rfl (((hl.keep E24 (fun _ h => h)).at_ ((i + j) / 2) (by omega)).sub 0 2) rfl (fun h => h) ?_)
  have B26 := ((B4.kx u12).kx u23)
  refine y_loadN (vs := [.int .i64 s.b, .int .i64 s.e]) isAgg109 sizeOf109 rfl rfl rfl (B26.at.sub 0 2) rfl (fun h => h) (s_do (t_call own81 rfl rfl rfl rfl (compare_c (nth l ((i + j) / 2)) s _) (fun v27 w28 r30 => ?_)))
  obtain ⟨⟨rfl, _⟩, u29⟩ := r30
  have zu29 := u29.size
  refine s_next ((Upd.refl _ _).nx u29) (y_cmp rfl rfl rfl rfl rfl (s_nil (hK21 _ _ (c_condp rfl (fun g31 => ?_) (fun g31 => ?_)))))
  ·
   refine c_region (t_move rfl rfl rfl (t_ari rfl rfl rfl rfl rfl (by omega) (t_assign rfl rfl rfl (t_nil' ?_))))
   exact hK10 ((i + j) / 2 + 1, j) _ _ (by show j - ((i + j) / 2 + 1) < j - i; omega) ⟨rfl, rfl, rfl, rfl, (congrArg (fun z => some (Value.int .i64 z)) (by omega)), (congrArg (fun z => some (Value.int .i64 z)) (by omega)), trivial⟩ ⟨((u12.nx u23).nx u29), (by show ((i + j) / 2) + 1 ≤ j; omega), (by omega), (fun _ => by show LtS (nth l (((i + j) / 2) + 1 - 1)) s; rw [Nat.add_sub_cancel]; exact cmp_neg.1 g31), hj⟩
  refine c_region (t_move rfl rfl rfl (t_assign rfl rfl rfl (t_nil' ?_)))
  exact hK10 (i, (i + j) / 2) _ _ (by show ((i + j) / 2) - i < j - i; omega) ⟨rfl, rfl, rfl, rfl, (congrArg (fun z => some (Value.int .i64 z)) (by omega)), (congrArg (fun z => some (Value.int .i64 z)) (by omega)), trivial⟩ ⟨((u12.nx u23).nx u29), (by omega), (by omega), hi, (fun _ => fun h => g31 (cmp_neg.2 h))⟩
 refine c_exit (hK9 _ _ (c_seq fun K32 hK32 => (c_drawnM follows (fun _ => False) (.look 0 (.look 1 (.look 2 (.look 3 (.look 4 (.look 5 (.look 6 (.look 7 (.look 8 (.look 9 (.look 10 (.act 11 (.look 12 (.look 13 (.look 14 (.look 15 .done)))) .stop)))))))))))) (by kernel_rfl) fun w33 u34 => ?_)))
 have zu34 := u34.size
 have E35 := E17.nx u34
 refine y_move rfl rfl rfl (y_move rfl rfl rfl (y_move rfl rfl rfl (y_cmp rfl rfl rfl rfl rfl (y_move rfl rfl rfl (y_splitp 39 rfl (fun g39 => ?_) (fun g39 => ?_))))))
 ·
  refine y_move rfl rfl rfl (y_move rfl rfl rfl (y_move rfl rfl rfl ?_))
  have i36 : i < l.length := (by omega)
  refine y_index (j := i) underlying103 sizeOf109 rfl rfl rfl rfl ((hl.keep E35 (fun _ h => h)).addr (by omega)) rfl i36 (y_loadN (vs := [.int .i64 ((nth l i).b), .int .i64 ((nth l i).e)]) isAgg109 sizeOf109 rfl rfl rfl (((hl.keep E35 (fun _ h => h)).at_ i (by omega)).sub 0 2) rfl (fun h => h) ?_)
  have B37 := ((B4.kx u12).kx u34)
  refine y_loadN (vs := [.int .i64 s.b, .int .i64 s.e]) isAgg109 sizeOf109 rfl rfl rfl (B37.at.sub 0 2) rfl (fun h => h) (s_do (t_call own81 rfl rfl rfl rfl (compare_c (nth l i) s _) (fun v38 w39 r41 => ?_)))
  obtain ⟨⟨rfl, _⟩, u40⟩ := r41
  have zu40 := u40.size
  refine s_next ((Upd.refl _ _).nx u40) (y_cmp rfl rfl rfl rfl rfl (y_pick_t rfl rfl rfl rfl (y_assign rfl rfl rfl (y_assign rfl rfl rfl (s_nil (hK32 _ _ (c_ret (f_ret2 (v1 := .int .i64 (i : Int)) (v2 := .bool (decide ((cmpS (nth l i) s) = 0))) results82 rfl rfl ?_))))))))
  have hij2 : i = j := by omega
  subst hij2
  exact ⟨⟨i, _, rfl, hjl, srt_below hs hjl hi, hj⟩, (E35.nx u40)⟩
 refine y_skip rfl rfl rfl (y_skip rfl rfl rfl (y_skip rfl rfl rfl (y_skip rfl rfl rfl (y_skip rfl rfl rfl (y_skip rfl rfl rfl (s_do (t_skip rfl rfl rfl (s_next (Upd.refl _ _) (y_skip rfl rfl rfl (y_pick_f rfl rfl rfl rfl (y_assign rfl rfl rfl (y_assign rfl rfl rfl (s_nil (hK32 _ _ (c_ret (f_ret2 (v1 := .int .i64 (i : Int)) (v2 := .bool false) results82 rfl rfl ?_))))))))))))))))
 have hij2 : i = j := by omega
 subst hij2
 exact ⟨⟨i, _, rfl, hjl, srt_below hs hjl hi, hj⟩, E35⟩

theorem clone_c (l : List Sp) (al : Option Addr) (bl ol cl : Nat) (w0 : World) (hl : Sl encSp 2 w0 al bl ol l) (hll : l.length ≤ 100000) (hpos : 0 < w0.heap.size) :
    CallsV Tryz.prog 84 [.slice al l.length cl] w0 (fun v w' => (∃ ao g cp, v = .slice ao (List.length l) cp ∧ Acc encSp 2 109 w0.heap.size w' ao g cp l) ∧ Ext w0 w') := by
 have E0 := Upd.refl (fun _ => False) w0
 refine f_enter (N := 8) func84 rfl rfl rfl (c_seq fun K1 hK1 => (c_region (t_assign rfl rfl rfl (t_nil' (hK1 _ _ (c_seq fun K2 hK2 => (c_seq fun K3 hK3 => (c_region (t_move rfl rfl rfl (t_nilS underlying103 rfl rfl rfl rfl (t_nil' (hK3 _ _ (c_cond rfl (fun g4 => ?_) (fun g4 => ?_))))))))))))))
 ·
  refine c_seq fun K4 hK4 => (c_region (t_assign rfl rfl rfl (t_nil' (hK4 _ _ (c_ret (f_ret1 (v := .slice none 0 0) results84 rfl ?_))))))
  have hl0 : l = [] := List.eq_nil_of_length_eq_zero (by
    rcases Nat.eq_zero_or_pos l.length with h | h
    · exact h
    · rw [hl.addr h] at g4; cases g4)
  exact ⟨⟨none, 0, 0, by rw [hl0]; rfl, by rw [hl0]; exact Acc.nil _ _ _ _ _ hpos (by omega)⟩, E0⟩
 refine c_skip (hK2 _ _ (c_seq fun K5 hK5 => (c_region (t_bslice (ps := []) (cs := []) (e := 109) rfl rfl ⟨rfl, rfl⟩ (fun w => by kernel_rfl) (fun bk6 w7 ebk6 sbk6 B8 u9 => ?_)))))
 have zu9 := u9.size
 have E10 := E0.nx u9
 refine t_move rfl rfl rfl (t_copyE (enc := encSp) (z := .agg #[.int .i64 0, .int .i64 0]) (bytes := 16) (k := 2) (ys := l) underlying103 (by kernel_rfl) rfl (by decide) (fun _ => rfl) (by intro x; simp [encSp, Value.oneCell']) rfl rfl rfl rfl B8 (hl.keep E10 (fun _ h => h)) (by omega) (by decide) (fun ao1 g1 c1 w11 A13 u12 ge1 => ?_))
 have zu12 := u12.size
 refine t_assign rfl rfl rfl (t_nil' (hK5 _ _ (c_ret (f_ret1 (v := .slice ao1 l.length c1) results84 rfl ?_))))
 obtain ⟨g9, ha9⟩ := Acc.lower (base' := w0.heap.size) A13 (by omega) hpos
 exact ⟨⟨ao1, g9, c1, rfl, ha9⟩, (E10.nx u12)⟩

set_option maxHeartbeats 1000000 in
theorem insert_c (l : List Sp) (ao : Option Addr) (gb cp base k bv : Nat) (s : Sp) (w0 : World) (ha : Acc encSp 2 109 base w0 ao gb cp l) (hk : k ≤ l.length) (hll : l.length ≤ 100000) (hbs : base ≤ w0.heap.size) (hb : Blk w0 bv 109 (encSp s)) (hvg0 : base ≤ gb → bv ≠ gb) :
    CallsV Tryz.prog 83 [.slice ao l.length cp, .int .i64 (k : Int), .slice (some ⟨bv, 0, none⟩) 1 1] w0 (fun v w' => (∃ ao' g' cp', v = .slice ao' (List.length (l.take k ++ s :: l.drop k)) cp' ∧ Acc encSp 2 109 base w' ao' g' cp' (l.take k ++ s :: l.drop k)) ∧ Upd (fun i => i = gb ∧ base ≤ i) w0 w') := by
 have hcl := ha.cap_le
 have hgl := ha.lt
 have hbl := hb.lt
 have E0 := Upd.refl (fun i => (i = gb ∧ base ≤ i)) w0
 refine f_enter (N := 95) func83 rfl rfl rfl (c_seq fun K1 hK1 => (c_region (t_assign rfl rfl rfl (t_nil' (hK1 _ _ (c_seq fun K2 hK2 => (c_region (t_move rfl rfl rfl (t_move rfl rfl rfl (t_sliceFrom (k) underlying103 sizeOf109 rfl rfl rfl rfl rfl hk hcl (t_nil' (hK2 _ _ (c_seq fun K3 hK3 => (c_region (t_move rfl rfl rfl (t_len underlying102 rfl rfl rfl rfl (t_assign rfl rfl rfl (t_nil' (hK3 _ _ (c_seq fun K4 hK4 => (c_seq fun K5 hK5 => (c_region (t_move rfl rfl rfl ?_)))))))))))))))))))))))
 refine t_cmp rfl rfl rfl rfl rfl (t_samehd (v := .bool false) rfl (t_nil' (hK5 _ _ (c_cond_f rfl (c_skip (hK4 _ _ (c_seq fun K6 hK6 => (c_region (t_move rfl rfl rfl (t_len underlying103 rfl rfl rfl rfl (t_assign rfl rfl rfl (t_nil' (hK6 _ _ (c_seq fun K7 hK7 => (c_seq fun K8 hK8 => (c_region (t_move rfl rfl rfl (t_move rfl rfl rfl (t_cmp rfl rfl rfl rfl rfl (t_nil' (hK8 _ _ (c_condp rfl (fun g22 => ?_) (fun g22 => ?_)))))))))))))))))))))))
 ·
  refine c_seq fun K9 hK9 => (c_region (t_move rfl rfl rfl (t_move rfl rfl rfl (t_append2 (z := .agg #[.int .i64 0, .int .i64 0]) (bytes := 16) (k := 2) (base := base) s underlying103 underlying102 (by kernel_rfl) rfl (by decide) (fun _ => rfl) (by intro x; simp [encSp, Value.oneCell']) rfl rfl rfl rfl ha hb (by omega) (by omega) (by decide) (fun ao10 gb11 cp12 w13 A14 u15 gegb11 lngb11 => ?_)))))
  have zu15 := u15.size
  have lt_gb11 := A14.lt
  refine t_assign rfl rfl rfl (t_nil' (hK9 _ _ (c_ret (f_ret1 (v := .slice ao10 (((l ++ [s])).length) cp12) results83 rfl ?_))))
  have hxe : (l.take k ++ s :: l.drop k) = l ++ [s] := by rw [show k = l.length by omega, List.take_length, List.drop_length]
  exact ⟨⟨ao10, gb11, cp12, by rw [hxe], by rw [hxe]; exact A14⟩, (E0.next u15 (fun i hi h => by omega))⟩
 have hkl : k < l.length := by omega
 obtain ⟨hao, hbg, hlc, hcM0, cs0, hB0, hB0l, hB0t⟩ := Acc.raw ha (.inr (by omega))
 subst hao
 have hvg : bv ≠ gb := hvg0 hbg
 have hAtk : At w0 gb 0 ((l.take k).flatMap encSp) := by
   have h9 := (ha.sl (fun _ => rfl)).cellsFrom (k := 2) (by decide) (fun _ => rfl) 0 k
   rw [List.drop_zero, Nat.zero_add, Nat.zero_mul] at h9
   exact h9
 have hgl0 := hB0.lt
 refine c_skip (hK7 _ _ (c_seq fun K17 hK17 => (c_seq fun K18 hK18 => (c_region (t_move rfl rfl rfl (t_move rfl rfl rfl (t_ari rfl rfl rfl rfl rfl (by omega) (t_move rfl rfl rfl (t_cap underlying103 rfl rfl rfl rfl (t_cmp rfl rfl rfl rfl rfl (t_nil' (hK18 _ _ (c_condp rfl (fun g31 => ?_) (fun g31 => ?_))))))))))))))
 ·
  refine c_seq fun K19 hK19 => (c_region (t_move rfl rfl rfl (t_move rfl rfl rfl (t_sliceTo (k) underlying103 sizeOf109 rfl rfl rfl rfl rfl (by omega) (t_same 34 (v := .slice (some ⟨gb, 0, none⟩) k cp) rfl (by rw [subAddr_some (by omega)]) (t_move rfl rfl rfl (t_move rfl rfl rfl (t_ari rfl rfl rfl rfl rfl (by omega) (t_move rfl rfl rfl (t_ari rfl rfl rfl rfl rfl (by omega) (t_appZ (cs := (l.take k).flatMap encSp) (m := l.length + 1 - k) (n := l.length + 1) (off := 0) (z := .agg #[.int .i64 0, .int .i64 0]) (bytes := 16) (k := 2) underlying103 underlying3 (by kernel_rfl) rfl (by decide) rfl rfl rfl rfl (by omega) (by omega) (by omega) (by omega) (by rw [flatMap_len (k := 2) (fun _ => rfl), List.length_take]; omega) hAtk (by omega) (by decide) (fun cN w20 zs hcN hcM hzl B22 u21 => ?_))))))))))))
  have zu21 := u21.size
  obtain ⟨C0, hC0⟩ : ∃ C, (l.take k).flatMap encSp ++ zs = C := ⟨_, rfl⟩
  rw [hC0] at B22
  have hlN := B22.lt
  have hCl : C0.length = cN * 2 := by rw [← hC0, List.length_append, hzl, flatMap_len (k := 2) (fun _ => rfl), List.length_take]; omega
  have hCt : C0.take (k * 2) = (l.take k).flatMap encSp := by rw [← hC0, List.take_left' (by rw [flatMap_len (k := 2) (fun _ => rfl), List.length_take]; omega)]
  refine t_assign rfl rfl rfl (t_nil' (hK19 _ _ (c_seq fun K24 hK24 => (c_region (t_move rfl rfl rfl (t_move rfl rfl rfl (t_sliceFrom (k) underlying103 sizeOf109 rfl rfl rfl rfl (by omega) (by omega) (by omega) (t_same 43 (v := .slice (some ⟨w0.heap.size, 0 + k * 2, none⟩) ((l.length + 1) - k) (cN - k)) rfl (by rw [subAddr_some (by omega)]) (t_move rfl rfl rfl ?_)))))))))
  have B28 := (hb.kx u21)
  refine t_copyB (k := 2) (cs := C0) (vs := (encSp s)) underlying103 sizeOf109 rfl rfl rfl rfl B22 (B28.at) (by show 2 = min _ _ * 2; omega) (by show 0 + k * 2 + 2 ≤ _; rw [hCl]; omega) (by intro v hv; simp [encSp] at hv; rcases hv with rfl | rfl <;> rfl) (fun w25 sw25 B27 u26 => ?_)
  have zu26 := u26.size
  obtain ⟨C1, hC1⟩ : ∃ C, lay C0 (0 + k * 2) (encSp s) = C := ⟨_, rfl⟩
  rw [hC1] at B27
  have lC1 : C1.length = C0.length := by rw [← hC1, lay_length]
  refine t_nil' (hK24 _ _ (c_seq fun K30 hK30 => (c_drawnM follows (fun i => i = w0.heap.size) (.look 0 (.look 1 (.look 2 (.look 3 (.look 4 (.look 5 (.look 6 (.look 7 (.act 8 .done .stop))))))))) (by kernel_rfl) fun w31 u32 => ?_)))
  have zu32 := u32.size
  refine y_move rfl rfl rfl (y_move rfl rfl rfl (y_move rfl rfl rfl (y_ari rfl rfl rfl rfl rfl (by omega) (y_sliceFrom ((k + 1)) underlying103 sizeOf109 rfl rfl rfl rfl (by omega) (by omega) (by omega) (y_same 50 (v := .slice (some ⟨w0.heap.size, 0 + (k + 1) * 2, none⟩) ((l.length + 1) - (k + 1)) (cN - (k + 1))) rfl (by rw [subAddr_some (by omega)]) (y_move rfl rfl rfl (y_move rfl rfl rfl (y_sliceFrom (k) underlying103 sizeOf109 rfl rfl rfl rfl (by omega) (by omega) (by omega) (y_same 53 (v := .slice (some ⟨gb, 0 + k * 2, none⟩) (l.length - k) (cp - k)) rfl (by rw [subAddr_some (by omega)]) (s_do ?_))))))))))
  have D37 := (((ha.kE u21).keep u26 (fun hb => show ¬ (gb = w0.heap.size) by first | omega | assumption)).kE u32)
  refine t_copyB (k := 2) (cs := C1) (vs := ((l.drop k).flatMap encSp)) underlying103 sizeOf109 rfl rfl rfl rfl (B27.kx u32) (by have h9 := (D37.sl (fun _ => rfl)).cellsFrom (k := 2) (by decide) (fun _ => rfl) k (l.length - k); rwa [List.take_of_length_le (by rw [List.length_drop]; omega)] at h9) (by rw [flatMap_len (k := 2) (fun _ => rfl), List.length_drop]; omega) (by rw [flatMap_len (k := 2) (fun _ => rfl), List.length_drop]; rw [lC1, hCl]; omega) (by intro v hv; obtain ⟨x, _, hv⟩ := List.mem_flatMap.1 hv; simp [encSp] at hv; rcases hv with rfl | rfl <;> rfl) (fun w34 sw34 B36 u35 => ?_)
  have zu35 := u35.size
  obtain ⟨C2, hC2⟩ : ∃ C, lay C1 (0 + (k + 1) * 2) ((l.drop k).flatMap encSp) = C := ⟨_, rfl⟩
  rw [hC2] at B36
  have lC2 : C2.length = C1.length := by rw [← hC2, lay_length]
  refine s_next ((Upd.refl _ _).next u35 (fun i hi (h : i = w0.heap.size) => show w31.heap.size ≤ i ∨ (i = w0.heap.size) by first | omega | exact .inr h)) (s_nil (hK30 _ _ (c_seq fun K39 hK39 => (c_region (t_move rfl rfl rfl (t_assign rfl rfl rfl (t_nil' (hK39 _ _ (c_ret (f_ret1 (v := .slice (some ⟨w0.heap.size, 0, none⟩) (l.length + 1) cN) results83 rfl ?_))))))))))
  have hln : (l.take k ++ s :: l.drop k).length = l.length + 1 := by rw [List.length_append, List.length_cons, List.length_take, List.length_drop]; omega
  refine ⟨⟨some ⟨w0.heap.size, 0, none⟩, w0.heap.size, cN, by rw [hln], Acc.ofRaw (cs := C2) B36 (Nat.le_trans hbs (by omega)) (by rw [hln]; omega) hcM (by rw [lC2, lC1]; exact hCl) ?_⟩, ((((E0.nx u21).next u26 (fun i hi h => by omega)).nx u32).next u35 (fun i hi h => by omega))⟩
  rw [hln]
  have h9 := ins_rawA (k := 2) (s := s) (fun _ => rfl) rfl hkl (by rw [hCl]; omega) hCt
  rw [← hC2, ← hC1, Nat.zero_add, Nat.zero_add]
  exact h9
 refine c_skip (hK17 _ _ (c_seq fun K40 hK40 => (c_region (t_move rfl rfl rfl (t_move rfl rfl rfl (t_move rfl rfl rfl (t_ari rfl rfl rfl rfl rfl (by omega) (t_sliceTo (l.length + 1) underlying103 sizeOf109 rfl rfl rfl rfl (by omega) (by omega) (t_same 60 (v := .slice (some ⟨gb, 0, none⟩) (l.length + 1) cp) rfl (by rw [subAddr_some (by omega)]) (t_assign rfl rfl rfl (t_nil' (hK40 _ _ (c_seq fun K41 hK41 => (c_seq fun K42 hK42 => (c_region (t_move rfl rfl rfl (t_move rfl rfl rfl (t_move rfl rfl rfl (t_move rfl rfl rfl (t_ari rfl rfl rfl rfl rfl (by omega) (t_sliceFrom ((k + 1)) underlying103 sizeOf109 rfl rfl rfl rfl (by omega) (by omega) (by omega) (t_same 66 (v := .slice (some ⟨gb, 0 + (k + 1) * 2, none⟩) ((l.length + 1) - (k + 1)) (cp - (k + 1))) rfl (by rw [subAddr_some (by omega)]) (t_apart (tS := 102) (tR := 4) (e := 109) func107 (by kernel_rfl) (by kernel_rfl) (by kernel_rfl) (by kernel_rfl) underlying102 sizeOf109 rfl rfl rfl rfl rfl hb hB0 hvg (by rw [hB0l]; omega) ?_)))))))))))))))))))))))
 refine t_not rfl rfl rfl (t_nil' (hK42 _ _ (c_cond_t rfl (c_seq fun K43 hK43 => (c_drawnM follows (fun i => i = gb) (.look 0 (.look 1 (.look 2 (.look 3 (.look 4 (.look 5 (.look 6 (.look 7 (.act 8 .done .stop))))))))) (by kernel_rfl) fun w44 u45 => ?_)))))
 have zu45 := u45.size
 refine y_move rfl rfl rfl (y_move rfl rfl rfl (y_move rfl rfl rfl (y_ari rfl rfl rfl rfl rfl (by omega) (y_sliceFrom ((k + 1)) underlying103 sizeOf109 rfl rfl rfl rfl (by omega) (by omega) (by omega) (y_same 73 (v := .slice (some ⟨gb, 0 + (k + 1) * 2, none⟩) ((l.length + 1) - (k + 1)) (cp - (k + 1))) rfl (by rw [subAddr_some (by omega)]) (y_move rfl rfl rfl (y_move rfl rfl rfl (y_sliceFrom (k) underlying103 sizeOf109 rfl rfl rfl rfl (by omega) (by omega) (by omega) (y_same 76 (v := .slice (some ⟨gb, 0 + k * 2, none⟩) ((l.length + 1) - k) (cp - k)) rfl (by rw [subAddr_some (by omega)]) (s_do ?_))))))))))
 have D50 := (ha.kE u45)
 refine t_copyB (k := 2) (cs := cs0) (vs := ((l.drop k).flatMap encSp)) underlying103 sizeOf109 rfl rfl rfl rfl (hB0.kx u45) (by have h9 := (D50.sl (fun _ => rfl)).cellsFrom (k := 2) (by decide) (fun _ => rfl) k (l.length - k); rwa [List.take_of_length_le (by rw [List.length_drop]; omega)] at h9) (by rw [flatMap_len (k := 2) (fun _ => rfl), List.length_drop]; omega) (by rw [flatMap_len (k := 2) (fun _ => rfl), List.length_drop]; rw [hB0l]; omega) (by intro v hv; obtain ⟨x, _, hv⟩ := List.mem_flatMap.1 hv; simp [encSp] at hv; rcases hv with rfl | rfl <;> rfl) (fun w47 sw47 B49 u48 => ?_)
 have zu48 := u48.size
 obtain ⟨C1, hC1⟩ : ∃ C, lay cs0 (0 + (k + 1) * 2) ((l.drop k).flatMap encSp) = C := ⟨_, rfl⟩
 rw [hC1] at B49
 have lC1 : C1.length = cs0.length := by rw [← hC1, lay_length]
 refine s_next ((Upd.refl _ _).next u48 (fun i hi (h : i = gb) => show w44.heap.size ≤ i ∨ (i = gb) by first | omega | exact .inr h)) (s_nil (hK43 _ _ (c_seq fun K52 hK52 => (c_region (t_move rfl rfl rfl (t_move rfl rfl rfl (t_sliceFrom (k) underlying103 sizeOf109 rfl rfl rfl rfl (by omega) (by omega) (by omega) (t_same 80 (v := .slice (some ⟨gb, 0 + k * 2, none⟩) ((l.length + 1) - k) (cp - k)) rfl (by rw [subAddr_some (by omega)]) (t_move rfl rfl rfl ?_)))))))))
 have B56 := ((hb.kx u45).keep u48 (by omega))
 refine t_copyB (k := 2) (cs := C1) (vs := (encSp s)) underlying103 sizeOf109 rfl rfl rfl rfl B49 (B56.at) (by show 2 = min _ _ * 2; omega) (by show 0 + k * 2 + 2 ≤ _; rw [lC1, hB0l]; omega) (by intro v hv; simp [encSp] at hv; rcases hv with rfl | rfl <;> rfl) (fun w53 sw53 B55 u54 => ?_)
 have zu54 := u54.size
 obtain ⟨C2, hC2⟩ : ∃ C, lay C1 (0 + k * 2) (encSp s) = C := ⟨_, rfl⟩
 rw [hC2] at B55
 have lC2 : C2.length = C1.length := by rw [← hC2, lay_length]
 refine t_nil' (hK52 _ _ (c_seq fun K58 hK58 => (c_region (t_move rfl rfl rfl (t_assign rfl rfl rfl (t_nil' (hK58 _ _ (c_ret (f_ret1 (v := .slice (some ⟨gb, 0, none⟩) (l.length + 1) cp) results83 rfl ?_)))))))))
 have hln : (l.take k ++ s :: l.drop k).length = l.length + 1 := by rw [List.length_append, List.length_cons, List.length_take, List.length_drop]; omega
 refine ⟨⟨some ⟨gb, 0, none⟩, gb, cp, by rw [hln], Acc.ofRaw (cs := C2) B55 (hbg) (by rw [hln]; omega) hcM0 (by rw [lC2, lC1]; exact hB0l) ?_⟩, (((E0.nx u45).next u48 (fun i hi h => by omega)).next u54 (fun i hi h => by omega))⟩
 rw [hln]
 have h9 := ins_rawB (k := 2) (s := s) (fun _ => rfl) rfl hkl (by rw [hB0l]; omega) (raw_take (k := 2) (fun _ => rfl) hB0t (by omega))
 rw [← hC2, ← hC1, Nat.zero_add, Nat.zero_add]
 exact h9

end Go.Proofs.YtagmodjadmecdaaGreat
namespace Go.Proofs.YtagmodjadmecdaaGreat
open Go Go.RowKit

theorem Ext.grownBy {w w' : World} (h : Ext w w') : w.grownBy w' none := ⟨h.os, h.tape, h.output, h.size, fun k hk _ => h.block k hk id⟩
theorem Upd.putObj (w : World) (l : Nat) (o : Obj) : Upd (· = l) w (w.putObj l o) := ⟨rfl, rfl, rfl, by simp, fun k _ hn => World.putObj_heap_other hn⟩

def CellsIn (S : Nat → Prop) (w : World) : Prop := ∀ k, k < w.heap.size → S k → ∃ cur t f, w.heap[k]? = some (.cells cur t f)

theorem CellsIn.none (w : World) : CellsIn (fun _ => False) w := fun _ _ h => h.elim
theorem Blk.cellsIn {w : World} {b : Nat} {t : TypeId} {cs : List Value} (h : Blk w b t cs) : CellsIn (· = b) w := fun k _ e => by subst e; exact ⟨_, _, _, h⟩
theorem Acc.cellsIn {α : Type} {enc : α → List Value} {k : Nat} {e : TypeId} {base : Nat} {w : World} {ao : Option Addr} {g cap : Nat} {xs : List α} (h : Acc enc k e base w ao g cap xs) : CellsIn (fun i => i = g ∧ base ≤ i) w := fun i _ hi => by
  rcases h.at_ with ⟨_, _, _, h1⟩ | ⟨_, _, cur, h1, _⟩
  · omega
  · rw [hi.1]; exact ⟨_, _, _, h1⟩
theorem CellsIn.or {S T : Nat → Prop} {w : World} (h : CellsIn S w) (k : CellsIn T w) : CellsIn (fun i => S i ∨ T i) w := fun i hi h' => h'.elim (h i hi) (k i hi)

theorem KeepsFrom.of_upd {S : Nat → Prop} {B : Nat} {w w' : World} (u : Upd S w w') (h : CellsIn S w) : KeepsFrom B w w' :=
  ⟨u.size, fun k o _ hk ho => (u.block k (Array.getElem?_eq_some_iff.1 hk).1 (fun hs => by
    obtain ⟨c, t, f, hc⟩ := h k (Array.getElem?_eq_some_iff.1 hk).1 hs
    rw [hk] at hc
    cases hc
    cases ho)).trans hk⟩

/-! ### The marks of ended loops among the deferred calls -/
def mark (D : Nat) : Deferred := { target := .collected D, args := #[] }

def Marks (base : Nat) : List Deferred → World → Prop
  | [], _ => True
  | d :: ds, w => (∃ D, d = mark D ∧ base ≤ D ∧ w.heap[D]? = some (.deferred (some [])) ∧ (∀ d' ∈ ds, ∀ D', d' = mark D' → D' < D)) ∧ Marks base ds w

theorem Marks.keep {base : Nat} {S : Nat → Prop} : ∀ {ds : List Deferred} {w w' : World}, Marks base ds w → Upd S w w' → CellsIn S w → Marks base ds w'
  | [], _, _, _, _, _ => trivial
  | d :: ds, w, w', h, u, hc => by
    obtain ⟨⟨D, h1, h2, h3, h4⟩, h5⟩ := h
    refine ⟨⟨D, h1, h2, ?_, h4⟩, h5.keep u hc⟩
    have hlt := lt_of_block h3
    refine (u.block D hlt (fun hs => ?_)).trans h3
    obtain ⟨c, t, f, hq⟩ := hc D hlt hs
    rw [h3] at hq
    cases hq

theorem Marks.lt {base : Nat} : ∀ {ds : List Deferred} {w : World}, Marks base ds w → ∀ d ∈ ds, ∀ D, d = mark D → D < w.heap.size
  | [], _, _, d, hd, _, _ => by cases hd
  | d :: ds, w, h, d', hd, D', e => by
    obtain ⟨⟨D, h1, h2, h3, h4⟩, h5⟩ := h
    rcases List.mem_cons.1 hd with rfl | hd
    · rw [h1] at e
      injection e with e
      injection e with e
      subst e
      exact lt_of_block h3
    · exact h5.lt d' hd D' e

theorem Marks.keepLow {base : Nat} {S : Nat → Prop} {B : Nat} : ∀ {ds : List Deferred} {w w' : World}, Marks base ds w → Upd S w w' → (∀ d ∈ ds, ∀ D, d = mark D → D < B) → (∀ k, S k → B ≤ k) → Marks base ds w'
  | [], _, _, _, _, _, _ => trivial
  | d :: ds, w, w', h, u, hB, hS => by
    obtain ⟨⟨D, h1, h2, h3, h4⟩, h5⟩ := h
    refine ⟨⟨D, h1, h2, ?_, h4⟩, h5.keepLow u (fun d' hd' => hB d' (by simp [hd'])) hS⟩
    exact (u.block D (lt_of_block h3) (fun hs => by have := hB d (by simp) D h1; have := hS D hs; omega)).trans h3

theorem Marks.push {base : Nat} {ds : List Deferred} {w : World} {D : Nat} (h : Marks base ds w) (hb : base ≤ D) (hD : w.heap[D]? = some (.deferred (some []))) (hn : ∀ d ∈ ds, ∀ D', d = mark D' → D' < D) : Marks base (mark D :: ds) w :=
  ⟨⟨D, rfl, hb, hD, hn⟩, h⟩

section steps
variable {rd : Option Nat} {P : Program} {ops : Array Oper} {Q : Exit → Act → World → Prop} {N : Nat} {ds : List Deferred} {rest : List Oper} {L : Slots} {w : World}
variable {d : Nat} {ty : TypeId} {pos : String} {aft : Array Edge} {g : Option (Nat × Bool)} {c : Code}

theorem roundIn_rnd {n m : Nat} {l : Nat} {f : FuncId} {tmps : Array Value} {assign body : Code} {R : Ending → World → Prop} (h : RoundIn Fence.wide m P l f tmps assign body w R) : RoundIn (rnd rd) n P l f tmps assign body w R := by
  obtain ⟨_, h2⟩ := h
  refine ⟨rnd_fn _ _, fun c cs _ => ?_⟩
  have := h2 c cs (room_wide _)
  cases rd with
  | none => exact this
  | some l => exact this

theorem t_yield {f : Operand} {l m : Nat} {xs : Array Operand} {ats : Array TypeId} {vs : List Value} {R : Ending → World → Prop} (hg : grd ops L g = true) (hN : Nat.blt d N = true)
    (hf : ev L f = some (.func (.yield l) #[] #[])) (hv : evs L xs.toList = some vs) (hy : YieldAt Fence.wide m P l vs.toArray w R) (hR : ∀ e w', R e w' → ∃ v, e = .returned v)
    (h : ∀ v w', R (.returned v) w' → WL rd P ops Q N ds rest ((d, v) :: L) w') : WL rd P ops Q N ds (⟨some d, .call ⟨.value f, xs, ats⟩, ty, pos, aft, g⟩ :: rest) L w := by
  intro a ha
  obtain ⟨fn, tmps, assign, body, hy1, hy2⟩ := hy
  have e1 : xs.map a.eval = vs.toArray := by rw [← ha.evs hv, ← Array.toList_map]
  have hr : (execOp a.eval ⟨some d, .call ⟨.value f, xs, ats⟩, ty, pos, aft, g⟩).run P w = .ok (.round l fn tmps assign body) w := by
    simp [execOp, resolve, ha.ev hf, Deferred.ofValue, invoke, e1, hy1]
  unfold wpListIn
  rw [if_pos (ha.wanted (o := ⟨some d, .call ⟨.value f, xs, ats⟩, ty, pos, aft, g⟩) hg)]
  unfold Oper.wpIn
  refine ⟨fun f _ => rnd_fn _ f, ?_⟩
  rw [semAt_of_ok (by simp) hr, Oper.uponIn_round]
  refine ⟨fun h => by simp [rnd_depth] at h, RoundIn.mono (roundIn_rnd hy2) ?_⟩
  intro e w' r
  obtain ⟨v, rfl⟩ := hR e w' r
  exact h v w' r _ (ha.put v hN)

theorem c_loopm {γ : Type} (Lf : γ → Slots) (Df : γ → List Deferred) (Wf : γ → World → Prop) (μ : γ → Nat) (g0 : γ) (hd0 : Df g0 = ds) (h0 : Sub (Lf g0) L) (hw : Wf g0 w)
    (step : ∀ g w', Wf g w' → ∀ K : Act → World → Prop, (∀ g' L'' w'', μ g' < μ g → Sub (Lf g') L'' → Wf g' w'' → QK K N (Df g') L'' w'') → WC rd P (Exit.then K Q) N (Df g) c (Lf g) w') :
    WC rd P Q N ds (.loop c) L w := by
  intro a ha b k cs hro hb hr
  have key : ∀ n g a w, μ g = n → Kn N (Df g) (Lf g) a → Wf g w →
      ∃ e a' w', Q e a' w' ∧ ArrivesIn (Machine.fenced P (rnd rd)) P (lone (b.atR a (.code c :: .inLoop c :: k)) cs w) b k cs e a' w' := by
    intro n
    induction n using Nat.strongRecOn with
    | _ n ih =>
      intro g a w hn hk hW
      have hs := step g w hW (fun a' w' => ∃ g', μ g' < μ g ∧ Kn N (Df g') (Lf g') a' ∧ Wf g' w') (fun g' L'' w'' hlt hs hw'' a'' ha'' => ⟨g', hlt, ha''.sub hs, hw''⟩) a hk
      obtain ⟨e, a₁, w₁, hq, harr⟩ := hs b (.inLoop c :: k) cs hro hb hr
      cases e with
      | normal =>
        obtain ⟨g', hlt, hk', hW'⟩ := hq
        obtain ⟨e₂, a₂, w₂, hq₂, harr₂⟩ := ih (μ g') (hn ▸ hlt) g' a₁ w₁ rfl hk' hW'
        exact ⟨e₂, a₂, w₂, hq₂, .of_steps (StepsIn.trans harr (.one (fenced_calm hb hr rfl) stepR_inLoop)) harr₂⟩
      | exit id => exact ⟨_, a₁, w₁, hq, .pass (x := .inLoop c) rfl (fun _ _ => .inl (by simp)) harr⟩
      | goto l => exact ⟨_, a₁, w₁, hq, .pass (x := .inLoop c) rfl (fun _ _ => .inl (by simp)) harr⟩
      | ret => exact ⟨_, a₁, w₁, hq, .pass (x := .inLoop c) rfl (fun _ _ => .inl (by simp)) harr⟩
      | panic ch => exact ⟨_, a₁, w₁, hq, .pass (x := .inLoop c) rfl (fun _ _ => .inl (by simp)) harr⟩
      | outgrown => exact ⟨_, a₁, w₁, hq, .pass (x := .inLoop c) rfl (fun _ _ => .inl (by simp)) harr⟩
  obtain ⟨e, a', w', hq, harr⟩ := key _ g0 a w rfl ((hd0 ▸ ha).sub h0) hw
  exact ⟨e, a', w', hq, .of_steps (.one (fenced_calm hb hr rfl) stepR_loop) harr⟩
theorem f_enterM {R : Value → World → Prop} {f : FuncId} {fn : Func} {vs : List Value} (hf : P.funcs[f]? = some fn) (hb : fn.body = some c) (hn : Nat.ble vs.length N = true) (hN : fn.ntmps = N)
    (h : WC none P (bodyPostM (rnd none) 3 P fn fun e w' => ∃ v, e = .returned v ∧ R v w') N [] c (args 0 vs) w) : CallsV P f vs w R := by
  refine callsIn_wide.1 (callsIn_of_wp_marks (F := Fence.wide) (n := 3) hf hb trivial (h _ ⟨?_, rfl, ?_⟩))
  · have : vs.length ≤ N := Nat.le_of_ble_eq_true hn
    simp [hN]; omega
  · intro k v hk
    have ⟨_, h2⟩ := look_args vs 0 v hk
    rw [Array.getD_eq_getD_getElem?]
    have h3 : k < vs.length := by
      rcases Nat.lt_or_ge k vs.length with h | h
      · exact h
      · simp [List.getElem?_eq_none h] at h2
    rw [Array.getElem?_append_left (by simpa using h3)]
    simpa using congrArg (fun o => o.getD undef) h2

def tmpRes (L : Slots) : ResultVar → Option Value
  | .tmp t => look t L
  | .cell _ _ => none

theorem tmpRes.run {r : ResultVar} {v : Value} (h : tmpRes L r = some v) {a : Act} (ha : Kn N ds L a) (w : World) : (resOf a.tmps r).run P w = .ok v w := by
  cases r with
  | tmp t => simp only [resOf, Sem.run_pure]; rw [ha.get _ _ h]
  | cell s t => cases h

end steps
end Go.Proofs.YtagmodjadmecdaaGreat
namespace Go.Proofs.YtagmodjadmecdaaGreat
open Go Go.RowKit

structure Hands {γ : Type} (P : Program) (l D : Nat) (enc : γ → Value) (Y Z : γ → World → Prop) (R : World → Prop) : Prop where
  keep : ∀ {W W' : World} {S : Nat → Prop}, R W → Upd S W W' → ¬ S l → ¬ S D → R W'
  cell : ∀ {W : World} {b : Nat} {t : TypeId} {cs : List Value}, R W → Blk W b t cs → b ≠ l ∧ b ≠ D
  hand : ∀ x W, Y x W → R W → YieldAt Fence.wide 3 P l #[enc x] W fun e W' => e = .returned (.bool true) ∧ Z x W' ∧ R W'

def Turned {β : Type} (l : Nat) (I : β → World → Prop) : Prop := ∀ x W W', I x W → (∃ r, W.heap[l]? = some (.loop r)) → Upd (· = l) W W' → I x W'
theorem Turned.and {β : Type} {l : Nat} {I J : β → World → Prop} (h : Turned l I) (k : Turned l J) : Turned l (fun x W => I x W ∧ J x W) := fun x W W' hi hl u => ⟨h x W W' hi.1 hl u, k x W W' hi.2 hl u⟩

section
variable {P : Program} {Q : Exit → Act → World → Prop} {N : Nat} {ds : List Deferred} {L : Slots} {w : World}

end

theorem Blk.notLoop {w : World} {b l : Nat} {t : TypeId} {cs : List Value} (h : Blk w b t cs) (hl : ∃ r, w.heap[l]? = some (.loop r)) : b ≠ l := fun e => by
  subst e; obtain ⟨r, hl⟩ := hl; unfold Blk at h; rw [hl] at h; cases h
theorem Sl.notLoop {α : Type} [Inhabited α] {enc : α → List Value} {k : Nat} (hk : ∀ x, 0 < (enc x).length) {w : World} {ao : Option Addr} {b o l : Nat} {xs : List α} (h : Sl enc k w ao b o xs) (hl : ∃ r, w.heap[l]? = some (.loop r)) (hp : 0 < xs.length) : b ≠ l := fun e => by
  subst e; obtain ⟨r, hl⟩ := hl
  have h1 := h.at_ 0 hp 0 _ (List.getElem?_eq_getElem (hk _))
  simp [World.cell?, hl] at h1
end Go.Proofs.YtagmodjadmecdaaGreat
namespace Go.Proofs.YtagmodjadmecdaaGreat
open Go Go.RowKit

def postL (B : Nat) (Z Zf : World → Prop) (W : World) : Exit → Act → World → Prop
  | .normal, _, W' => KeepsFrom B W W' ∧ Z W'
  | .ret, _, W' => KeepsFrom B W W' ∧ Zf W'
  | _, _, _ => False

structure HandsL {γ : Type} (P : Program) (l D : Nat) (enc : γ → Value) (Y Z Zf : γ → World → Prop) (R Rf : World → Prop) : Prop where
  keep : ∀ {W W' : World} {S : Nat → Prop}, R W → Upd S W W' → ¬ S l → ¬ S D → R W'
  keepf : ∀ {W W' : World} {S : Nat → Prop}, Rf W → Upd S W W' → ¬ S l → ¬ S D → Rf W'
  cell : ∀ {W : World} {b : Nat} {t : TypeId} {cs : List Value}, R W → Blk W b t cs → b ≠ l ∧ b ≠ D
  hand : ∀ x W, Y x W → R W → YieldAt Fence.wide 3 P l #[enc x] W fun e W' => (e = .returned (.bool true) ∧ Z x W' ∧ R W') ∨ (e = .returned (.bool false) ∧ Zf x W' ∧ Rf W')

section
variable {P : Program} {Q : Exit → Act → World → Prop} {N : Nat} {ds : List Deferred} {L : Slots} {w : World}

theorem c_rangeL {γ : Type} {go : Operand} {p : Nat} {assign body : Code} {gf : Nat} {lb : List Value} {enc : γ → Value} (ho : Own P gf)
    (hp : Nat.blt p N = true) (hg : ev L go = some (.func (.func gf) #[] lb.toArray))
    (Y Z Zf : γ → World → Prop) (E Ef : World → Prop) (hZo : Turned (w.heap.size + 1) Z) (hZfo : Turned (w.heap.size + 1) Zf) (hEo : Turned (w.heap.size + 1) (fun (_ : Unit) W => E W)) (hEfo : Turned (w.heap.size + 1) (fun (_ : Unit) W => Ef W))
    (hiter : ∀ (l D : Nat) (R Rf : World → Prop) (W : World), D = w.heap.size → l = w.heap.size + 1 → W.heap.size = w.heap.size + 2 → Ext w W → HandsL P l D enc Y Z Zf R Rf → R W →
      CallsV P gf (.func (.yield l) #[] #[] :: lb) W (fun _ W' => (E W' ∧ R W') ∨ (Ef W' ∧ Rf W')))
    {δ : Type} (La : γ → δ → Slots) (Y' : γ → δ → World → Prop) (hYo' : ∀ d, Turned (w.heap.size + 1) (fun x W => Y' x d W))
    (hassign : ∀ (l : Nat) (x : γ) (W : World) (K : Act → World → Prop), Y x W → (∀ d L' W', Sub (La x d) L' → Ext W W' → Y' x d W' → QK K N [] L' W') → WC (some l) P (Exit.then K (fun _ _ _ => False)) N [] assign ((p, enc x) :: L) W)
    (hbody : ∀ (l : Nat) (x : γ) (d : δ) (W : World), Y' x d W → WC (some l) P (postL w.heap.size (Z x) (Zf x) W) N [] body (La x d) W)
    (hleft : ∀ (D : Nat) (W : World), w.heap.size ≤ D → Ef W → W.heap[D]? = some (.deferred (some [])) → QK (Q .ret) N (mark D :: ds) L W)
    (hdone : ∀ (D : Nat) (W : World), w.heap.size ≤ D → E W → W.heap[D]? = some (.deferred (some [])) → QK (Q .normal) N (mark D :: ds) L W) :
    WC none P Q N ds (.rangeFunc go #[p] assign body) L w := by
  intro a ha
  refine wpIn_rangeFunc (F := Fence.wide) (n := 3) fun fn hfn => ?_
  let rec_ : LoopState → Option Code → Loop := fun st pd => { state := st, pending := pd, fn, tmps := a.tmps, params := #[p], assign, body, defers := w.heap.size }
  have hsz : ((w.alloc (.deferred (some []))).alloc (.loop (rec_ .ready none))).heap.size = w.heap.size + 2 := by simp
  have hD1 : ((w.alloc (.deferred (some []))).alloc (.loop (rec_ .ready none))).heap[w.heap.size]? = some (.deferred (some [])) :=
    ((Upd.alloc (w.alloc (.deferred (some []))) (.loop (rec_ .ready none))).block _ (by simp) id).trans (World.alloc_heap_new w _)
  have hL1 : ((w.alloc (.deferred (some []))).alloc (.loop (rec_ .ready none))).heap[w.heap.size + 1]? = some (.loop (rec_ .ready none)) := by
    have := World.alloc_heap_new (w.alloc (.deferred (some []))) (.loop (rec_ .ready none)); rwa [World.size_alloc] at this
  have hE1 : Ext w ((w.alloc (.deferred (some []))).alloc (.loop (rec_ .ready none))) := (Upd.alloc _ _).trans (Upd.alloc _ _)
  refine ⟨w.heap.size + 1, [{ target := .collected w.heap.size, args := #[] }], (w.alloc (.deferred (some []))).alloc (.loop (rec_ .ready none)), { target := .fn (.func gf) lb.toArray, args := #[.func (.yield (w.heap.size + 1)) #[] #[]] }, (w.alloc (.deferred (some []))).alloc (.loop (rec_ .ready none)), gf,
    #[.func (.yield (w.heap.size + 1)) #[] #[]] ++ lb.toArray, (w.alloc (.deferred (some []))).alloc (.loop (rec_ .ready none)), ?_, ?_, fun _ _ => trivial, ?_, fun _ => by decide, ?_⟩
  · exact run_enterLoop_outer _ _ _ _ _
  · simp only [resolve, ha.ev hg]
    simp [go_sem]
  · simp [invoke, go_sem, ho.run]
  · have hH : HandsL P (w.heap.size + 1) w.heap.size enc Y Z Zf (fun W => W.heap[w.heap.size + 1]? = some (.loop (rec_ .ready none)) ∧ W.heap[w.heap.size]? = some (.deferred (some []))) (fun W => W.heap[w.heap.size + 1]? = some (.loop (rec_ .done (some .ret))) ∧ W.heap[w.heap.size]? = some (.deferred (some []))) := by
      refine ⟨fun {W W' S} h u h1 h2 => ⟨(u.block _ (lt_of_block h.1) h1).trans h.1, (u.block _ (lt_of_block h.2) h2).trans h.2⟩, fun {W W' S} h u h1 h2 => ⟨(u.block _ (lt_of_block h.1) h1).trans h.1, (u.block _ (lt_of_block h.2) h2).trans h.2⟩, fun {W b t cs} h hb => ⟨fun e => ?_, fun e => ?_⟩, ?_⟩
      · subst e; unfold Blk at hb; rw [h.1] at hb; cases hb
      · subst e; unfold Blk at hb; rw [h.2] at hb; cases hb
      rintro x W hy ⟨hl, hd⟩
      have hyl := run_yield (P := P) (args := #[enc x]) hl rfl
      refine ⟨fn, _, assign, body, hyl, roundIn_of_wpIn (F := Fence.wide) (n := 3) hfn ?_⟩
      have hk : Kn N [] ((p, enc x) :: L) { tmps := (#[p].zip #[enc x]).foldl (fun t (p, v) => t.setIfInBounds p v) a.tmps, defers := [] } := by
        have h1 : Kn N [] L { a with defers := [] } := ⟨ha.size, rfl, ha.get⟩
        have h2 := h1.put (enc x) hp
        refine ⟨by simpa [Act.put] using h2.size, rfl, fun k v hv => ?_⟩
        have := h2.get k v hv
        simpa [Act.put] using this
      refine hassign (w.heap.size + 1) x W _ hy (fun δ L' W hs hu hy' a' ha' => ?_) _ hk
      replace hl := (hu.block _ (lt_of_block hl) (fun h => h)).trans hl
      replace hd := (hu.block _ (lt_of_block hd) (fun h => h)).trans hd
      have hlt := lt_of_block hl
      refine ⟨_, run_beginRound hl rfl, ?_⟩
      have hl2 : (W.putObj (w.heap.size + 1) (.loop { rec_ .ready none with state := .busy })).heap[w.heap.size + 1]? = some (.loop { rec_ .ready none with state := .busy }) := World.putObj_heap_same hlt
      have hd2 : (W.putObj (w.heap.size + 1) (.loop { rec_ .ready none with state := .busy })).heap[w.heap.size]? = some (.deferred (some [])) := (World.putObj_heap_other (by omega)).trans hd
      refine wpIn_mono (hbody (w.heap.size + 1) x δ _ (hYo' _ _ _ _ hy' ⟨_, hl⟩ (Upd.putObj _ _ _)) a' (ha'.sub hs)) ?_
      rintro e a3 W3 hp3
      cases e with
      | normal =>
        obtain ⟨hk3, hz⟩ := hp3
        have hl3 := hk3.same _ _ (by omega) hl2 rfl
        have hd3 := hk3.same _ _ (Nat.le_refl _) hd2 rfl
        exact ⟨_, _, run_endRound none hl3, .inl ⟨rfl, hZo _ _ _ hz ⟨_, hl3⟩ (Upd.putObj _ _ _), World.putObj_heap_same (lt_of_block hl3), (World.putObj_heap_other (by omega)).trans hd3⟩⟩
      | ret =>
        obtain ⟨hk3, hz⟩ := hp3
        have hl3 := hk3.same _ _ (by omega) hl2 rfl
        have hd3 := hk3.same _ _ (Nat.le_refl _) hd2 rfl
        exact ⟨_, _, run_endRound (some .ret) hl3, .inr ⟨rfl, hZfo _ _ _ hz ⟨_, hl3⟩ (Upd.putObj _ _ _), World.putObj_heap_same (lt_of_block hl3), (World.putObj_heap_other (by omega)).trans hd3⟩⟩
      | exit id => exact hp3.elim
      | goto t => exact hp3.elim
      | panic ch => exact hp3.elim
      | outgrown => exact hp3.elim
    have hc := hiter (w.heap.size + 1) w.heap.size _ _ _ rfl rfl hsz hE1 hH ⟨hL1, hD1⟩
    have e0 : (#[Value.func (.yield (w.heap.size + 1)) #[] #[]] ++ lb.toArray : Array Value) = (Value.func (.yield (w.heap.size + 1)) #[] #[] :: lb).toArray := by simp
    rw [e0]
    refine callsIn_wide.2 (Calls.mono hc ?_)
    rintro e W2 ⟨v, rfl, ⟨hE, hl, hd⟩ | ⟨hE, hl, hd⟩⟩
    · refine ⟨none, _, run_endLoop hl (by simp [rec_]), ?_⟩
      refine hdone w.heap.size _ (Nat.le_refl _) (hEo () _ _ hE ⟨_, hl⟩ (Upd.putObj _ _ _)) ((World.putObj_heap_other (by omega)).trans hd) _ ⟨ha.size, ?_, ha.get⟩
      simp [ha.defers, mark]
    · refine ⟨some .ret, _, run_endLoop hl (by simp [rec_]), wpIn_ret ?_⟩
      refine hleft w.heap.size _ (Nat.le_refl _) (hEfo () _ _ hE ⟨_, hl⟩ (Upd.putObj _ _ _)) ((World.putObj_heap_other (by omega)).trans hd) _ ⟨ha.size, ?_, ha.get⟩
      simp [ha.defers, mark]
end
end Go.Proofs.YtagmodjadmecdaaGreat
namespace Go.Proofs.YtagmodjadmecdaaGreat
open Go Go.RowKit

abbrev OffMarks (ds : List Deferred) (w w' : World) : Prop := Upd (fun i => ∃ d ∈ ds, d = mark i) w w'
theorem leavesInM_marksC {P : Program} {fn : Func} {tmps : Array Value} {R : Value → World → Prop} {base : Nat} {v : Value} : ∀ (ds : List Deferred) (w : World), (∀ w', OffMarks ds w w' → (results fn tmps).run P w' = .ok v w') → Marks base ds w → (∀ w', Upd (fun i => base ≤ i) w w' → OffMarks ds w w' → R v w') →
    LeavesInM (rnd none) 3 P fn tmps (fun e w' => ∃ v, e = .returned v ∧ R v w') ds .returning w
  | [], w, hr, _, hR => ⟨v, hr w (Upd.refl _ _), v, rfl, hR w (Upd.refl _ _) (Upd.refl _ _)⟩
  | d :: ds, w, hr, h, hR => by
    obtain ⟨⟨D, rfl, h2, h3, h4⟩, h5⟩ := h
    refine ⟨by simp, .inl ⟨D, _, rfl, run_takeDeferred h3, ?_⟩⟩
    have u := Upd.putObj w D (.deferred none)
    have hm : Marks base ds (w.putObj D (.deferred none)) := h5.keepLow u h4 (fun k hk => by omega)
    have uo : ∀ {w'}, OffMarks ds (w.putObj D (.deferred none)) w' → OffMarks (mark D :: ds) w w' := fun {w'} h => (u.mono (fun k hk => ⟨mark D, by simp, by subst hk; rfl⟩)).trans (h.mono (fun k ⟨d, h1, h2⟩ => ⟨d, by simp [h1], h2⟩))
    exact leavesInM_marksC ds _ (fun w' h => hr w' (uo h)) hm (fun w' u' h => hR w' ((u.mono (fun k hk => by omega)).trans u') (uo h))
theorem Marks.notCells {base : Nat} {b : Nat} {c : Array Value} {t : TypeId} {f : Nat × Nat} : ∀ {ds : List Deferred} {w : World}, Marks base ds w → w.heap[b]? = some (.cells c t f) → ¬ ∃ d ∈ ds, d = mark b
  | [], _, _, _, h => by obtain ⟨_, h, _⟩ := h; cases h
  | d :: ds, w, h, hb, hq => by
    obtain ⟨⟨D, h1, h2, h3, h4⟩, h5⟩ := h
    obtain ⟨d', hd, e⟩ := hq
    rcases List.mem_cons.1 hd with rfl | hd
    · rw [h1] at e
      injection e with e
      injection e with e
      subst e
      rw [h3] at hb
      cases hb
    · exact h5.notCells hb ⟨d', hd, e⟩
theorem Marks.notBlk {base : Nat} {b : Nat} {t : TypeId} {cs : List Value} {ds : List Deferred} {w : World} (h : Marks base ds w) (hb : Blk w b t cs) : ¬ ∃ d ∈ ds, d = mark b := h.notCells hb
theorem Marks.notAcc {α : Type} {enc : α → List Value} {k : Nat} {e : TypeId} {base base' : Nat} {ds : List Deferred} {w : World} {ao : Option Addr} {g cap : Nat} {xs : List α} (h : Marks base ds w) (ha : Acc enc k e base' w ao g cap xs) (hp : 0 < xs.length) : ¬ ∃ d ∈ ds, d = mark g := by
  rcases ha.at_ with ⟨_, h1, _⟩ | ⟨_, _, cur, h3, _⟩
  · subst h1; simp at hp
  · exact h.notCells h3
def ResM (P : Program) (ds : List Deferred) (w : World) (L : Slots) (r : ResultVar) (v : Value) : Prop := ∀ w', OffMarks ds w w' → Res P w' L r v
theorem ResM.tmp {P : Program} {ds : List Deferred} {w : World} {L : Slots} {t : Nat} {v : Value} (h : look t L = some v) : ResM P ds w L (.tmp t) v := fun _ _ => h
theorem ResM.cell {P : Program} {ds : List Deferred} {w : World} {L : Slots} {s t b off base : Nat} {t' : TypeId} {cs : List Value} {v : Value} (hm : Marks base ds w) (hl : look s L = some (.pointer (some ⟨b, off, none⟩))) (ha : ∀ w, (isAgg t).run P w = .ok false w) (hb : Blk w b t' cs) (hv : cs[off]? = some v) : ResM P ds w L (.cell s t) v :=
  fun _w' u => ⟨b, off, hl, run_loadVar1 ha ((hb.keep u (hm.notBlk hb)).get hv)⟩

section steps
variable {P : Program} {N : Nat} {ds : List Deferred} {L : Slots} {w : World}
theorem f_retMc2 {R : Value → World → Prop} {fn : Func} {r1 r2 : ResultVar} {v1 v2 : Value} {base : Nat} (hf : fn.results = #[r1, r2]) (h1 : ResM P ds w L r1 v1) (h2 : ResM P ds w L r2 v2) (hm : Marks base ds w) (hR : ∀ w', Upd (fun i => base ≤ i) w w' → OffMarks ds w w' → R (.tuple #[v1, v2]) w') :
    QK (bodyPostM (rnd none) 3 P fn (fun e w' => ∃ v, e = .returned v ∧ R v w') .ret) N ds L w := by
  intro a ha
  show LeavesInM (rnd none) 3 P fn a.tmps _ a.defers .returning w
  rw [ha.defers]
  refine leavesInM_marksC ds w (fun w' u => ?_) hm hR
  have e1 := Res.run (h1 w' u) ha
  have e2 := Res.run (h2 w' u) ha
  rw [results_of, hf]
  simp [e1, e2]
theorem f_retMc0 {R : Value → World → Prop} {fn : Func} {base : Nat} (hf : fn.results = #[]) (hm : Marks base ds w) (hR : ∀ w', Upd (fun i => base ≤ i) w w' → OffMarks ds w w' → R (.tuple #[]) w') :
    QK (bodyPostM (rnd none) 3 P fn (fun e w' => ∃ v, e = .returned v ∧ R v w') .ret) N ds L w := by
  intro a ha
  show LeavesInM (rnd none) 3 P fn a.tmps _ a.defers .returning w
  rw [ha.defers]
  refine leavesInM_marksC ds w (fun w' u => ?_) hm hR
  rw [results_of, hf]
  simp
theorem f_retMc1 {R : Value → World → Prop} {fn : Func} {r1 : ResultVar} {v : Value} {base : Nat} (hf : fn.results = #[r1]) (h1 : ResM P ds w L r1 v) (hm : Marks base ds w) (hR : ∀ w', Upd (fun i => base ≤ i) w w' → OffMarks ds w w' → R v w') :
    QK (bodyPostM (rnd none) 3 P fn (fun e w' => ∃ v, e = .returned v ∧ R v w') .ret) N ds L w := by
  intro a ha
  show LeavesInM (rnd none) 3 P fn a.tmps _ a.defers .returning w
  rw [ha.defers]
  refine leavesInM_marksC ds w (fun w' u => ?_) hm hR
  have e1 := Res.run (h1 w' u) ha
  rw [results_of, hf]
  simp [e1]
end steps
end Go.Proofs.YtagmodjadmecdaaGreat
