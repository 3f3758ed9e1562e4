/-
  A roster with one time more. Conditions: none.
-/
import Derived.Test.YtagmodjadmecdaaGreatHA1
namespace Go.Proofs.YtagmodjadmecdaaGreat
open Go Go.RowKit Tryz
theorem own82 : Own Tryz.prog 82 := ⟨Tryz.f82, func82, by kernel_rfl, by kernel_rfl⟩
theorem own84 : Own Tryz.prog 84 := ⟨Tryz.f84, func84, by kernel_rfl, by kernel_rfl⟩
theorem own83 : Own Tryz.prog 83 := ⟨Tryz.f83, func83, by kernel_rfl, by kernel_rfl⟩
theorem own51 : Own Tryz.prog 51 := ⟨Tryz.f51, func51, by kernel_rfl, by kernel_rfl⟩

theorem search_c (l : List Sp) (al : Option Addr) (bl ol cl : Nat) (s : Sp) (w0 : World) (hl : Sl encSp 2 w0 al bl ol l) (hll : l.length ≤ 100000) (hs : Srt l) :
    CallsV Tryz.prog 82 [.slice al l.length cl, .agg #[.int .i64 s.b, .int .i64 s.e], .func (.func 81) #[] #[]] w0 (fun v w' => (∃ (k : Nat) (b : Bool), v = .tuple #[.int .i64 (k : Int), .bool b] ∧ k ≤ l.length ∧ (∀ j, j < k → LtS (nth l j) s) ∧ (k < l.length → ¬ LtS (nth l k) s)) ∧ Ext w0 w') := by
 refine f_enter (N := 49) func82 rfl rfl rfl (c_seq fun K1 hK1 => (c_region (t_box (cs := [.int .i64 s.b, .int .i64 s.e]) rfl rfl rfl rfl (fun bk2 w3 ebk2 sbk2 B4 u5 => ?_))))
 have zu5 := u5.size
 refine t_assign rfl rfl rfl (t_assign rfl rfl rfl (t_nil' (hK1 _ _ (c_seq fun K7 hK7 => (c_region (t_move rfl rfl rfl (t_len underlying103 rfl rfl rfl rfl (t_assign rfl rfl rfl (t_nil' (hK7 _ _ (c_seq fun K8 hK8 => (c_region (t_move rfl rfl rfl (t_assign rfl rfl rfl (t_assign rfl rfl rfl (t_nil' (hK8 _ _ (c_seq fun K9 hK9 => (c_block (c_loop (γ := Nat × Nat) (fun gg => [(0, .slice al l.length cl), (2, .func (.func 81) #[] #[]), (4, .pointer (some ⟨bk2, 0, none⟩)), (8, .int .i64 (l.length : Int)), (9, .int .i64 (gg.1 : Int)), (10, .int .i64 (gg.2 : Int))]) (fun gg w => Upd (fun _ => False) w3 w ∧ (gg.1 ≤ gg.2) ∧ (gg.2 ≤ l.length) ∧ (0 < gg.1 → LtS (nth l (gg.1 - 1)) s) ∧ (gg.2 < l.length → ¬ LtS (nth l gg.2) s)) (fun gg => gg.2 - gg.1) (0, l.length) ⟨rfl, rfl, rfl, rfl, rfl, rfl, trivial⟩ ⟨Upd.refl _ _, (Nat.zero_le _), (Nat.le_refl _), (fun h => absurd h (Nat.lt_irrefl _)), (fun h => absurd h (Nat.lt_irrefl _))⟩ ?_))))))))))))))))))))
 intro gg w11 hW K10 hK10
 obtain ⟨i, j⟩ := gg
 change WC _ _ _ _ _ _ [(0, .slice al l.length cl), (2, .func (.func 81) #[] #[]), (4, .pointer (some ⟨bk2, 0, none⟩)), (8, .int .i64 (l.length : Int)), (9, .int .i64 (i : Int)), (10, .int .i64 (j : Int))] _
 change Upd (fun _ => False) w3 w11 ∧ (i ≤ j) ∧ (j ≤ l.length) ∧ (0 < i → LtS (nth l (i - 1)) s) ∧ (j < l.length → ¬ LtS (nth l j) s) at hW
 obtain ⟨u12, I13, I14, I15, I16⟩ := hW
 have zu12 := u12.size
 have E17 := ((Upd.refl (fun _ => False) w0).nx u5).nx u12
 have hij := I13; clear I13
 have hjl := I14; clear I14
 have hi := I15; clear I15
 have hj := I16; clear I16
 refine c_seq fun K18 hK18 => (c_seq fun K19 hK19 => (c_region (t_move rfl rfl rfl (t_move rfl rfl rfl (t_cmp rfl rfl rfl rfl rfl (t_nil' (hK19 _ _ (c_condp rfl (fun g17 => ?_) (fun g17 => ?_)))))))))
 ·
  refine c_skip (hK18 _ _ (c_block (c_seq fun K20 hK20 => (c_region (t_move rfl rfl rfl (t_move rfl rfl rfl (t_ari rfl rfl rfl rfl rfl (by omega) (t_conv underlying3 underlying179 rfl rfl rfl (IntWalk.u64_in _ (by omega)) (t_shr1 rfl rfl rfl rfl (by omega) (t_conv underlying179 underlying3 rfl rfl rfl (IntWalk.i64_in _ (by omega)) (t_assign rfl rfl rfl (t_nil' (hK20 _ _ (c_seq fun K21 hK21 => (c_drawnM follows (fun _ => False) (.look 0 (.look 1 (.look 2 (.look 3 (.look 4 (.look 5 (.act 6 (.look 7 .done) .stop))))))) (by kernel_rfl) fun w22 u23 => ?_)))))))))))))))
  have zu23 := u23.size
  have E24 := E17.nx u23
  refine y_move rfl rfl rfl (y_move rfl rfl rfl (y_move rfl rfl rfl ?_))
  have i25 : ((i + j) / 2) < l.length := (by omega)
  refine y_index (j := ((i + j) / 2)) underlying103 sizeOf109 rfl rfl rfl rfl ((hl.keep E24 (fun _ h => h)).addr (by omega)) (by omega) i25 (y_loadN (vs := [.int .i64 ((nth l ((i + j) / 2)).b), .int .i64 ((nth l ((i + j) / 2)).e)]) isAgg109 sizeOf109 rfl rfl rfl (((hl.keep E24 (fun _ h => h)).at_ ((i + j) / 2) (by omega)).sub 0 2) rfl (fun h => h) ?_)
  have B26 := ((B4.kx u12).kx u23)
  refine y_loadN (vs := [.int .i64 s.b, .int .i64 s.e]) isAgg109 sizeOf109 rfl rfl rfl (B26.at.sub 0 2) rfl (fun h => h) (s_do (t_call own81 rfl rfl rfl rfl (compare_c (nth l ((i + j) / 2)) s _) (fun v27 w28 r30 => ?_)))
  obtain ⟨⟨rfl, _⟩, u29⟩ := r30
  have zu29 := u29.size
  refine s_next ((Upd.refl _ _).nx u29) (y_cmp rfl rfl rfl rfl rfl (s_nil (hK21 _ _ (c_condp rfl (fun g31 => ?_) (fun g31 => ?_)))))
  ·
   refine c_region (t_move rfl rfl rfl (t_ari rfl rfl rfl rfl rfl (by omega) (t_assign rfl rfl rfl (t_nil' ?_))))
   exact hK10 ((i + j) / 2 + 1, j) _ _ (by show j - ((i + j) / 2 + 1) < j - i; omega) ⟨rfl, rfl, rfl, rfl, (congrArg (fun z => some (Value.int .i64 z)) (by omega)), (congrArg (fun z => some (Value.int .i64 z)) (by omega)), trivial⟩ ⟨((u12.nx u23).nx u29), (by show ((i + j) / 2) + 1 ≤ j; omega), (by omega), (fun _ => by show LtS (nth l (((i + j) / 2) + 1 - 1)) s; rw [Nat.add_sub_cancel]; exact cmp_neg.1 g31), hj⟩
  refine c_region (t_move rfl rfl rfl (t_assign rfl rfl rfl (t_nil' ?_)))
  exact hK10 (i, (i + j) / 2) _ _ (by show ((i + j) / 2) - i < j - i; omega) ⟨rfl, rfl, rfl, rfl, (congrArg (fun z => some (Value.int .i64 z)) (by omega)), (congrArg (fun z => some (Value.int .i64 z)) (by omega)), trivial⟩ ⟨((u12.nx u23).nx u29), (by omega), (by omega), hi, (fun _ => fun h => g31 (cmp_neg.2 h))⟩
 refine c_exit (hK9 _ _ (c_seq fun K32 hK32 => (c_drawnM follows (fun _ => False) (.look 0 (.look 1 (.look 2 (.look 3 (.look 4 (.look 5 (.look 6 (.look 7 (.look 8 (.look 9 (.look 10 (.act 11 (.look 12 (.look 13 (.look 14 (.look 15 .done)))) .stop)))))))))))) (by kernel_rfl) fun w33 u34 => ?_)))
 have zu34 := u34.size
 have E35 := E17.nx u34
 refine y_move rfl rfl rfl (y_move rfl rfl rfl (y_move rfl rfl rfl (y_cmp rfl rfl rfl rfl rfl (y_move rfl rfl rfl (y_splitp 39 rfl (fun g39 => ?_) (fun g39 => ?_))))))
 ·
  refine y_move rfl rfl rfl (y_move rfl rfl rfl (y_move rfl rfl rfl ?_))
  have i36 : i < l.length := (by omega)
  refine y_index (j := i) underlying103 sizeOf109 rfl rfl rfl rfl ((hl.keep E35 (fun _ h => h)).addr (by omega)) rfl i36 (y_loadN (vs := [.int .i64 ((nth l i).b), .int .i64 ((nth l i).e)]) isAgg109 sizeOf109 rfl rfl rfl (((hl.keep E35 (fun _ h => h)).at_ i (by omega)).sub 0 2) rfl (fun h => h) ?_)
  have B37 := ((B4.kx u12).kx u34)
  refine y_loadN (vs := [.int .i64 s.b, .int .i64 s.e]) isAgg109 sizeOf109 rfl rfl rfl (B37.at.sub 0 2) rfl (fun h => h) (s_do (t_call own81 rfl rfl rfl rfl (compare_c (nth l i) s _) (fun v38 w39 r41 => ?_)))
  obtain ⟨⟨rfl, _⟩, u40⟩ := r41
  have zu40 := u40.size
  refine s_next ((Upd.refl _ _).nx u40) (y_cmp rfl rfl rfl rfl rfl (y_pick_t rfl rfl rfl rfl (y_assign rfl rfl rfl (y_assign rfl rfl rfl (s_nil (hK32 _ _ (c_ret (f_ret2 (v1 := .int .i64 (i : Int)) (v2 := .bool (decide ((cmpS (nth l i) s) = 0))) results82 rfl rfl ?_))))))))
  have hij2 : i = j := by omega
  subst hij2
  exact ⟨⟨i, _, rfl, hjl, srt_below hs hjl hi, hj⟩, (E35.nx u40)⟩
 refine y_skip rfl rfl rfl (y_skip rfl rfl rfl (y_skip rfl rfl rfl (y_skip rfl rfl rfl (y_skip rfl rfl rfl (y_skip rfl rfl rfl (s_do (t_skip rfl rfl rfl (s_next (Upd.refl _ _) (y_skip rfl rfl rfl (y_pick_f rfl rfl rfl rfl (y_assign rfl rfl rfl (y_assign rfl rfl rfl (s_nil (hK32 _ _ (c_ret (f_ret2 (v1 := .int .i64 (i : Int)) (v2 := .bool false) results82 rfl rfl ?_))))))))))))))))
 have hij2 : i = j := by omega
 subst hij2
 exact ⟨⟨i, _, rfl, hjl, srt_below hs hjl hi, hj⟩, E35⟩

theorem clone_c (l : List Sp) (al : Option Addr) (bl ol cl : Nat) (w0 : World) (hl : Sl encSp 2 w0 al bl ol l) (hll : l.length ≤ 100000) (hpos : 0 < w0.heap.size) :
    CallsV Tryz.prog 84 [.slice al l.length cl] w0 (fun v w' => (∃ ao g cp, v = .slice ao (List.length l) cp ∧ Acc encSp 2 109 w0.heap.size w' ao g cp l) ∧ Ext w0 w') := by
 have E0 := Upd.refl (fun _ => False) w0
 refine f_enter (N := 8) func84 rfl rfl rfl (c_seq fun K1 hK1 => (c_region (t_assign rfl rfl rfl (t_nil' (hK1 _ _ (c_seq fun K2 hK2 => (c_seq fun K3 hK3 => (c_region (t_move rfl rfl rfl (t_nilS underlying103 rfl rfl rfl rfl (t_nil' (hK3 _ _ (c_cond rfl (fun g4 => ?_) (fun g4 => ?_))))))))))))))
 ·
  refine c_seq fun K4 hK4 => (c_region (t_assign rfl rfl rfl (t_nil' (hK4 _ _ (c_ret (f_ret1 (v := .slice none 0 0) results84 rfl ?_))))))
  have hl0 : l = [] := List.eq_nil_of_length_eq_zero (by
    rcases Nat.eq_zero_or_pos l.length with h | h
    · exact h
    · rw [hl.addr h] at g4; cases g4)
  exact ⟨⟨none, 0, 0, by rw [hl0]; rfl, by rw [hl0]; exact Acc.nil _ _ _ _ _ hpos (by omega)⟩, E0⟩
 refine c_skip (hK2 _ _ (c_seq fun K5 hK5 => (c_region (t_bslice (ps := []) (cs := []) (e := 109) rfl rfl ⟨rfl, rfl⟩ (fun w => by kernel_rfl) (fun bk6 w7 ebk6 sbk6 B8 u9 => ?_)))))
 have zu9 := u9.size
 have E10 := E0.nx u9
 refine t_move rfl rfl rfl (t_copyE (enc := encSp) (z := .agg #[.int .i64 0, .int .i64 0]) (bytes := 16) (k := 2) (ys := l) underlying103 (by kernel_rfl) rfl (by decide) (fun _ => rfl) (by intro x; simp [encSp, Value.oneCell']) rfl rfl rfl rfl B8 (hl.keep E10 (fun _ h => h)) (by omega) (by decide) (fun ao1 g1 c1 w11 A13 u12 ge1 => ?_))
 have zu12 := u12.size
 refine t_assign rfl rfl rfl (t_nil' (hK5 _ _ (c_ret (f_ret1 (v := .slice ao1 l.length c1) results84 rfl ?_))))
 obtain ⟨g9, ha9⟩ := Acc.lower (base' := w0.heap.size) A13 (by omega) hpos
 exact ⟨⟨ao1, g9, c1, rfl, ha9⟩, (E10.nx u12)⟩

set_option maxHeartbeats 1000000 in
theorem insert_c (l : List Sp) (ao : Option Addr) (gb cp base k bv : Nat) (s : Sp) (w0 : World) (ha : Acc encSp 2 109 base w0 ao gb cp l) (hk : k ≤ l.length) (hll : l.length ≤ 100000) (hbs : base ≤ w0.heap.size) (hb : Blk w0 bv 109 (encSp s)) (hvg0 : base ≤ gb → bv ≠ gb) :
    CallsV Tryz.prog 83 [.slice ao l.length cp, .int .i64 (k : Int), .slice (some ⟨bv, 0, none⟩) 1 1] w0 (fun v w' => (∃ ao' g' cp', v = .slice ao' (List.length (l.take k ++ s :: l.drop k)) cp' ∧ Acc encSp 2 109 base w' ao' g' cp' (l.take k ++ s :: l.drop k)) ∧ Upd (fun i => i = gb ∧ base ≤ i) w0 w') := by
 have hcl := ha.cap_le
 have hgl := ha.lt
 have hbl := hb.lt
 have E0 := Upd.refl (fun i => (i = gb ∧ base ≤ i)) w0
 refine f_enter (N := 95) func83 rfl rfl rfl (c_seq fun K1 hK1 => (c_region (t_assign rfl rfl rfl (t_nil' (hK1 _ _ (c_seq fun K2 hK2 => (c_region (t_move rfl rfl rfl (t_move rfl rfl rfl (t_sliceFrom (k) underlying103 sizeOf109 rfl rfl rfl rfl rfl hk hcl (t_nil' (hK2 _ _ (c_seq fun K3 hK3 => (c_region (t_move rfl rfl rfl (t_len underlying102 rfl rfl rfl rfl (t_assign rfl rfl rfl (t_nil' (hK3 _ _ (c_seq fun K4 hK4 => (c_seq fun K5 hK5 => (c_region (t_move rfl rfl rfl ?_)))))))))))))))))))))))
 refine t_cmp rfl rfl rfl rfl rfl (t_samehd (v := .bool false) rfl (t_nil' (hK5 _ _ (c_cond_f rfl (c_skip (hK4 _ _ (c_seq fun K6 hK6 => (c_region (t_move rfl rfl rfl (t_len underlying103 rfl rfl rfl rfl (t_assign rfl rfl rfl (t_nil' (hK6 _ _ (c_seq fun K7 hK7 => (c_seq fun K8 hK8 => (c_region (t_move rfl rfl rfl (t_move rfl rfl rfl (t_cmp rfl rfl rfl rfl rfl (t_nil' (hK8 _ _ (c_condp rfl (fun g22 => ?_) (fun g22 => ?_)))))))))))))))))))))))
 ·
  refine c_seq fun K9 hK9 => (c_region (t_move rfl rfl rfl (t_move rfl rfl rfl (t_append2 (z := .agg #[.int .i64 0, .int .i64 0]) (bytes := 16) (k := 2) (base := base) s underlying103 underlying102 (by kernel_rfl) rfl (by decide) (fun _ => rfl) (by intro x; simp [encSp, Value.oneCell']) rfl rfl rfl rfl ha hb (by omega) (by omega) (by decide) (fun ao10 gb11 cp12 w13 A14 u15 gegb11 lngb11 => ?_)))))
  have zu15 := u15.size
  have lt_gb11 := A14.lt
  refine t_assign rfl rfl rfl (t_nil' (hK9 _ _ (c_ret (f_ret1 (v := .slice ao10 (((l ++ [s])).length) cp12) results83 rfl ?_))))
  have hxe : (l.take k ++ s :: l.drop k) = l ++ [s] := by rw [show k = l.length by omega, List.take_length, List.drop_length]
  exact ⟨⟨ao10, gb11, cp12, by rw [hxe], by rw [hxe]; exact A14⟩, (E0.next u15 (fun i hi h => by omega))⟩
 have hkl : k < l.length := by omega
 obtain ⟨hao, hbg, hlc, hcM0, cs0, hB0, hB0l, hB0t⟩ := Acc.raw ha (.inr (by omega))
 subst hao
 have hvg : bv ≠ gb := hvg0 hbg
 have hAtk : At w0 gb 0 ((l.take k).flatMap encSp) := by
   have h9 := (ha.sl (fun _ => rfl)).cellsFrom (k := 2) (by decide) (fun _ => rfl) 0 k
   rw [List.drop_zero, Nat.zero_add, Nat.zero_mul] at h9
   exact h9
 have hgl0 := hB0.lt
 refine c_skip (hK7 _ _ (c_seq fun K17 hK17 => (c_seq fun K18 hK18 => (c_region (t_move rfl rfl rfl (t_move rfl rfl rfl (t_ari rfl rfl rfl rfl rfl (by omega) (t_move rfl rfl rfl (t_cap underlying103 rfl rfl rfl rfl (t_cmp rfl rfl rfl rfl rfl (t_nil' (hK18 _ _ (c_condp rfl (fun g31 => ?_) (fun g31 => ?_))))))))))))))
 ·
  refine c_seq fun K19 hK19 => (c_region (t_move rfl rfl rfl (t_move rfl rfl rfl (t_sliceTo (k) underlying103 sizeOf109 rfl rfl rfl rfl rfl (by omega) (t_same 34 (v := .slice (some ⟨gb, 0, none⟩) k cp) rfl (by rw [subAddr_some (by omega)]) (t_move rfl rfl rfl (t_move rfl rfl rfl (t_ari rfl rfl rfl rfl rfl (by omega) (t_move rfl rfl rfl (t_ari rfl rfl rfl rfl rfl (by omega) (t_appZ (cs := (l.take k).flatMap encSp) (m := l.length + 1 - k) (n := l.length + 1) (off := 0) (z := .agg #[.int .i64 0, .int .i64 0]) (bytes := 16) (k := 2) underlying103 underlying3 (by kernel_rfl) rfl (by decide) rfl rfl rfl rfl (by omega) (by omega) (by omega) (by omega) (by rw [flatMap_len (k := 2) (fun _ => rfl), List.length_take]; omega) hAtk (by omega) (by decide) (fun cN w20 zs hcN hcM hzl B22 u21 => ?_))))))))))))
  have zu21 := u21.size
  obtain ⟨C0, hC0⟩ : ∃ C, (l.take k).flatMap encSp ++ zs = C := ⟨_, rfl⟩
  rw [hC0] at B22
  have hlN := B22.lt
  have hCl : C0.length = cN * 2 := by rw [← hC0, List.length_append, hzl, flatMap_len (k := 2) (fun _ => rfl), List.length_take]; omega
  have hCt : C0.take (k * 2) = (l.take k).flatMap encSp := by rw [← hC0, List.take_left' (by rw [flatMap_len (k := 2) (fun _ => rfl), List.length_take]; omega)]
  refine t_assign rfl rfl rfl (t_nil' (hK19 _ _ (c_seq fun K24 hK24 => (c_region (t_move rfl rfl rfl (t_move rfl rfl rfl (t_sliceFrom (k) underlying103 sizeOf109 rfl rfl rfl rfl (by omega) (by omega) (by omega) (t_same 43 (v := .slice (some ⟨w0.heap.size, 0 + k * 2, none⟩) ((l.length + 1) - k) (cN - k)) rfl (by rw [subAddr_some (by omega)]) (t_move rfl rfl rfl ?_)))))))))
  have B28 := (hb.kx u21)
  refine t_copyB (k := 2) (cs := C0) (vs := (encSp s)) underlying103 sizeOf109 rfl rfl rfl rfl B22 (B28.at) (by show 2 = min _ _ * 2; omega) (by show 0 + k * 2 + 2 ≤ _; rw [hCl]; omega) (by intro v hv; simp [encSp] at hv; rcases hv with rfl | rfl <;> rfl) (fun w25 sw25 B27 u26 => ?_)
  have zu26 := u26.size
  obtain ⟨C1, hC1⟩ : ∃ C, lay C0 (0 + k * 2) (encSp s) = C := ⟨_, rfl⟩
  rw [hC1] at B27
  have lC1 : C1.length = C0.length := by rw [← hC1, lay_length]
  refine t_nil' (hK24 _ _ (c_seq fun K30 hK30 => (c_drawnM follows (fun i => i = w0.heap.size) (.look 0 (.look 1 (.look 2 (.look 3 (.look 4 (.look 5 (.look 6 (.look 7 (.act 8 .done .stop))))))))) (by kernel_rfl) fun w31 u32 => ?_)))
  have zu32 := u32.size
  refine y_move rfl rfl rfl (y_move rfl rfl rfl (y_move rfl rfl rfl (y_ari rfl rfl rfl rfl rfl (by omega) (y_sliceFrom ((k + 1)) underlying103 sizeOf109 rfl rfl rfl rfl (by omega) (by omega) (by omega) (y_same 50 (v := .slice (some ⟨w0.heap.size, 0 + (k + 1) * 2, none⟩) ((l.length + 1) - (k + 1)) (cN - (k + 1))) rfl (by rw [subAddr_some (by omega)]) (y_move rfl rfl rfl (y_move rfl rfl rfl (y_sliceFrom (k) underlying103 sizeOf109 rfl rfl rfl rfl (by omega) (by omega) (by omega) (y_same 53 (v := .slice (some ⟨gb, 0 + k * 2, none⟩) (l.length - k) (cp - k)) rfl (by rw [subAddr_some (by omega)]) (s_do ?_))))))))))
  have D37 := (((ha.kE u21).keep u26 (fun hb => show ¬ (gb = w0.heap.size) by first | omega | assumption)).kE u32)
  refine t_copyB (k := 2) (cs := C1) (vs := ((l.drop k).flatMap encSp)) underlying103 sizeOf109 rfl rfl rfl rfl (B27.kx u32) (by have h9 := (D37.sl (fun _ => rfl)).cellsFrom (k := 2) (by decide) (fun _ => rfl) k (l.length - k); rwa [List.take_of_length_le (by rw [List.length_drop]; omega)] at h9) (by rw [flatMap_len (k := 2) (fun _ => rfl), List.length_drop]; omega) (by rw [flatMap_len (k := 2) (fun _ => rfl), List.length_drop]; rw [lC1, hCl]; omega) (by intro v hv; obtain ⟨x, _, hv⟩ := List.mem_flatMap.1 hv; simp [encSp] at hv; rcases hv with rfl | rfl <;> rfl) (fun w34 sw34 B36 u35 => ?_)
  have zu35 := u35.size
  obtain ⟨C2, hC2⟩ : ∃ C, lay C1 (0 + (k + 1) * 2) ((l.drop k).flatMap encSp) = C := ⟨_, rfl⟩
  rw [hC2] at B36
  have lC2 : C2.length = C1.length := by rw [← hC2, lay_length]
  refine s_next ((Upd.refl _ _).next u35 (fun i hi (h : i = w0.heap.size) => show w31.heap.size ≤ i ∨ (i = w0.heap.size) by first | omega | exact .inr h)) (s_nil (hK30 _ _ (c_seq fun K39 hK39 => (c_region (t_move rfl rfl rfl (t_assign rfl rfl rfl (t_nil' (hK39 _ _ (c_ret (f_ret1 (v := .slice (some ⟨w0.heap.size, 0, none⟩) (l.length + 1) cN) results83 rfl ?_))))))))))
  have hln : (l.take k ++ s :: l.drop k).length = l.length + 1 := by rw [List.length_append, List.length_cons, List.length_take, List.length_drop]; omega
  refine ⟨⟨some ⟨w0.heap.size, 0, none⟩, w0.heap.size, cN, by rw [hln], Acc.ofRaw (cs := C2) B36 (Nat.le_trans hbs (by omega)) (by rw [hln]; omega) hcM (by rw [lC2, lC1]; exact hCl) ?_⟩, ((((E0.nx u21).next u26 (fun i hi h => by omega)).nx u32).next u35 (fun i hi h => by omega))⟩
  rw [hln]
  have h9 := ins_rawA (k := 2) (s := s) (fun _ => rfl) rfl hkl (by rw [hCl]; omega) hCt
  rw [← hC2, ← hC1, Nat.zero_add, Nat.zero_add]
  exact h9
 refine c_skip (hK17 _ _ (c_seq fun K40 hK40 => (c_region (t_move rfl rfl rfl (t_move rfl rfl rfl (t_move rfl rfl rfl (t_ari rfl rfl rfl rfl rfl (by omega) (t_sliceTo (l.length + 1) underlying103 sizeOf109 rfl rfl rfl rfl (by omega) (by omega) (t_same 60 (v := .slice (some ⟨gb, 0, none⟩) (l.length + 1) cp) rfl (by rw [subAddr_some (by omega)]) (t_assign rfl rfl rfl (t_nil' (hK40 _ _ (c_seq fun K41 hK41 => (c_seq fun K42 hK42 => (c_region (t_move rfl rfl rfl (t_move rfl rfl rfl (t_move rfl rfl rfl (t_move rfl rfl rfl (t_ari rfl rfl rfl rfl rfl (by omega) (t_sliceFrom ((k + 1)) underlying103 sizeOf109 rfl rfl rfl rfl (by omega) (by omega) (by omega) (t_same 66 (v := .slice (some ⟨gb, 0 + (k + 1) * 2, none⟩) ((l.length + 1) - (k + 1)) (cp - (k + 1))) rfl (by rw [subAddr_some (by omega)]) (t_apart (tS := 102) (tR := 4) (e := 109) func107 (by kernel_rfl) (by kernel_rfl) (by kernel_rfl) (by kernel_rfl) underlying102 sizeOf109 rfl rfl rfl rfl rfl hb hB0 hvg (by rw [hB0l]; omega) ?_)))))))))))))))))))))))
 refine t_not rfl rfl rfl (t_nil' (hK42 _ _ (c_cond_t rfl (c_seq fun K43 hK43 => (c_drawnM follows (fun i => i = gb) (.look 0 (.look 1 (.look 2 (.look 3 (.look 4 (.look 5 (.look 6 (.look 7 (.act 8 .done .stop))))))))) (by kernel_rfl) fun w44 u45 => ?_)))))
 have zu45 := u45.size
 refine y_move rfl rfl rfl (y_move rfl rfl rfl (y_move rfl rfl rfl (y_ari rfl rfl rfl rfl rfl (by omega) (y_sliceFrom ((k + 1)) underlying103 sizeOf109 rfl rfl rfl rfl (by omega) (by omega) (by omega) (y_same 73 (v := .slice (some ⟨gb, 0 + (k + 1) * 2, none⟩) ((l.length + 1) - (k + 1)) (cp - (k + 1))) rfl (by rw [subAddr_some (by omega)]) (y_move rfl rfl rfl (y_move rfl rfl rfl (y_sliceFrom (k) underlying103 sizeOf109 rfl rfl rfl rfl (by omega) (by omega) (by omega) (y_same 76 (v := .slice (some ⟨gb, 0 + k * 2, none⟩) ((l.length + 1) - k) (cp - k)) rfl (by rw [subAddr_some (by omega)]) (s_do ?_))))))))))
 have D50 := (ha.kE u45)
 refine t_copyB (k := 2) (cs := cs0) (vs := ((l.drop k).flatMap encSp)) underlying103 sizeOf109 rfl rfl rfl rfl (hB0.kx u45) (by have h9 := (D50.sl (fun _ => rfl)).cellsFrom (k := 2) (by decide) (fun _ => rfl) k (l.length - k); rwa [List.take_of_length_le (by rw [List.length_drop]; omega)] at h9) (by rw [flatMap_len (k := 2) (fun _ => rfl), List.length_drop]; omega) (by rw [flatMap_len (k := 2) (fun _ => rfl), List.length_drop]; rw [hB0l]; omega) (by intro v hv; obtain ⟨x, _, hv⟩ := List.mem_flatMap.1 hv; simp [encSp] at hv; rcases hv with rfl | rfl <;> rfl) (fun w47 sw47 B49 u48 => ?_)
 have zu48 := u48.size
 obtain ⟨C1, hC1⟩ : ∃ C, lay cs0 (0 + (k + 1) * 2) ((l.drop k).flatMap encSp) = C := ⟨_, rfl⟩
 rw [hC1] at B49
 have lC1 : C1.length = cs0.length := by rw [← hC1, lay_length]
 refine s_next ((Upd.refl _ _).next u48 (fun i hi (h : i = gb) => show w44.heap.size ≤ i ∨ (i = gb) by first | omega | exact .inr h)) (s_nil (hK43 _ _ (c_seq fun K52 hK52 => (c_region (t_move rfl rfl rfl (t_move rfl rfl rfl (t_sliceFrom (k) underlying103 sizeOf109 rfl rfl rfl rfl (by omega) (by omega) (by omega) (t_same 80 (v := .slice (some ⟨gb, 0 + k * 2, none⟩) ((l.length + 1) - k) (cp - k)) rfl (by rw [subAddr_some (by omega)]) (t_move rfl rfl rfl ?_)))))))))
 have B56 := ((hb.kx u45).keep u48 (by omega))
 refine t_copyB (k := 2) (cs := C1) (vs := (encSp s)) underlying103 sizeOf109 rfl rfl rfl rfl B49 (B56.at) (by show 2 = min _ _ * 2; omega) (by show 0 + k * 2 + 2 ≤ _; rw [lC1, hB0l]; omega) (by intro v hv; simp [encSp] at hv; rcases hv with rfl | rfl <;> rfl) (fun w53 sw53 B55 u54 => ?_)
 have zu54 := u54.size
 obtain ⟨C2, hC2⟩ : ∃ C, lay C1 (0 + k * 2) (encSp s) = C := ⟨_, rfl⟩
 rw [hC2] at B55
 have lC2 : C2.length = C1.length := by rw [← hC2, lay_length]
 refine t_nil' (hK52 _ _ (c_seq fun K58 hK58 => (c_region (t_move rfl rfl rfl (t_assign rfl rfl rfl (t_nil' (hK58 _ _ (c_ret (f_ret1 (v := .slice (some ⟨gb, 0, none⟩) (l.length + 1) cp) results83 rfl ?_)))))))))
 have hln : (l.take k ++ s :: l.drop k).length = l.length + 1 := by rw [List.length_append, List.length_cons, List.length_take, List.length_drop]; omega
 refine ⟨⟨some ⟨gb, 0, none⟩, gb, cp, by rw [hln], Acc.ofRaw (cs := C2) B55 (hbg) (by rw [hln]; omega) hcM0 (by rw [lC2, lC1]; exact hB0l) ?_⟩, (((E0.nx u45).next u48 (fun i hi h => by omega)).next u54 (fun i hi h => by omega))⟩
 rw [hln]
 have h9 := ins_rawB (k := 2) (s := s) (fun _ => rfl) rfl hkl (by rw [hB0l]; omega) (raw_take (k := 2) (fun _ => rfl) hB0t (by omega))
 rw [← hC2, ← hC1, Nat.zero_add, Nat.zero_add]
 exact h9

end Go.Proofs.YtagmodjadmecdaaGreat
