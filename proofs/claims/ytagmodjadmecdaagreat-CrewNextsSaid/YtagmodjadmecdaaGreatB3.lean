/-
  CrewRests and CrewNexts. Conditions: none.
-/
import Derived.Test.YtagmodjadmecdaaGreatB2
namespace Go.Proofs.YtagmodjadmecdaaGreat
open Go Go.RowKit

theorem chkR_dec (r : Rul) : decide (chkR r = 0) = okRul r := by unfold chkR; cases h : okRul r <;> simp
theorem chkR_two {r : Rul} (h : chkR r ≠ 0) : chkR r = 2 := by
  unfold chkR at h ⊢
  split
  · rename_i h1; rw [if_pos h1] at h; exact absurd rfl h
  · rfl
theorem chkRD_bad {r : Rul} {l : List Dty} (h : ¬ okRul r = true) : chkRD r l = 2 := by unfold chkRD chkR; rw [if_neg h, if_pos (by decide)]
theorem chkRD_ok {r : Rul} {l : List Dty} (h : okRul r = true) : chkRD r l = chkD l := by unfold chkRD chkR; rw [if_pos h, if_neg (by decide)]
/-- There is one first duty. -/
theorem restR_uniq {r : Rul} {l : List Dty} {a x a' x' : Int} (h : RestR r l a x) (h' : RestR r l a' x') : a = a' ∧ x = x' := by
  rcases h with ⟨rfl, rfl, h⟩ | ⟨k, hk, rfl, h1, h2, h3⟩
  · rcases h' with ⟨rfl, rfl, _⟩ | ⟨k', hk', rfl, h1', h2', _⟩
    · exact ⟨rfl, rfl⟩
    · exact absurd (h k' hk') (by rw [← h1']; exact h2')
  · rcases h' with ⟨rfl, rfl, h'⟩ | ⟨k', hk', rfl, h1', h2', h3'⟩
    · exact absurd (h' k hk) (by rw [← h1]; exact h2)
    · rcases Nat.lt_trichotomy k k' with q | q | q
      · exact absurd (h3' k q) (by rw [← h1]; exact h2)
      · subst q; exact ⟨rfl, h1.trans h1'.symm⟩
      · exact absurd (h3 k' q) (by rw [← h1']; exact h2')

theorem Shifts_d (r : Rul) (l : List Dty) (al : Option Addr) (bl ol cl : Nat) (w0 : World) (hl : Sl encDty 4 w0 al bl ol l) (hll : l.length ≤ 1000000) (hpos : 0 < w0.heap.size) :
    CallsV Tryz.prog 11 [.agg #[.int .i64 r.rest, .int .i64 r.span, .int .i64 r.work, .int .i64 r.week, .int .i64 r.ww], .slice al l.length cl] w0 (fun v w' =>
      (∃ ao cp, v = .tuple #[.slice ao 0 cp, .int .i64 (chkRD r l)] ∧ chkRD r l ≠ 0 ∧ Ext w0 w') ∨
      (∃ ao g cp, v = .tuple #[.slice ao (shiftsP r (srtS (l.map lngS))).length cp, .int .i64 0] ∧ Sl encShf 3 w' ao g 0 (shiftsP r (srtS (l.map lngS))) ∧ chkRD r l = 0 ∧ Ext w0 w')) :=
  (Shifts_c r l al bl ol cl w0 hl hll hpos).mono fun v w' ⟨⟨ao, g, cp, sh, e, h1, h2, h3⟩, u⟩ => by
    rcases h3 with ⟨h3, rfl, rfl⟩ | ⟨h3, rfl, rfl⟩
    · exact .inl ⟨ao, cp, h1, h3, u⟩
    · exact .inr ⟨ao, g, cp, h1, h2, h3, u⟩
theorem Rested_b {r : Rul} {l : List Dty} (al : Option Addr) (bl ol cl : Nat) (w0 : World) (hl : Sl encDty 4 w0 al bl ol l) (hll : l.length ≤ 1000000) (hc : chkRD r l ≠ 0) (hpos : 0 < w0.heap.size) :
    CallsV Tryz.prog 12 [.agg #[.int .i64 r.rest, .int .i64 r.span, .int .i64 r.work, .int .i64 r.week, .int .i64 r.ww], .slice al l.length cl] w0 (fun v w' => v = .tuple #[.int .i64 0, .int .i64 0, .bool false, .int .i64 (chkRD r l)] ∧ Ext w0 w') :=
  (Rested_c r l al bl ol cl w0 hl hll hpos).mono fun v w' ⟨⟨a, rule, pos, e, h1, h2⟩, u⟩ => by
    rcases h2 with ⟨_, rfl, rfl, rfl, rfl⟩ | ⟨h2, _⟩
    · exact ⟨h1, u⟩
    · exact absurd h2 hc
theorem Next_d (r : Rul) (l : List Dty) (al : Option Addr) (bl ol cl : Nat) (f len : Int) (w0 : World) (hl : Sl encDty 4 w0 al bl ol l) (hll : l.length ≤ 1000000) (hpos : 0 < w0.heap.size) :
    CallsV Tryz.prog 20 [.agg #[.int .i64 r.rest, .int .i64 r.span, .int .i64 r.work, .int .i64 r.week, .int .i64 r.ww], .slice al l.length cl, .int .i64 f, .int .i64 len] w0 (fun v w' =>
      (v = .tuple #[.int .i64 0, .int .i64 (chkRD r l)] ∧ chkRD r l ≠ 0 ∧ Ext w0 w') ∨
      (v = .tuple #[.int .i64 0, .int .i64 3] ∧ chkRD r l = 0 ∧ ¬ ((0 ≤ f ∧ f ≤ 20160) ∧ (1 ≤ len ∧ len ≤ 20160)) ∧ Ext w0 w') ∨
      (v = .tuple #[.int .i64 0, .int .i64 9] ∧ chkRD r l = 0 ∧ ((0 ≤ f ∧ f ≤ 20160) ∧ (1 ≤ len ∧ len ≤ 20160)) ∧ brokP r (srtS (l.map lngS)) ≠ 0 ∧ Ext w0 w') ∨
      (∃ t, v = .tuple #[.int .i64 t, .int .i64 0] ∧ chkRD r l = 0 ∧ ((0 ≤ f ∧ f ≤ 20160) ∧ (1 ≤ len ∧ len ≤ 20160)) ∧ brokP r (srtS (l.map lngS)) = 0 ∧ (mxF (srtS (l.map lngS)) f (srtS (l.map lngS)).length ≤ t ∧ t + len ≤ 20160 ∧ brokP r (insS ⟨t, t + len⟩ (srtS (l.map lngS))) = 0 ∧ ∀ u, mxF (srtS (l.map lngS)) f (srtS (l.map lngS)).length ≤ u → u < t → brokP r (insS ⟨u, u + len⟩ (srtS (l.map lngS))) ≠ 0) ∧ Ext w0 w') ∨
      (v = .tuple #[.int .i64 0, .int .i64 7] ∧ chkRD r l = 0 ∧ ((0 ≤ f ∧ f ≤ 20160) ∧ (1 ≤ len ∧ len ≤ 20160)) ∧ brokP r (srtS (l.map lngS)) = 0 ∧ (∀ u, mxF (srtS (l.map lngS)) f (srtS (l.map lngS)).length ≤ u → u + len ≤ 20160 → brokP r (insS ⟨u, u + len⟩ (srtS (l.map lngS))) ≠ 0) ∧ Ext w0 w')) :=
  (Next_c r l al bl ol cl f len w0 hl hll hpos).mono fun v w' ⟨⟨t, e, h1, h2⟩, u⟩ => by
    rcases h2 with ⟨h2, rfl, rfl⟩ | ⟨h2, h3, rfl, rfl⟩ | ⟨h2, h3, ⟨h4, rfl, rfl⟩ | ⟨h4, ⟨rfl, h5⟩ | ⟨rfl, rfl, h5⟩⟩⟩
    · exact .inl ⟨h1, h2, u⟩
    · exact .inr (.inl ⟨h1, h2, h3, u⟩)
    · exact .inr (.inr (.inl ⟨h1, h2, h3, h4, u⟩))
    · exact .inr (.inr (.inr (.inl ⟨t, h1, h2, h3, h4, h5, u⟩)))
    · exact .inr (.inr (.inr (.inr ⟨h1, h2, h3, h4, h5, u⟩)))

theorem own3 : Own Tryz.prog 3 := ⟨Tryz.f3, Tryz.func3, by kernel_rfl, by kernel_rfl⟩
theorem own4 : Own Tryz.prog 4 := ⟨Tryz.f4, Tryz.func4, by kernel_rfl, by kernel_rfl⟩
theorem own14 : Own Tryz.prog 14 := ⟨Tryz.f14, Tryz.func14, by kernel_rfl, by kernel_rfl⟩

theorem eqIn35 (n : Nat) (a0 : Int) (a1 : Int) (b0 : Int) (b1 : Int) (w : World) : (Op.equalIn (n + 2) 35 (.agg #[.int .i64 a0, .int .i64 a1]) (.agg #[.int .i64 b0, .int .i64 b1])).run Tryz.prog w = .ok (decide (a0 = b0) && decide (a1 = b1)) w := by
  have hS : Tryz.prog.underlying 35 = some (.struct (Tryz.prog.fieldsOf 35)) := by kernel_rfl
  have hp : Tryz.prog.stoodInHeld 35 = false := by kernel_rfl
  have p0 : ∀ (a0 : Int) (a1 : Int), (part 3 #[.int .i64 a0, .int .i64 a1] 0).run Tryz.prog w = .ok (.int .i64 a0) w := fun _ _ => by simp [part, Tryz.isAgg3]
  have p1 : ∀ (a0 : Int) (a1 : Int), (part 3 #[.int .i64 a0, .int .i64 a1] 1).run Tryz.prog w = .ok (.int .i64 a1) w := fun _ _ => by simp [part, Tryz.isAgg3]
  have e3 := fun a b w => equal_i64 Tryz.underlying3 (n + 0) a b w
  rw [run_equalIn_struct w (n + 1) 35 _ _ hS hp]
  simp only [Program.fieldsOf, Tryz.underlying35]
  simp only [Op.eqFields, Sem.run_bind, Sem.run_ite, p0, p1, e3, Result.andThen_ok]
  by_cases h0 : a0 = b0 <;> by_cases h1 : a1 = b1 <;> simp [h0, h1, p0, p1, e3]
theorem eqIn37 (n : Nat) (a0 : Int) (a1 : Int) (a2 : Int) (a3 : Int) (b0 : Int) (b1 : Int) (b2 : Int) (b3 : Int) (w : World) : (Op.equalIn (n + 3) 37 (.agg #[.int .i64 a0, .int .i64 a1, .int .i64 a2, .int .i64 a3]) (.agg #[.int .i64 b0, .int .i64 b1, .int .i64 b2, .int .i64 b3])).run Tryz.prog w = .ok ((decide (a0 = b0) && decide (a1 = b1)) && (decide (a2 = b2) && decide (a3 = b3))) w := by
  have hS : Tryz.prog.underlying 37 = some (.struct (Tryz.prog.fieldsOf 37)) := by kernel_rfl
  have hp : Tryz.prog.stoodInHeld 37 = false := by kernel_rfl
  have p0 : ∀ (a0 : Int) (a1 : Int) (a2 : Int) (a3 : Int), (part 35 #[.int .i64 a0, .int .i64 a1, .int .i64 a2, .int .i64 a3] 0).run Tryz.prog w = .ok (.agg #[.int .i64 a0, .int .i64 a1]) w := fun _ _ _ _ => by simp [part, Tryz.isAgg35, Tryz.sizeOf35]
  have p1 : ∀ (a0 : Int) (a1 : Int) (a2 : Int) (a3 : Int), (part 35 #[.int .i64 a0, .int .i64 a1, .int .i64 a2, .int .i64 a3] 2).run Tryz.prog w = .ok (.agg #[.int .i64 a2, .int .i64 a3]) w := fun _ _ _ _ => by simp [part, Tryz.isAgg35, Tryz.sizeOf35]
  have e35 := eqIn35 (n + 0)
  rw [run_equalIn_struct w (n + 2) 37 _ _ hS hp]
  simp only [Program.fieldsOf, Tryz.underlying37]
  simp only [Op.eqFields, Sem.run_bind, Sem.run_ite, p0, p1, e35, Result.andThen_ok]
  by_cases h0 : (decide (a0 = b0) && decide (a1 = b1)) = true <;> by_cases h1 : (decide (a2 = b2) && decide (a3 = b3)) = true <;> simp [h0, h1, p0, p1, e35]

theorem refused_c (r : Rul) (l : List Dty) (al : Option Addr) (bl ol cl : Nat) (w0 : World) (hl : Sl encDty 4 w0 al bl ol l) (hll : l.length ≤ 1000000) :
    CallsV Tryz.prog 14 [.agg #[.int .i64 r.rest, .int .i64 r.span, .int .i64 r.work, .int .i64 r.week, .int .i64 r.ww], .slice al l.length cl] w0 (fun v w' => v = .int .i64 (chkRD r l) ∧ Ext w0 w') := by
 refine f_enter (N := 10) Tryz.func14 rfl rfl rfl (c_seq fun K1 hK1 => (c_region (t_box (cs := [.int .i64 r.rest, .int .i64 r.span, .int .i64 r.work, .int .i64 r.week, .int .i64 r.ww]) rfl rfl rfl rfl (fun bk2 w3 ebk2 sbk2 B4 u5 => ?_))))
 have zu5 := u5.size
 refine t_assign rfl rfl rfl (t_nil' (hK1 _ _ (c_seq fun K7 hK7 => (c_seq fun K8 hK8 => (c_region (t_loadN (vs := [.int .i64 r.rest, .int .i64 r.span, .int .i64 r.work, .int .i64 r.week, .int .i64 r.ww]) Tryz.isAgg23 Tryz.sizeOf23 rfl rfl rfl (B4.at.sub 0 5) rfl (t_call own13 rfl rfl rfl rfl (rRules_c r _) (fun v9 w10 r12 => ?_))))))))
 obtain ⟨rfl, u11⟩ := r12
 have zu11 := u11.size
 have E13 := ((Upd.refl (fun _ => False) w0).nx u5).nx u11
 refine t_not rfl rfl rfl (t_nil' (hK8 _ _ (c_cond rfl (fun g7 => ?_) (fun g7 => ?_))))
 ·
  refine c_seq fun K14 hK14 => (c_region (t_assign rfl rfl rfl (t_nil' (hK14 _ _ (c_ret (f_ret1 (v := .int .i64 2) Tryz.results14 rfl ?_))))))
  exact ⟨congrArg (Value.int .i64) (chkRD_bad (by simpa using g7)).symm, E13⟩
 refine c_skip (hK7 _ _ (c_seq fun K15 hK15 => (c_region (t_move rfl rfl rfl (t_call own54 rfl rfl rfl rfl (rDuties_c l al bl ol cl _ (hl.keep E13 (fun _ h => h)) hll) (fun v16 w17 r19 => ?_))))))
 obtain ⟨rfl, u18⟩ := r19
 have zu18 := u18.size
 refine t_assign rfl rfl rfl (t_nil' (hK15 _ _ (c_ret (f_ret1 (v := .int .i64 (chkD l)) Tryz.results14 rfl ?_))))
 exact ⟨congrArg (Value.int .i64) (chkRD_ok (by simpa using g7)).symm, (E13.nx u18)⟩

set_option maxHeartbeats 1000000 in
theorem CrewRests_c (r : Rul) (l : List Dty) (al : Option Addr) (bl ol cl : Nat) (w0 : World) (hl : Sl encDty 4 w0 al bl ol l) (hcl : l.length ≤ cl) (hcm : cl ≤ 9223372036854775807) :
    CallsV Tryz.prog 3 [.agg #[.int .i64 r.rest, .int .i64 r.span, .int .i64 r.work, .int .i64 r.week, .int .i64 r.ww], .slice al l.length cl] w0 (fun v w' => v = .bool true ∧ Ext w0 w') := by
 refine f_enter (N := 160) Tryz.func3 rfl rfl rfl (c_seq fun K1 hK1 => (c_region (t_box (cs := [.int .i64 r.rest, .int .i64 r.span, .int .i64 r.work, .int .i64 r.week, .int .i64 r.ww]) rfl rfl rfl rfl (fun bk2 w3 ebk2 sbk2 B4 u5 => ?_))))
 have zu5 := u5.size
 have E6 := (Upd.refl (fun _ => False) w0).nx u5
 refine t_assign rfl rfl rfl (t_nil' (hK1 _ _ (c_seq fun K7 hK7 => (c_seq fun K8 hK8 => (c_region (t_move rfl rfl rfl (t_len Tryz.underlying24 rfl rfl rfl rfl (t_cmp rfl rfl rfl rfl rfl (t_nil' (hK8 _ _ (c_condp rfl (fun g21 => ?_) (fun g21 => ?_))))))))))))
 ·
  refine c_seq fun K9 hK9 => (c_region (t_call own8 rfl rfl rfl rfl (known_c _) (fun v10 w11 r13 => ?_)))
  obtain ⟨rfl, u12⟩ := r13
  have zu12 := u12.size
  refine t_assign rfl rfl rfl (t_nil' (hK9 _ _ (c_ret (f_ret1 (v := .bool true) Tryz.results3 rfl ?_))))
  exact ⟨rfl, (E6.nx u12)⟩
 refine c_skip (hK7 _ _ (c_seq fun K15 hK15 => (c_region (t_move rfl rfl rfl (t_call own9 rfl rfl rfl rfl (duties_c l al bl ol cl _ (hl.keep E6 (fun _ h => h)) (by omega) (by omega)) (fun v17 w18 r20 => ?_))))))
 obtain ⟨⟨aoY16, gY16, cY16, rfl, haY16⟩, u19⟩ := r20
 have zu19 := u19.size
 have lt_gY16 := haY16.lt
 refine t_assign rfl rfl rfl (t_nil' (hK15 _ _ (c_seq fun K22 hK22 => (c_region ?_))))
 have B23 := (B4.kx u19)
 refine t_loadN (vs := [.int .i64 r.rest, .int .i64 r.span, .int .i64 r.work, .int .i64 r.week, .int .i64 r.ww]) Tryz.isAgg23 Tryz.sizeOf23 rfl rfl rfl (B23.at.sub 0 5) rfl (t_call own10 rfl rfl rfl rfl (Check_c r _) (fun v24 w25 r27 => ?_))
 obtain ⟨rfl, u26⟩ := r27
 have zu26 := u26.size
 have E28 := (E6.nx u19).nx u26
 refine t_assign rfl rfl rfl (t_nil' (hK22 _ _ (c_seq fun K29 hK29 => (c_region ?_))))
 have B30 := (B23.kx u26)
 refine t_loadN (vs := [.int .i64 r.rest, .int .i64 r.span, .int .i64 r.work, .int .i64 r.week, .int .i64 r.ww]) Tryz.isAgg23 Tryz.sizeOf23 rfl rfl rfl (B30.at.sub 0 5) rfl (t_move rfl rfl rfl ?_)
 have D31 := (haY16.keep u26 (fun _ h => h))
 refine t_call own11 rfl rfl rfl rfl (Shifts_d r l aoY16 gY16 0 cY16 _ (D31.sl (fun _ => rfl)) (by omega) (by omega)) (fun v32 w33 r35 => ?_)
 rcases r35 with ⟨aoS, cS, rfl, hcN, u34⟩ | ⟨aoS, gS, cS, rfl, hSh, hc0, u34⟩
 ·
  have zu34 := u34.size
  refine t_move rfl rfl rfl (t_extract rfl rfl rfl rfl (t_extract rfl rfl rfl rfl (t_assign rfl rfl rfl (t_assign rfl rfl rfl (t_nil' (hK29 _ _ (c_seq fun K37 hK37 => (c_region ?_))))))))
  have B38 := (B30.kx u34)
  refine t_loadN (vs := [.int .i64 r.rest, .int .i64 r.span, .int .i64 r.work, .int .i64 r.week, .int .i64 r.ww]) Tryz.isAgg23 Tryz.sizeOf23 rfl rfl rfl (B38.at.sub 0 5) rfl (t_move rfl rfl rfl ?_)
  have D39 := (D31.keep u34 (fun _ h => h))
  refine t_call own12 rfl rfl rfl rfl (Rested_b aoY16 gY16 0 cY16 _ (D39.sl (fun _ => rfl)) (by omega) hcN (by omega)) (fun v40 w41 r43 => ?_)
  obtain ⟨rfl, u42⟩ := r43
  have zu42 := u42.size
  refine t_move rfl rfl rfl (t_extract rfl rfl rfl rfl (t_extract rfl rfl rfl rfl (t_extract rfl rfl rfl rfl (t_extract rfl rfl rfl rfl (t_assign rfl rfl rfl (t_assign rfl rfl rfl (t_assign rfl rfl rfl (t_assign rfl rfl rfl (t_nil' (hK37 _ _ (c_seq fun K45 hK45 => (c_seq fun K46 hK46 => (c_region (t_assign rfl rfl rfl (t_nil' (hK46 _ _ (c_block (c_loop (γ := Nat) (fun k => [(1, .slice al l.length cl), (2, .pointer (some ⟨bk2, 0, none⟩)), (5, .slice aoY16 l.length cY16), (6, .int .i64 (chkR r)), (7, .slice aoS 0 cS), (8, .int .i64 (chkRD r l)), (9, .int .i64 0), (10, .int .i64 0), (11, .bool false), (12, .int .i64 (chkRD r l)), (13, .int .i64 (k : Int))]) (fun k w => Upd (fun _ => False) w41 w ∧ (k ≤ l.length)) (fun k => l.length - k) 0 ⟨rfl, rfl, rfl, rfl, rfl, rfl, rfl, rfl, rfl, rfl, rfl, trivial⟩ ⟨Upd.refl _ _, (Nat.zero_le _)⟩ ?_))))))))))))))))))
  intro k w48 hW K47 hK47
  obtain ⟨u49, I50⟩ := hW
  have zu49 := u49.size
  have E51 := ((E28.nx u34).nx u42).nx u49
  have hk := I50; clear I50
  refine c_seq fun K52 hK52 => (c_seq fun K53 hK53 => (c_region (t_move rfl rfl rfl (t_move rfl rfl rfl (t_len Tryz.underlying24 rfl rfl rfl rfl (t_cmp rfl rfl rfl rfl rfl (t_nil' (hK53 _ _ (c_condp rfl (fun g44 => ?_) (fun g44 => ?_))))))))))
  ·
   refine c_skip (hK52 _ _ (c_seq fun K54 hK54 => (c_block (c_seq fun K55 hK55 => (c_drawnM follows (fun _ => False) (.look 0 (.look 1 (.look 2 (.look 3 (.look 4 (.look 5 (.look 6 (.look 7 (.look 8 .done))))))))) (by kernel_rfl) fun w56 u57 => ?_)))))
   have zu57 := u57.size
   have E58 := E51.nx u57
   refine y_move rfl rfl rfl (y_move rfl rfl rfl ?_)
   have D59 := (((D39.keep u42 (fun _ h => h)).keep u49 (fun _ h => h)).keep u57 (fun _ h => h))
   have i60 : k < l.length := (by omega)
   refine y_index (j := k) Tryz.underlying24 Tryz.sizeOf37 rfl rfl rfl rfl ((D59.sl (fun _ => rfl)).addr (by omega)) rfl i60 ?_
   have D61 := (((D39.keep u42 (fun _ h => h)).keep u49 (fun _ h => h)).keep u57 (fun _ h => h))
   refine y_loadN (vs := [.int .i64 ((nth l k).bl), .int .i64 ((nth l k).bh), .int .i64 ((nth l k).el), .int .i64 ((nth l k).eh)]) Tryz.isAgg37 Tryz.sizeOf37 rfl rfl rfl (((D61.sl (fun _ => rfl)).at_ k (by omega)).sub 0 4) rfl (fun h => h) (y_move rfl rfl rfl (y_move rfl rfl rfl ?_))
   have i62 : k < l.length := (by omega)
   refine y_index (j := k) Tryz.underlying24 Tryz.sizeOf37 rfl rfl rfl rfl ((hl.keep E58 (fun _ h => h)).addr (by omega)) rfl i62 (y_loadN (vs := [.int .i64 ((nth l k).bl), .int .i64 ((nth l k).bh), .int .i64 ((nth l k).el), .int .i64 ((nth l k).eh)]) Tryz.isAgg37 Tryz.sizeOf37 rfl rfl rfl (((hl.keep E58 (fun _ h => h)).at_ k (by omega)).sub 0 4) rfl (fun h => h) (y_neS (xs := [.int .i64 ((nth l k).bl), .int .i64 ((nth l k).bh), .int .i64 ((nth l k).el), .int .i64 ((nth l k).eh)]) (ys := [.int .i64 ((nth l k).bl), .int .i64 ((nth l k).bh), .int .i64 ((nth l k).el), .int .i64 ((nth l k).eh)]) (by kernel_rfl) (eqIn37 9997 ((nth l k).bl) ((nth l k).bh) ((nth l k).el) ((nth l k).eh) ((nth l k).bl) ((nth l k).bh) ((nth l k).el) ((nth l k).eh)) rfl rfl rfl rfl (y_samehd (v := .bool false) (by simp) (s_nil (hK55 _ _ (c_cond_f rfl (c_skip (hK54 _ _ (c_region (t_move rfl rfl rfl (t_ari rfl rfl rfl rfl rfl (by omega) (t_assign rfl rfl rfl (t_nil' ?_)))))))))))))
   exact hK47 (k + 1) _ _ (by omega) ⟨rfl, rfl, rfl, rfl, rfl, rfl, rfl, rfl, rfl, rfl, rfl, trivial⟩ ⟨(u49.next u57 (fun _ _ h => h.elim)), (by omega)⟩
  refine c_exit (hK45 _ _ (c_seq fun K63 hK63 => (c_cut (γ := Nat) (fun zz => [(1, .slice al l.length cl), (2, .pointer (some ⟨bk2, 0, none⟩)), (7, .slice aoS 0 cS), (8, .int .i64 (chkRD r l)), (9, .int .i64 0), (10, .int .i64 0), (11, .bool false), (12, .int .i64 (chkRD r l)), (68, .bool false)]) (fun zz w => Upd (fun _ => False) w48 w) (fun K65 hK65 => ?_) ?_)))
  ·
   refine c_region (t_move rfl rfl rfl (t_cmp rfl rfl rfl rfl rfl ?_))
   have B68 := ((B38.kx u42).kx u49)
   refine t_loadN (vs := [.int .i64 r.rest, .int .i64 r.span, .int .i64 r.work, .int .i64 r.week, .int .i64 r.ww]) Tryz.isAgg23 Tryz.sizeOf23 rfl rfl rfl (B68.at.sub 0 5) rfl (t_call own13 rfl rfl rfl rfl (rRules_c r _) (fun v69 w70 r72 => ?_))
   obtain ⟨rfl, u71⟩ := r72
   have zu71 := u71.size
   refine t_neB Tryz.underlying4 rfl rfl rfl rfl (t_same 60 (v := .bool false) rfl (congrArg Value.bool (decide_eq_false (fun h => h (chkR_dec r)))) (t_move rfl rfl rfl (t_move rfl rfl rfl (t_cmp rfl rfl rfl rfl rfl (t_move rfl rfl rfl (t_splitp 64 rfl (fun g64 => ?_) (fun g64 => ?_)))))))
   ·
    refine t_move rfl rfl rfl (t_cmp rfl rfl rfl rfl rfl (t_same 66 (v := .bool false) rfl (congrArg Value.bool (decide_eq_false (fun h => h (chkR_two g64)))) (t_pick_t rfl rfl rfl rfl (t_pick_f rfl rfl rfl rfl (t_nil' ?_)))))
    exact hK65 0 _ _ ⟨rfl, rfl, rfl, rfl, rfl, rfl, rfl, rfl, rfl, trivial⟩ ((Upd.refl _ _).next u71 (fun _ _ h => h.elim))
   refine t_skip rfl rfl rfl (t_skip rfl rfl rfl (t_pick_f rfl rfl rfl rfl (t_pick_f rfl rfl rfl rfl (t_nil' ?_))))
   exact hK65 0 _ _ ⟨rfl, rfl, rfl, rfl, rfl, rfl, rfl, rfl, rfl, trivial⟩ ((Upd.refl _ _).next u71 (fun _ _ h => h.elim))
  intro zz w66 u67
  have zu67 := u67.size
  have E74 := E51.nx u67
  refine c_cond_f rfl (c_skip (hK63 _ _ (c_seq fun K75 hK75 => (c_seq fun K76 hK76 => (c_region ?_)))))
  have B77 := (((B38.kx u42).kx u49).kx u67)
  refine t_loadN (vs := [.int .i64 r.rest, .int .i64 r.span, .int .i64 r.work, .int .i64 r.week, .int .i64 r.ww]) Tryz.isAgg23 Tryz.sizeOf23 rfl rfl rfl (B77.at.sub 0 5) rfl (t_move rfl rfl rfl (t_call own14 rfl rfl rfl rfl (refused_c r l al bl ol cl _ (hl.keep E74 (fun _ h => h)) (by omega)) (fun v78 w79 r81 => ?_)))
  obtain ⟨rfl, u80⟩ := r81
  have zu80 := u80.size
  refine t_assign rfl rfl rfl (t_nil' (hK76 _ _ (c_seq fun K83 hK83 => (c_region (t_move rfl rfl rfl (t_cmp rfl rfl rfl rfl rfl (t_nil' (hK83 _ _ (c_condp rfl (fun g73 => ?_) (fun g73 => ?_))))))))))
  ·
   refine c_seq fun K84 hK84 => (c_region (t_move rfl rfl rfl (t_move rfl rfl rfl (t_cmp rfl rfl rfl rfl rfl (t_samehd (v := .bool true) (by simp) (t_move rfl rfl rfl (t_move rfl rfl rfl (t_move rfl rfl rfl (t_cmp rfl rfl rfl rfl rfl (t_samehd (v := .bool true) (by simp) (t_pick_t rfl rfl rfl rfl (t_move rfl rfl rfl (t_move rfl rfl rfl (t_len Tryz.underlying29 rfl rfl rfl rfl (t_cmp rfl rfl rfl rfl rfl (t_samehd (v := .bool true) rfl (t_pick_t rfl rfl rfl rfl (t_move rfl rfl rfl (t_move rfl rfl rfl (t_cmp rfl rfl rfl rfl rfl (t_samehd (v := .bool true) rfl (t_pick_t rfl rfl rfl rfl (t_move rfl rfl rfl ?_)))))))))))))))))))))))
   refine t_move rfl rfl rfl (t_cmp rfl rfl rfl rfl rfl (t_samehd (v := .bool true) rfl (t_pick_t rfl rfl rfl rfl (t_move rfl rfl rfl (t_move rfl rfl rfl (t_not rfl rfl rfl (t_pick_t rfl rfl rfl rfl (t_move rfl rfl rfl (t_call own8 rfl rfl rfl rfl (known_c _) (fun v85 w86 r88 => ?_))))))))))
   obtain ⟨rfl, u87⟩ := r88
   have zu87 := u87.size
   refine t_pick_t rfl rfl rfl rfl (t_assign rfl rfl rfl (t_nil' (hK84 _ _ (c_ret (f_ret1 (v := .bool true) Tryz.results3 rfl ?_)))))
   exact ⟨rfl, ((E74.nx u80).nx u87)⟩
  exact absurd hcN g73
 have zu34 := u34.size
 obtain ⟨hr, hl20, hod⟩ := chk_ok hc0
 have hsl := shifts_len (r := r) (l := srtS (l.map lngS))
 rw [srt_len, List.length_map] at hsl
 refine t_move rfl rfl rfl (t_extract rfl rfl rfl rfl (t_extract rfl rfl rfl rfl (t_assign rfl rfl rfl (t_assign rfl rfl rfl (t_nil' (hK29 _ _ (c_seq fun K91 hK91 => (c_region ?_))))))))
 have B92 := (B30.kx u34)
 refine t_loadN (vs := [.int .i64 r.rest, .int .i64 r.span, .int .i64 r.work, .int .i64 r.week, .int .i64 r.ww]) Tryz.isAgg23 Tryz.sizeOf23 rfl rfl rfl (B92.at.sub 0 5) rfl (t_move rfl rfl rfl ?_)
 have D93 := (D31.keep u34 (fun _ h => h))
 refine t_call own12 rfl rfl rfl rfl (Rested_v aoY16 gY16 0 cY16 _ (D93.sl (fun _ => rfl)) hc0 (by omega)) (fun v94 w95 r97 => ?_)
 obtain ⟨⟨at1, rule1, rfl, hR1⟩, u96⟩ := r97
 have zu96 := u96.size
 refine t_move rfl rfl rfl (t_extract rfl rfl rfl rfl (t_extract rfl rfl rfl rfl (t_extract rfl rfl rfl rfl (t_extract rfl rfl rfl rfl (t_assign rfl rfl rfl (t_assign rfl rfl rfl (t_assign rfl rfl rfl (t_assign rfl rfl rfl (t_nil' (hK91 _ _ (c_seq fun K99 hK99 => (c_seq fun K100 hK100 => (c_region (t_assign rfl rfl rfl (t_nil' (hK100 _ _ (c_block (c_loop (γ := Nat) (fun k => [(1, .slice al l.length cl), (2, .pointer (some ⟨bk2, 0, none⟩)), (5, .slice aoY16 l.length cY16), (6, .int .i64 (chkR r)), (7, .slice aoS ((shiftsP r (srtS (l.map lngS))).length) cS), (8, .int .i64 0), (9, .int .i64 at1), (10, .int .i64 rule1), (11, .bool (decide ((brokP r (srtS (l.map shtS))) = 0))), (12, .int .i64 0), (13, .int .i64 (k : Int))]) (fun k w => Upd (fun _ => False) w95 w ∧ (k ≤ l.length)) (fun k => l.length - k) 0 ⟨rfl, rfl, rfl, rfl, rfl, rfl, rfl, rfl, rfl, rfl, rfl, trivial⟩ ⟨Upd.refl _ _, (Nat.zero_le _)⟩ ?_))))))))))))))))))
 intro k w102 hW K101 hK101
 obtain ⟨u103, I104⟩ := hW
 have zu103 := u103.size
 have E105 := ((E28.nx u34).nx u96).nx u103
 have hk := I104; clear I104
 refine c_seq fun K106 hK106 => (c_seq fun K107 hK107 => (c_region (t_move rfl rfl rfl (t_move rfl rfl rfl (t_len Tryz.underlying24 rfl rfl rfl rfl (t_cmp rfl rfl rfl rfl rfl (t_nil' (hK107 _ _ (c_condp rfl (fun g44 => ?_) (fun g44 => ?_))))))))))
 ·
  refine c_skip (hK106 _ _ (c_seq fun K108 hK108 => (c_block (c_seq fun K109 hK109 => (c_drawnM follows (fun _ => False) (.look 0 (.look 1 (.look 2 (.look 3 (.look 4 (.look 5 (.look 6 (.look 7 (.look 8 .done))))))))) (by kernel_rfl) fun w110 u111 => ?_)))))
  have zu111 := u111.size
  have E112 := E105.nx u111
  refine y_move rfl rfl rfl (y_move rfl rfl rfl ?_)
  have D113 := (((D93.keep u96 (fun _ h => h)).keep u103 (fun _ h => h)).keep u111 (fun _ h => h))
  have i114 : k < l.length := (by omega)
  refine y_index (j := k) Tryz.underlying24 Tryz.sizeOf37 rfl rfl rfl rfl ((D113.sl (fun _ => rfl)).addr (by omega)) rfl i114 ?_
  have D115 := (((D93.keep u96 (fun _ h => h)).keep u103 (fun _ h => h)).keep u111 (fun _ h => h))
  refine y_loadN (vs := [.int .i64 ((nth l k).bl), .int .i64 ((nth l k).bh), .int .i64 ((nth l k).el), .int .i64 ((nth l k).eh)]) Tryz.isAgg37 Tryz.sizeOf37 rfl rfl rfl (((D115.sl (fun _ => rfl)).at_ k (by omega)).sub 0 4) rfl (fun h => h) (y_move rfl rfl rfl (y_move rfl rfl rfl ?_))
  have i116 : k < l.length := (by omega)
  refine y_index (j := k) Tryz.underlying24 Tryz.sizeOf37 rfl rfl rfl rfl ((hl.keep E112 (fun _ h => h)).addr (by omega)) rfl i116 (y_loadN (vs := [.int .i64 ((nth l k).bl), .int .i64 ((nth l k).bh), .int .i64 ((nth l k).el), .int .i64 ((nth l k).eh)]) Tryz.isAgg37 Tryz.sizeOf37 rfl rfl rfl (((hl.keep E112 (fun _ h => h)).at_ k (by omega)).sub 0 4) rfl (fun h => h) (y_neS (xs := [.int .i64 ((nth l k).bl), .int .i64 ((nth l k).bh), .int .i64 ((nth l k).el), .int .i64 ((nth l k).eh)]) (ys := [.int .i64 ((nth l k).bl), .int .i64 ((nth l k).bh), .int .i64 ((nth l k).el), .int .i64 ((nth l k).eh)]) (by kernel_rfl) (eqIn37 9997 ((nth l k).bl) ((nth l k).bh) ((nth l k).el) ((nth l k).eh) ((nth l k).bl) ((nth l k).bh) ((nth l k).el) ((nth l k).eh)) rfl rfl rfl rfl (y_samehd (v := .bool false) (by simp) (s_nil (hK109 _ _ (c_cond_f rfl (c_skip (hK108 _ _ (c_region (t_move rfl rfl rfl (t_ari rfl rfl rfl rfl rfl (by omega) (t_assign rfl rfl rfl (t_nil' ?_)))))))))))))
  exact hK101 (k + 1) _ _ (by omega) ⟨rfl, rfl, rfl, rfl, rfl, rfl, rfl, rfl, rfl, rfl, rfl, trivial⟩ ⟨(u103.next u111 (fun _ _ h => h.elim)), (by omega)⟩
 refine c_exit (hK99 _ _ (c_seq fun K117 hK117 => (c_cut (γ := Nat) (fun zz => [(1, .slice al l.length cl), (2, .pointer (some ⟨bk2, 0, none⟩)), (7, .slice aoS ((shiftsP r (srtS (l.map lngS))).length) cS), (8, .int .i64 0), (9, .int .i64 at1), (10, .int .i64 rule1), (11, .bool (decide ((brokP r (srtS (l.map shtS))) = 0))), (12, .int .i64 0), (68, .bool false)]) (fun zz w => Upd (fun _ => False) w102 w) (fun K119 hK119 => ?_) ?_)))
 ·
  refine c_region (t_move rfl rfl rfl (t_cmp rfl rfl rfl rfl rfl ?_))
  have B122 := ((B92.kx u96).kx u103)
  refine t_loadN (vs := [.int .i64 r.rest, .int .i64 r.span, .int .i64 r.work, .int .i64 r.week, .int .i64 r.ww]) Tryz.isAgg23 Tryz.sizeOf23 rfl rfl rfl (B122.at.sub 0 5) rfl (t_call own13 rfl rfl rfl rfl (rRules_c r _) (fun v123 w124 r126 => ?_))
  obtain ⟨rfl, u125⟩ := r126
  have zu125 := u125.size
  refine t_neB Tryz.underlying4 rfl rfl rfl rfl (t_same 60 (v := .bool false) rfl (congrArg Value.bool (decide_eq_false (fun h => h (chkR_dec r)))) (t_move rfl rfl rfl (t_move rfl rfl rfl (t_cmp rfl rfl rfl rfl rfl (t_move rfl rfl rfl (t_splitp 64 rfl (fun g64 => ?_) (fun g64 => ?_)))))))
  ·
   refine t_move rfl rfl rfl (t_cmp rfl rfl rfl rfl rfl (t_same 66 (v := .bool false) rfl (congrArg Value.bool (decide_eq_false (fun h => h (chkR_two g64)))) (t_pick_t rfl rfl rfl rfl (t_pick_f rfl rfl rfl rfl (t_nil' ?_)))))
   exact hK119 0 _ _ ⟨rfl, rfl, rfl, rfl, rfl, rfl, rfl, rfl, rfl, trivial⟩ ((Upd.refl _ _).next u125 (fun _ _ h => h.elim))
  refine t_skip rfl rfl rfl (t_skip rfl rfl rfl (t_pick_f rfl rfl rfl rfl (t_pick_f rfl rfl rfl rfl (t_nil' ?_))))
  exact hK119 0 _ _ ⟨rfl, rfl, rfl, rfl, rfl, rfl, rfl, rfl, rfl, trivial⟩ ((Upd.refl _ _).next u125 (fun _ _ h => h.elim))
 intro zz w120 u121
 have zu121 := u121.size
 have E128 := E105.nx u121
 refine c_cond_f rfl (c_skip (hK117 _ _ (c_seq fun K129 hK129 => (c_seq fun K130 hK130 => (c_region ?_)))))
 have B131 := (((B92.kx u96).kx u103).kx u121)
 refine t_loadN (vs := [.int .i64 r.rest, .int .i64 r.span, .int .i64 r.work, .int .i64 r.week, .int .i64 r.ww]) Tryz.isAgg23 Tryz.sizeOf23 rfl rfl rfl (B131.at.sub 0 5) rfl (t_move rfl rfl rfl (t_call own14 rfl rfl rfl rfl ((refused_c r l al bl ol cl _ (hl.keep E128 (fun _ h => h)) (by omega)).mono fun v w9 h9 => (⟨h9.1.trans (congrArg (Value.int .i64) hc0), h9.2⟩ : v = Value.int .i64 0 ∧ _)) (fun v132 w133 r135 => ?_)))
 obtain ⟨rfl, u134⟩ := r135
 have zu134 := u134.size
 refine t_assign rfl rfl rfl (t_nil' (hK130 _ _ (c_seq fun K137 hK137 => (c_region (t_move rfl rfl rfl (t_cmp rfl rfl rfl rfl rfl (t_samehd (v := .bool false) rfl (t_nil' (hK137 _ _ (c_cond_f rfl (c_skip (hK129 _ _ (c_seq fun K138 hK138 => (c_drawnM follows (fun _ => False) (.look 0 (.look 1 (.act 2 (.act 3 (.look 4 .done) .stop) .stop))) (by kernel_rfl) fun w139 u140 => ?_))))))))))))))
 have zu140 := u140.size
 have E141 := (E128.nx u134).nx u140
 have B142 := ((B131.kx u134).kx u140)
 refine y_loadN (vs := [.int .i64 r.rest, .int .i64 r.span, .int .i64 r.work, .int .i64 r.week, .int .i64 r.ww]) Tryz.isAgg23 Tryz.sizeOf23 rfl rfl rfl (B142.at.sub 0 5) rfl (fun h => h) (y_move rfl rfl rfl (s_do (t_call own16 rfl rfl rfl rfl (rLongest_c l al bl ol cl _ (hl.keep E141 (fun _ h => h)) (by omega) (by omega)) (fun v144 w145 r147 => ?_))))
 obtain ⟨⟨aoL143, gL143, cL143, rfl, haL143⟩, u146⟩ := r147
 have zu146 := u146.size
 have lt_gL143 := haL143.lt
 refine s_next ((Upd.refl _ _).nx u146) (s_do (t_call own15 rfl rfl rfl rfl (rShifts_c r (srtS (l.map lngS)) aoL143 gL143 0 cL143 _ (haL143.sl (fun _ => rfl)) (by rw [srt_len, List.length_map]; exact (by omega)) (lngs_ok hod) hr (by omega)) (fun v150 w151 r153 => ?_)))
 obtain ⟨⟨aoS149, gS149, cS149, rfl, haS149⟩, u152⟩ := r153
 have zu152 := u152.size
 have lt_gS149 := haS149.lt
 refine s_next ((Upd.refl _ _).nx u152) (y_assign rfl rfl rfl (s_nil (hK138 _ _ (c_seq fun K155 hK155 => (c_seq fun K156 hK156 => (c_region (t_move rfl rfl rfl (t_cmp rfl rfl rfl rfl rfl (t_samehd (v := .bool false) rfl (t_move rfl rfl rfl (t_move rfl rfl rfl (t_cmp rfl rfl rfl rfl rfl (t_samehd (v := .bool false) rfl (t_pick_f rfl rfl rfl rfl (t_move rfl rfl rfl (t_move rfl rfl rfl (t_len Tryz.underlying29 rfl rfl rfl rfl (t_move rfl rfl rfl (t_len Tryz.underlying29 rfl rfl rfl rfl (t_cmp rfl rfl rfl rfl rfl (t_samehd (v := .bool false) (by simp) (t_pick_f rfl rfl rfl rfl (t_nil' ?_)))))))))))))))))))))))
 refine hK156 _ _ (c_cond_f rfl (c_skip (hK155 _ _ (c_seq fun K157 hK157 => (c_seq fun K158 hK158 => (c_region (t_assign rfl rfl rfl (t_nil' (hK158 _ _ (c_block (c_loop (γ := Nat) (fun k => [(1, .slice al l.length cl), (2, .pointer (some ⟨bk2, 0, none⟩)), (7, .slice aoS ((shiftsP r (srtS (l.map lngS))).length) cS), (9, .int .i64 at1), (10, .int .i64 rule1), (11, .bool (decide ((brokP r (srtS (l.map shtS))) = 0))), (15, .slice aoS149 ((shiftsP r (srtS (l.map lngS))).length) cS149), (16, .int .i64 (k : Int))]) (fun k w => Upd (fun _ => False) w151 w ∧ (k ≤ (shiftsP r (srtS (l.map lngS))).length)) (fun k => (shiftsP r (srtS (l.map lngS))).length - k) 0 ⟨rfl, rfl, rfl, rfl, rfl, rfl, rfl, rfl, trivial⟩ ⟨Upd.refl _ _, (Nat.zero_le _)⟩ ?_)))))))))))
 intro k w160 hW K159 hK159
 obtain ⟨u161, I162⟩ := hW
 have zu161 := u161.size
 have E163 := ((E141.nx u146).nx u152).nx u161
 have hk := I162; clear I162
 refine c_seq fun K164 hK164 => (c_seq fun K165 hK165 => (c_region (t_move rfl rfl rfl (t_move rfl rfl rfl (t_len Tryz.underlying29 rfl rfl rfl rfl (t_cmp rfl rfl rfl rfl rfl (t_nil' (hK165 _ _ (c_condp rfl (fun g122 => ?_) (fun g122 => ?_))))))))))
 ·
  refine c_skip (hK164 _ _ (c_seq fun K166 hK166 => (c_block (c_seq fun K167 hK167 => (c_drawnM follows (fun _ => False) (.look 0 (.look 1 (.look 2 (.look 3 (.look 4 (.look 5 (.look 6 (.look 7 (.look 8 .done))))))))) (by kernel_rfl) fun w168 u169 => ?_)))))
  have zu169 := u169.size
  refine y_move rfl rfl rfl (y_move rfl rfl rfl ?_)
  have D171 := (((((((((hSh.keep u96 (fun _ h => h)).keep u103 (fun _ h => h)).keep u121 (fun _ h => h)).keep u134 (fun _ h => h)).keep u140 (fun _ h => h)).keep u146 (fun _ h => h)).keep u152 (fun _ h => h)).keep u161 (fun _ h => h)).keep u169 (fun _ h => h))
  have i172 : k < (shiftsP r (srtS (l.map lngS))).length := (by omega)
  refine y_index (j := k) Tryz.underlying29 Tryz.sizeOf44 rfl rfl rfl rfl (D171.addr (by omega)) rfl i172 ?_
  have D173 := (((((((((hSh.keep u96 (fun _ h => h)).keep u103 (fun _ h => h)).keep u121 (fun _ h => h)).keep u134 (fun _ h => h)).keep u140 (fun _ h => h)).keep u146 (fun _ h => h)).keep u152 (fun _ h => h)).keep u161 (fun _ h => h)).keep u169 (fun _ h => h))
  refine y_loadN (vs := [.int .i64 ((nth (shiftsP r (srtS (l.map lngS))) k).b), .int .i64 ((nth (shiftsP r (srtS (l.map lngS))) k).e), .int .i64 ((nth (shiftsP r (srtS (l.map lngS))) k).w)]) Tryz.isAgg44 Tryz.sizeOf44 rfl rfl rfl ((D173.at_ k (by omega)).sub 0 3) rfl (fun h => h) (y_move rfl rfl rfl (y_move rfl rfl rfl ?_))
  have D174 := ((haS149.keep u161 (fun _ h => h)).keep u169 (fun _ h => h))
  have i175 : k < (shiftsP r (srtS (l.map lngS))).length := (by omega)
  refine y_index (j := k) Tryz.underlying29 Tryz.sizeOf44 rfl rfl rfl rfl ((D174.sl (fun _ => rfl)).addr (by omega)) rfl i175 ?_
  have D176 := ((haS149.keep u161 (fun _ h => h)).keep u169 (fun _ h => h))
  refine y_loadN (vs := [.int .i64 ((nth (shiftsP r (srtS (l.map lngS))) k).b), .int .i64 ((nth (shiftsP r (srtS (l.map lngS))) k).e), .int .i64 ((nth (shiftsP r (srtS (l.map lngS))) k).w)]) Tryz.isAgg44 Tryz.sizeOf44 rfl rfl rfl (((D176.sl (fun _ => rfl)).at_ k (by omega)).sub 0 3) rfl (fun h => h) (y_neS (xs := [.int .i64 ((nth (shiftsP r (srtS (l.map lngS))) k).b), .int .i64 ((nth (shiftsP r (srtS (l.map lngS))) k).e), .int .i64 ((nth (shiftsP r (srtS (l.map lngS))) k).w)]) (ys := [.int .i64 ((nth (shiftsP r (srtS (l.map lngS))) k).b), .int .i64 ((nth (shiftsP r (srtS (l.map lngS))) k).e), .int .i64 ((nth (shiftsP r (srtS (l.map lngS))) k).w)]) (by kernel_rfl) (eqIn44 9998 ((nth (shiftsP r (srtS (l.map lngS))) k).b) ((nth (shiftsP r (srtS (l.map lngS))) k).e) ((nth (shiftsP r (srtS (l.map lngS))) k).w) ((nth (shiftsP r (srtS (l.map lngS))) k).b) ((nth (shiftsP r (srtS (l.map lngS))) k).e) ((nth (shiftsP r (srtS (l.map lngS))) k).w)) rfl rfl rfl rfl (y_samehd (v := .bool false) (by simp) (s_nil (hK167 _ _ (c_cond_f rfl (c_skip (hK166 _ _ (c_region (t_move rfl rfl rfl (t_ari rfl rfl rfl rfl rfl (by omega) (t_assign rfl rfl rfl (t_nil' ?_))))))))))))
  exact hK159 (k + 1) _ _ (by omega) ⟨rfl, rfl, rfl, rfl, rfl, rfl, rfl, rfl, trivial⟩ ⟨(u161.next u169 (fun _ _ h => h.elim)), (by omega)⟩
 refine c_exit (hK157 _ _ (c_seq fun K177 hK177 => (c_region ?_)))
 have B178 := (((((B131.kx u134).kx u140).kx u146).kx u152).kx u161)
 refine t_loadN (vs := [.int .i64 r.rest, .int .i64 r.span, .int .i64 r.work, .int .i64 r.week, .int .i64 r.ww]) Tryz.isAgg23 Tryz.sizeOf23 rfl rfl rfl (B178.at.sub 0 5) rfl (t_move rfl rfl rfl (t_call own17 rfl rfl rfl rfl (rRested_c r l al bl ol cl _ (hl.keep E163 (fun _ h => h)) (by omega) hod hcl hr (by omega)) (fun v179 w180 r182 => ?_)))
 obtain ⟨⟨at2, rule2, rfl, hR2⟩, u181⟩ := r182
 have zu181 := u181.size
 obtain ⟨e91, e92⟩ := restR_uniq hR1 hR2
 subst e91 e92
 refine t_move rfl rfl rfl (t_extract rfl rfl rfl rfl (t_extract rfl rfl rfl rfl (t_assign rfl rfl rfl (t_assign rfl rfl rfl (t_nil' (hK177 _ _ (c_seq fun K184 hK184 => (c_drawnM follows (fun _ => False) (.look 0 (.look 1 (.look 2 (.look 3 (.look 4 (.look 5 (.look 6 (.look 7 (.look 8 (.look 9 (.look 10 (.look 11 (.act 12 (.act 13 (.look 14 (.look 15 (.look 16 (.look 17 (.act 18 (.look 19 (.look 20 .done)) .stop))))) .stop) .stop))))))))))))) (by kernel_rfl) fun w185 u186 => ?_))))))))
 have zu186 := u186.size
 have E187 := (E163.nx u181).nx u186
 refine y_move rfl rfl rfl (y_move rfl rfl rfl (y_cmp rfl rfl rfl rfl rfl (y_samehd (v := .bool true) (by simp) (y_move rfl rfl rfl (y_move rfl rfl rfl (y_move rfl rfl rfl (y_cmp rfl rfl rfl rfl rfl (y_samehd (v := .bool true) (by simp) (y_pick_t rfl rfl rfl rfl (y_move rfl rfl rfl (y_move rfl rfl rfl ?_)))))))))))
 have B188 := ((B178.kx u181).kx u186)
 refine y_loadN (vs := [.int .i64 r.rest, .int .i64 r.span, .int .i64 r.work, .int .i64 r.week, .int .i64 r.ww]) Tryz.isAgg23 Tryz.sizeOf23 rfl rfl rfl (B188.at.sub 0 5) rfl (fun h => h) (y_move rfl rfl rfl (s_do (t_call own19 rfl rfl rfl rfl (rShortest_c l al bl ol cl _ (hl.keep E187 (fun _ h => h)) (by omega) (by omega)) (fun v190 w191 r193 => ?_))))
 obtain ⟨⟨aoL189, gL189, cL189, rfl, haL189⟩, u192⟩ := r193
 have zu192 := u192.size
 have lt_gL189 := haL189.lt
 refine s_next ((Upd.refl _ _).nx u192) (s_do (t_call own18 rfl rfl rfl rfl (rBroken_c r (srtS (l.map shtS)) aoL189 gL189 0 cL189 _ (haL189.sl (fun _ => rfl)) (by rw [srt_len, List.length_map]; exact (by omega)) (shts_ok hod) hr (by omega)) (fun v195 w196 r198 => ?_)))
 obtain ⟨rfl, u197⟩ := r198
 have zu197 := u197.size
 refine s_next ((Upd.refl _ _).nx u197) (y_cmp rfl rfl rfl rfl rfl (y_eqB Tryz.underlying4 rfl rfl rfl rfl (y_samehd (v := .bool true) (by simp) (y_pick_t rfl rfl rfl rfl (y_move rfl rfl rfl (s_do (t_call own8 rfl rfl rfl rfl (known_c _) (fun v200 w201 r203 => ?_))))))))
 obtain ⟨rfl, u202⟩ := r203
 have zu202 := u202.size
 refine s_next ((Upd.refl _ _).nx u202) (y_pick_t rfl rfl rfl rfl (y_assign rfl rfl rfl (s_nil (hK184 _ _ (c_ret (f_ret1 (v := .bool true) Tryz.results3 rfl ?_))))))
 exact ⟨rfl, (((E187.nx u192).nx u197).nx u202)⟩

set_option maxHeartbeats 1000000 in
theorem CrewNexts_c (r : Rul) (l : List Dty) (al : Option Addr) (bl ol cl : Nat) (f len : Int) (w0 : World) (hl : Sl encDty 4 w0 al bl ol l) (hcl : l.length ≤ cl) (hcm : cl ≤ 9223372036854775807) :
    CallsV Tryz.prog 4 [.agg #[.int .i64 r.rest, .int .i64 r.span, .int .i64 r.work, .int .i64 r.week, .int .i64 r.ww], .slice al l.length cl, .agg #[.int .i64 f, .int .i64 len]] w0 (fun v w' => v = .bool true ∧ Ext w0 w') := by
 refine f_enter (N := 110) Tryz.func4 rfl rfl rfl (c_seq fun K1 hK1 => (c_region (t_box (cs := [.int .i64 r.rest, .int .i64 r.span, .int .i64 r.work, .int .i64 r.week, .int .i64 r.ww]) rfl rfl rfl rfl (fun bk2 w3 ebk2 sbk2 B4 u5 => ?_))))
 have zu5 := u5.size
 refine t_box (cs := [.int .i64 f, .int .i64 len]) rfl rfl rfl rfl (fun bk7 w8 ebk7 sbk7 B9 u10 => ?_)
 have zu10 := u10.size
 have E11 := ((Upd.refl (fun _ => False) w0).nx u5).nx u10
 refine t_assign rfl rfl rfl (t_nil' (hK1 _ _ (c_seq fun K12 hK12 => (c_seq fun K13 hK13 => (c_region (t_move rfl rfl rfl (t_len Tryz.underlying24 rfl rfl rfl rfl (t_cmp rfl rfl rfl rfl rfl (t_move rfl rfl rfl (t_splitp 14 rfl (fun g14 => ?_) (fun g14 => ?_)))))))))))
 ·
  refine t_move rfl rfl rfl (t_len Tryz.underlying24 rfl rfl rfl rfl (t_cmp rfl rfl rfl rfl rfl (t_pick_t rfl rfl rfl rfl (t_move rfl rfl rfl (t_splitp 19 rfl (fun g19 => ?_) (fun g19 => ?_))))))
  ·
   refine t_skip rfl rfl rfl (t_skip rfl rfl rfl (t_skip rfl rfl rfl (t_pick_t rfl rfl rfl rfl (t_nil' (hK13 _ _ (c_cond_t rfl (c_seq fun K14 hK14 => (c_region (t_call own8 rfl rfl rfl rfl (known_c _) (fun v15 w16 r18 => ?_))))))))))
   obtain ⟨rfl, u17⟩ := r18
   have zu17 := u17.size
   refine t_assign rfl rfl rfl (t_nil' (hK14 _ _ (c_ret (f_ret1 (v := .bool true) Tryz.results4 rfl ?_))))
   exact ⟨rfl, (E11.nx u17)⟩
  refine t_move rfl rfl rfl (t_len Tryz.underlying24 rfl rfl rfl rfl (t_cmp rfl rfl rfl rfl rfl (t_pick_f rfl rfl rfl rfl (t_nil' (hK13 _ _ (c_condp rfl (fun g23 => ?_) (fun g23 => ?_)))))))
  ·
   refine c_seq fun K20 hK20 => (c_region (t_call own8 rfl rfl rfl rfl (known_c _) (fun v21 w22 r24 => ?_)))
   obtain ⟨rfl, u23⟩ := r24
   have zu23 := u23.size
   refine t_assign rfl rfl rfl (t_nil' (hK20 _ _ (c_ret (f_ret1 (v := .bool true) Tryz.results4 rfl ?_))))
   exact ⟨rfl, (E11.nx u23)⟩
  refine c_skip (hK12 _ _ (c_seq fun K26 hK26 => (c_drawnM follows (fun _ => False) (.look 0 (.look 1 (.look 3 (.look 4 (.look 5 (.look 6 (.act 2 (.act 7 (.look 8 (.look 9 (.look 10 (.look 11 (.look 12 .done))))) .stop) .stop))))))) (by kernel_rfl) fun w27 u28 => ?_)))
  have zu28 := u28.size
  have E29 := E11.nx u28
  have B30 := ((B4.kx u10).kx u28)
  refine y_loadN (vs := [.int .i64 r.rest, .int .i64 r.span, .int .i64 r.work, .int .i64 r.week, .int .i64 r.ww]) Tryz.isAgg23 Tryz.sizeOf23 rfl rfl rfl (B30.at.sub 0 5) rfl (fun h => h) (y_move rfl rfl rfl (y_indexArr (j := 0) (0) Tryz.underlying49 Tryz.sizeOf3 rfl rfl rfl rfl rfl (by decide) rfl ?_))
  have B31 := (B9.kx u28)
  refine y_load Tryz.isAgg3 rfl rfl rfl (B31.get rfl) (fun h => h) (y_indexArr (j := 1) (1) Tryz.underlying49 Tryz.sizeOf3 rfl rfl rfl rfl rfl (by decide) rfl (y_load Tryz.isAgg3 rfl rfl rfl (B31.get rfl) (fun h => h) (s_do (t_call own9 rfl rfl rfl rfl (duties_c l al bl ol cl _ (hl.keep E29 (fun _ h => h)) (by omega) (by omega)) (fun v33 w34 r36 => ?_)))))
  obtain ⟨⟨aoY32, gY32, cY32, rfl, haY32⟩, u35⟩ := r36
  have zu35 := u35.size
  have E37 := E29.nx u35
  have lt_gY32 := haY32.lt
  refine s_next ((Upd.refl _ _).nx u35) (s_do (t_call own20 rfl rfl rfl rfl (Next_d r l aoY32 gY32 0 cY32 f len _ (haY32.sl (fun _ => rfl)) (by omega) (by omega)) (fun v38 w39 r41 => ?_)))
  rcases r41 with ⟨rfl, hcN, u40⟩ | ⟨rfl, hc0, hfl, u40⟩ | ⟨rfl, hc0, hfl, hB, u40⟩ | ⟨t, rfl, hc0, hfl, hB, ⟨hMt, htl, hbt, hno⟩, u40⟩ | ⟨rfl, hc0, hfl, hB, hno, u40⟩
  ·
   have zu40 := u40.size
   have E42 := E37.nx u40
   refine s_next ((Upd.refl _ _).nx u40) (y_move rfl rfl rfl (y_extract rfl rfl rfl rfl (y_extract rfl rfl rfl rfl (y_assign rfl rfl rfl (y_assign rfl rfl rfl (s_nil (hK26 _ _ (c_seq fun K43 hK43 => (c_region ?_)))))))))
   have B44 := ((((B4.kx u10).kx u28).kx u35).kx u40)
   refine t_loadN (vs := [.int .i64 r.rest, .int .i64 r.span, .int .i64 r.work, .int .i64 r.week, .int .i64 r.ww]) Tryz.isAgg23 Tryz.sizeOf23 rfl rfl rfl (B44.at.sub 0 5) rfl (t_move rfl rfl rfl (t_call own14 rfl rfl rfl rfl (refused_c r l al bl ol cl _ (hl.keep E42 (fun _ h => h)) (by omega)) (fun v45 w46 r48 => ?_)))
   obtain ⟨rfl, u47⟩ := r48
   have zu47 := u47.size
   refine t_assign rfl rfl rfl (t_nil' (hK43 _ _ (c_seq fun K50 hK50 => (c_seq fun K51 hK51 => (c_region (t_move rfl rfl rfl (t_cmp rfl rfl rfl rfl rfl (t_same 40 (v := .bool false) rfl (congrArg Value.bool (decide_eq_false hcN)) (t_move rfl rfl rfl (t_skip rfl rfl rfl (t_skip rfl rfl rfl (t_skip rfl rfl rfl (t_skip rfl rfl rfl (t_skip rfl rfl rfl (t_skip rfl rfl rfl (t_skip rfl rfl rfl (t_skip rfl rfl rfl (t_skip rfl rfl rfl (t_skip rfl rfl rfl (t_skip rfl rfl rfl (t_skip rfl rfl rfl (t_skip rfl rfl rfl (t_skip rfl rfl rfl ?_)))))))))))))))))))))))
   refine t_skip rfl rfl rfl (t_skip rfl rfl rfl (t_skip rfl rfl rfl (t_skip rfl rfl rfl (t_pick_f rfl rfl rfl rfl (t_nil' (hK51 _ _ (c_cond_f rfl (c_skip (hK50 _ _ (c_seq fun K52 hK52 => (c_seq fun K53 hK53 => (c_drawnM follows (fun _ => False) (.look 0 (.look 1 (.look 2 (.look 3 (.look 4 (.act 5 (.act 6 (.look 7 (.look 8 .done)) .stop) .stop)))))) (by kernel_rfl) fun w54 u55 => ?_))))))))))))
   have zu55 := u55.size
   refine y_move rfl rfl rfl (y_cmp rfl rfl rfl rfl rfl (y_same 62 (v := .bool false) rfl (congrArg Value.bool (decide_eq_false hcN)) (y_move rfl rfl rfl (y_skip rfl rfl rfl (y_skip rfl rfl rfl (s_do (t_skip rfl rfl rfl (s_next (Upd.refl _ _) (s_do (t_skip rfl rfl rfl (s_next (Upd.refl _ _) (y_skip rfl rfl rfl (y_pick_f rfl rfl rfl rfl (s_nil (hK53 _ _ (c_cond_f rfl (c_skip (hK52 _ _ (c_seq fun K57 hK57 => (c_seq fun K58 hK58 => (c_region (t_move rfl rfl rfl (t_cmp rfl rfl rfl rfl rfl ?_)))))))))))))))))))))))
   refine t_same 71 (v := .bool true) rfl (congrArg Value.bool (decide_eq_true hcN)) (t_nil' (hK58 _ _ (c_cond_t rfl (c_seq fun K59 hK59 => (c_region (t_move rfl rfl rfl (t_move rfl rfl rfl (t_cmp rfl rfl rfl rfl rfl (t_samehd (v := .bool true) (by simp) (t_move rfl rfl rfl (t_move rfl rfl rfl (t_cmp rfl rfl rfl rfl rfl (t_samehd (v := .bool true) rfl (t_pick_t rfl rfl rfl rfl (t_move rfl rfl rfl (t_call own8 rfl rfl rfl rfl (known_c _) (fun v60 w61 r63 => ?_)))))))))))))))))
   obtain ⟨rfl, u62⟩ := r63
   have zu62 := u62.size
   refine t_pick_t rfl rfl rfl rfl (t_assign rfl rfl rfl (t_nil' (hK59 _ _ (c_ret (f_ret1 (v := .bool true) Tryz.results4 rfl ?_)))))
   exact ⟨rfl, (((E42.nx u47).nx u55).nx u62)⟩
  ·
   have zu40 := u40.size
   have E65 := E37.nx u40
   obtain ⟨hr, hl20, hod⟩ := chk_ok hc0
   refine s_next ((Upd.refl _ _).nx u40) (y_move rfl rfl rfl (y_extract rfl rfl rfl rfl (y_extract rfl rfl rfl rfl (y_assign rfl rfl rfl (y_assign rfl rfl rfl (s_nil (hK26 _ _ (c_seq fun K66 hK66 => (c_region ?_)))))))))
   have B67 := ((((B4.kx u10).kx u28).kx u35).kx u40)
   refine t_loadN (vs := [.int .i64 r.rest, .int .i64 r.span, .int .i64 r.work, .int .i64 r.week, .int .i64 r.ww]) Tryz.isAgg23 Tryz.sizeOf23 rfl rfl rfl (B67.at.sub 0 5) rfl (t_move rfl rfl rfl (t_call own14 rfl rfl rfl rfl ((refused_c r l al bl ol cl _ (hl.keep E65 (fun _ h => h)) (by omega)).mono fun v w9 h9 => (⟨h9.1.trans (congrArg (Value.int .i64) hc0), h9.2⟩ : v = Value.int .i64 0 ∧ _)) (fun v68 w69 r71 => ?_)))
   obtain ⟨rfl, u70⟩ := r71
   have zu70 := u70.size
   have E72 := E65.nx u70
   refine t_assign rfl rfl rfl (t_nil' (hK66 _ _ (c_seq fun K73 hK73 => (c_seq fun K74 hK74 => (c_region (t_move rfl rfl rfl (t_cmp rfl rfl rfl rfl rfl (t_samehd (v := .bool true) rfl (t_same 40 (v := .bool true) rfl rfl (t_move rfl rfl rfl (t_indexArr (j := 0) (0) Tryz.underlying49 Tryz.sizeOf3 rfl rfl rfl rfl rfl (by decide) rfl ?_)))))))))))
   have B75 := ((((B9.kx u28).kx u35).kx u40).kx u70)
   refine t_load Tryz.isAgg3 rfl rfl rfl (B75.get rfl) (t_cmp rfl rfl rfl rfl rfl (t_same 44 (v := .bool (decide (f < 0))) rfl rfl (t_move rfl rfl rfl (t_splitp 45 rfl (fun g45 => ?_) (fun g45 => ?_)))))
   ·
    refine t_skip rfl rfl rfl (t_skip rfl rfl rfl (t_skip rfl rfl rfl (t_pick_t rfl rfl rfl rfl (t_move rfl rfl rfl (t_skip rfl rfl rfl (t_skip rfl rfl rfl (t_skip rfl rfl rfl (t_pick_t rfl rfl rfl rfl (t_move rfl rfl rfl (t_skip rfl rfl rfl (t_skip rfl rfl rfl (t_skip rfl rfl rfl (t_pick_t rfl rfl rfl rfl (t_pick_t rfl rfl rfl rfl (t_nil' (hK74 _ _ (c_cond_t rfl (c_region (t_assign rfl rfl rfl (t_nil' (hK73 _ _ (c_seq fun K76 hK76 => (c_seq fun K77 hK77 => ?_)))))))))))))))))))))))
    refine c_drawnM follows (fun _ => False) (.look 0 (.look 1 (.look 2 (.look 3 (.look 4 (.act 5 (.act 6 (.look 7 (.look 8 .done)) .stop) .stop)))))) (by kernel_rfl) fun w78 u79 => ?_
    have zu79 := u79.size
    refine y_move rfl rfl rfl (y_cmp rfl rfl rfl rfl rfl (y_samehd (v := .bool false) rfl (y_same 62 (v := .bool false) rfl rfl (y_move rfl rfl rfl (y_skip rfl rfl rfl (y_skip rfl rfl rfl (s_do (t_skip rfl rfl rfl (s_next (Upd.refl _ _) (s_do (t_skip rfl rfl rfl (s_next (Upd.refl _ _) (y_skip rfl rfl rfl (y_pick_f rfl rfl rfl rfl (s_nil (hK77 _ _ (c_cond_f rfl (c_skip (hK76 _ _ (c_seq fun K81 hK81 => (c_seq fun K82 hK82 => (c_region (t_move rfl rfl rfl ?_)))))))))))))))))))))))
    refine t_cmp rfl rfl rfl rfl rfl (t_samehd (v := .bool true) rfl (t_same 71 (v := .bool true) rfl rfl (t_nil' (hK82 _ _ (c_cond_t rfl (c_seq fun K83 hK83 => (c_region (t_move rfl rfl rfl (t_move rfl rfl rfl (t_cmp rfl rfl rfl rfl rfl (t_samehd (v := .bool true) rfl (t_move rfl rfl rfl (t_move rfl rfl rfl (t_cmp rfl rfl rfl rfl rfl (t_samehd (v := .bool true) rfl (t_pick_t rfl rfl rfl rfl (t_move rfl rfl rfl (t_call own8 rfl rfl rfl rfl (known_c _) (fun v84 w85 r87 => ?_)))))))))))))))))))
    obtain ⟨rfl, u86⟩ := r87
    have zu86 := u86.size
    refine t_pick_t rfl rfl rfl rfl (t_assign rfl rfl rfl (t_nil' (hK83 _ _ (c_ret (f_ret1 (v := .bool true) Tryz.results4 rfl ?_)))))
    exact ⟨rfl, ((E72.nx u79).nx u86)⟩
   refine t_indexArr (j := 0) (0) Tryz.underlying49 Tryz.sizeOf3 rfl rfl rfl rfl rfl (by decide) rfl (t_load Tryz.isAgg3 rfl rfl rfl (B75.get rfl) (t_cmp rfl rfl rfl rfl rfl (t_same 48 (v := .bool (decide (20160 < f))) rfl rfl (t_pick_f rfl rfl rfl rfl (t_move rfl rfl rfl (t_splitp 50 rfl (fun g50 => ?_) (fun g50 => ?_)))))))
   ·
    refine t_skip rfl rfl rfl (t_skip rfl rfl rfl (t_skip rfl rfl rfl (t_pick_t rfl rfl rfl rfl (t_move rfl rfl rfl (t_skip rfl rfl rfl (t_skip rfl rfl rfl (t_skip rfl rfl rfl (t_pick_t rfl rfl rfl rfl (t_pick_t rfl rfl rfl rfl (t_nil' (hK74 _ _ (c_cond_t rfl (c_region (t_assign rfl rfl rfl (t_nil' (hK73 _ _ (c_seq fun K89 hK89 => (c_seq fun K90 hK90 => (c_drawnM follows (fun _ => False) (.look 0 (.look 1 (.look 2 (.look 3 (.look 4 (.act 5 (.act 6 (.look 7 (.look 8 .done)) .stop) .stop)))))) (by kernel_rfl) fun w91 u92 => ?_)))))))))))))))))))
    have zu92 := u92.size
    refine y_move rfl rfl rfl (y_cmp rfl rfl rfl rfl rfl (y_samehd (v := .bool false) rfl (y_same 62 (v := .bool false) rfl rfl (y_move rfl rfl rfl (y_skip rfl rfl rfl (y_skip rfl rfl rfl (s_do (t_skip rfl rfl rfl (s_next (Upd.refl _ _) (s_do (t_skip rfl rfl rfl (s_next (Upd.refl _ _) (y_skip rfl rfl rfl (y_pick_f rfl rfl rfl rfl (s_nil (hK90 _ _ (c_cond_f rfl (c_skip (hK89 _ _ (c_seq fun K94 hK94 => (c_seq fun K95 hK95 => (c_region (t_move rfl rfl rfl ?_)))))))))))))))))))))))
    refine t_cmp rfl rfl rfl rfl rfl (t_samehd (v := .bool true) rfl (t_same 71 (v := .bool true) rfl rfl (t_nil' (hK95 _ _ (c_cond_t rfl (c_seq fun K96 hK96 => (c_region (t_move rfl rfl rfl (t_move rfl rfl rfl (t_cmp rfl rfl rfl rfl rfl (t_samehd (v := .bool true) rfl (t_move rfl rfl rfl (t_move rfl rfl rfl (t_cmp rfl rfl rfl rfl rfl (t_samehd (v := .bool true) rfl (t_pick_t rfl rfl rfl rfl (t_move rfl rfl rfl (t_call own8 rfl rfl rfl rfl (known_c _) (fun v97 w98 r100 => ?_)))))))))))))))))))
    obtain ⟨rfl, u99⟩ := r100
    have zu99 := u99.size
    refine t_pick_t rfl rfl rfl rfl (t_assign rfl rfl rfl (t_nil' (hK96 _ _ (c_ret (f_ret1 (v := .bool true) Tryz.results4 rfl ?_)))))
    exact ⟨rfl, ((E72.nx u92).nx u99)⟩
   refine t_indexArr (j := 1) (1) Tryz.underlying49 Tryz.sizeOf3 rfl rfl rfl rfl rfl (by decide) rfl (t_load Tryz.isAgg3 rfl rfl rfl (B75.get rfl) (t_cmp rfl rfl rfl rfl rfl (t_same 53 (v := .bool (decide (len < 1))) rfl rfl (t_pick_f rfl rfl rfl rfl (t_move rfl rfl rfl (t_splitp 55 rfl (fun g55 => ?_) (fun g55 => ?_)))))))
   ·
    refine t_skip rfl rfl rfl (t_skip rfl rfl rfl (t_skip rfl rfl rfl (t_pick_t rfl rfl rfl rfl (t_pick_t rfl rfl rfl rfl (t_nil' (hK74 _ _ (c_cond_t rfl (c_region (t_assign rfl rfl rfl (t_nil' (hK73 _ _ (c_seq fun K102 hK102 => (c_seq fun K103 hK103 => (c_drawnM follows (fun _ => False) (.look 0 (.look 1 (.look 2 (.look 3 (.look 4 (.act 5 (.act 6 (.look 7 (.look 8 .done)) .stop) .stop)))))) (by kernel_rfl) fun w104 u105 => ?_))))))))))))))
    have zu105 := u105.size
    refine y_move rfl rfl rfl (y_cmp rfl rfl rfl rfl rfl (y_samehd (v := .bool false) rfl (y_same 62 (v := .bool false) rfl rfl (y_move rfl rfl rfl (y_skip rfl rfl rfl (y_skip rfl rfl rfl (s_do (t_skip rfl rfl rfl (s_next (Upd.refl _ _) (s_do (t_skip rfl rfl rfl (s_next (Upd.refl _ _) (y_skip rfl rfl rfl (y_pick_f rfl rfl rfl rfl (s_nil (hK103 _ _ (c_cond_f rfl (c_skip (hK102 _ _ (c_seq fun K107 hK107 => (c_seq fun K108 hK108 => (c_region (t_move rfl rfl rfl ?_)))))))))))))))))))))))
    refine t_cmp rfl rfl rfl rfl rfl (t_samehd (v := .bool true) rfl (t_same 71 (v := .bool true) rfl rfl (t_nil' (hK108 _ _ (c_cond_t rfl (c_seq fun K109 hK109 => (c_region (t_move rfl rfl rfl (t_move rfl rfl rfl (t_cmp rfl rfl rfl rfl rfl (t_samehd (v := .bool true) rfl (t_move rfl rfl rfl (t_move rfl rfl rfl (t_cmp rfl rfl rfl rfl rfl (t_samehd (v := .bool true) rfl (t_pick_t rfl rfl rfl rfl (t_move rfl rfl rfl (t_call own8 rfl rfl rfl rfl (known_c _) (fun v110 w111 r113 => ?_)))))))))))))))))))
    obtain ⟨rfl, u112⟩ := r113
    have zu112 := u112.size
    refine t_pick_t rfl rfl rfl rfl (t_assign rfl rfl rfl (t_nil' (hK109 _ _ (c_ret (f_ret1 (v := .bool true) Tryz.results4 rfl ?_)))))
    exact ⟨rfl, ((E72.nx u105).nx u112)⟩
   refine t_indexArr (j := 1) (1) Tryz.underlying49 Tryz.sizeOf3 rfl rfl rfl rfl rfl (by decide) rfl (t_load Tryz.isAgg3 rfl rfl rfl (B75.get rfl) (t_cmp rfl rfl rfl rfl rfl (t_same 58 (v := .bool true) rfl (congrArg Value.bool (decide_eq_true (by omega))) (t_pick_f rfl rfl rfl rfl (t_pick_t rfl rfl rfl rfl (t_nil' (hK74 _ _ (c_cond_t rfl (c_region (t_assign rfl rfl rfl (t_nil' (hK73 _ _ (c_seq fun K115 hK115 => (c_seq fun K116 hK116 => (c_drawnM follows (fun _ => False) (.look 0 (.look 1 (.look 2 (.look 3 (.look 4 (.act 5 (.act 6 (.look 7 (.look 8 .done)) .stop) .stop)))))) (by kernel_rfl) fun w117 u118 => ?_)))))))))))))))
   have zu118 := u118.size
   refine y_move rfl rfl rfl (y_cmp rfl rfl rfl rfl rfl (y_samehd (v := .bool false) rfl (y_same 62 (v := .bool false) rfl rfl (y_move rfl rfl rfl (y_skip rfl rfl rfl (y_skip rfl rfl rfl (s_do (t_skip rfl rfl rfl (s_next (Upd.refl _ _) (s_do (t_skip rfl rfl rfl (s_next (Upd.refl _ _) (y_skip rfl rfl rfl (y_pick_f rfl rfl rfl rfl (s_nil (hK116 _ _ (c_cond_f rfl (c_skip (hK115 _ _ (c_seq fun K120 hK120 => (c_seq fun K121 hK121 => (c_region (t_move rfl rfl rfl ?_)))))))))))))))))))))))
   refine t_cmp rfl rfl rfl rfl rfl (t_samehd (v := .bool true) rfl (t_same 71 (v := .bool true) rfl rfl (t_nil' (hK121 _ _ (c_cond_t rfl (c_seq fun K122 hK122 => (c_region (t_move rfl rfl rfl (t_move rfl rfl rfl (t_cmp rfl rfl rfl rfl rfl (t_samehd (v := .bool true) rfl (t_move rfl rfl rfl (t_move rfl rfl rfl (t_cmp rfl rfl rfl rfl rfl (t_samehd (v := .bool true) rfl (t_pick_t rfl rfl rfl rfl (t_move rfl rfl rfl (t_call own8 rfl rfl rfl rfl (known_c _) (fun v123 w124 r126 => ?_)))))))))))))))))))
   obtain ⟨rfl, u125⟩ := r126
   have zu125 := u125.size
   refine t_pick_t rfl rfl rfl rfl (t_assign rfl rfl rfl (t_nil' (hK122 _ _ (c_ret (f_ret1 (v := .bool true) Tryz.results4 rfl ?_)))))
   exact ⟨rfl, ((E72.nx u118).nx u125)⟩
  ·
   have zu40 := u40.size
   have E128 := E37.nx u40
   obtain ⟨hr, hl20, hod⟩ := chk_ok hc0
   refine s_next ((Upd.refl _ _).nx u40) (y_move rfl rfl rfl (y_extract rfl rfl rfl rfl (y_extract rfl rfl rfl rfl (y_assign rfl rfl rfl (y_assign rfl rfl rfl (s_nil (hK26 _ _ (c_seq fun K129 hK129 => (c_region ?_)))))))))
   have B130 := ((((B4.kx u10).kx u28).kx u35).kx u40)
   refine t_loadN (vs := [.int .i64 r.rest, .int .i64 r.span, .int .i64 r.work, .int .i64 r.week, .int .i64 r.ww]) Tryz.isAgg23 Tryz.sizeOf23 rfl rfl rfl (B130.at.sub 0 5) rfl (t_move rfl rfl rfl (t_call own14 rfl rfl rfl rfl ((refused_c r l al bl ol cl _ (hl.keep E128 (fun _ h => h)) (by omega)).mono fun v w9 h9 => (⟨h9.1.trans (congrArg (Value.int .i64) hc0), h9.2⟩ : v = Value.int .i64 0 ∧ _)) (fun v131 w132 r134 => ?_)))
   obtain ⟨rfl, u133⟩ := r134
   have zu133 := u133.size
   refine t_assign rfl rfl rfl (t_nil' (hK129 _ _ (c_seq fun K136 hK136 => (c_seq fun K137 hK137 => (c_region (t_move rfl rfl rfl (t_cmp rfl rfl rfl rfl rfl (t_samehd (v := .bool true) rfl (t_same 40 (v := .bool true) rfl rfl (t_move rfl rfl rfl (t_indexArr (j := 0) (0) Tryz.underlying49 Tryz.sizeOf3 rfl rfl rfl rfl rfl (by decide) rfl ?_)))))))))))
   have B138 := ((((B9.kx u28).kx u35).kx u40).kx u133)
   refine t_load Tryz.isAgg3 rfl rfl rfl (B138.get rfl) (t_cmp rfl rfl rfl rfl rfl (t_same 44 (v := .bool false) rfl (congrArg Value.bool (decide_eq_false (by omega))) (t_move rfl rfl rfl (t_indexArr (j := 0) (0) Tryz.underlying49 Tryz.sizeOf3 rfl rfl rfl rfl rfl (by decide) rfl (t_load Tryz.isAgg3 rfl rfl rfl (B138.get rfl) (t_cmp rfl rfl rfl rfl rfl (t_same 48 (v := .bool false) rfl (congrArg Value.bool (decide_eq_false (by omega))) (t_pick_f rfl rfl rfl rfl (t_move rfl rfl rfl (t_indexArr (j := 1) (1) Tryz.underlying49 Tryz.sizeOf3 rfl rfl rfl rfl rfl (by decide) rfl (t_load Tryz.isAgg3 rfl rfl rfl (B138.get rfl) (t_cmp rfl rfl rfl rfl rfl (t_same 53 (v := .bool false) rfl (congrArg Value.bool (decide_eq_false (by omega))) (t_pick_f rfl rfl rfl rfl (t_move rfl rfl rfl (t_indexArr (j := 1) (1) Tryz.underlying49 Tryz.sizeOf3 rfl rfl rfl rfl rfl (by decide) rfl (t_load Tryz.isAgg3 rfl rfl rfl (B138.get rfl) (t_cmp rfl rfl rfl rfl rfl (t_same 58 (v := .bool false) rfl (congrArg Value.bool (decide_eq_false (by omega))) (t_pick_f rfl rfl rfl rfl (t_pick_t rfl rfl rfl rfl (t_nil' (hK137 _ _ ?_)))))))))))))))))))))))
   refine c_cond_f rfl (c_skip (hK136 _ _ (c_seq fun K139 hK139 => (c_seq fun K140 hK140 => (c_drawnM follows (fun _ => False) (.look 0 (.look 1 (.look 2 (.look 3 (.look 4 (.act 5 (.act 6 (.look 7 (.look 8 .done)) .stop) .stop)))))) (by kernel_rfl) fun w141 u142 => ?_)))))
   have zu142 := u142.size
   have E143 := (E128.nx u133).nx u142
   refine y_move rfl rfl rfl (y_cmp rfl rfl rfl rfl rfl (y_samehd (v := .bool true) rfl (y_same 62 (v := .bool true) rfl rfl (y_move rfl rfl rfl ?_))))
   have B144 := ((B130.kx u133).kx u142)
   refine y_loadN (vs := [.int .i64 r.rest, .int .i64 r.span, .int .i64 r.work, .int .i64 r.week, .int .i64 r.ww]) Tryz.isAgg23 Tryz.sizeOf23 rfl rfl rfl (B144.at.sub 0 5) rfl (fun h => h) (y_move rfl rfl rfl (s_do (t_call own16 rfl rfl rfl rfl (rLongest_c l al bl ol cl _ (hl.keep E143 (fun _ h => h)) (by omega) (by omega)) (fun v146 w147 r149 => ?_))))
   obtain ⟨⟨aoL145, gL145, cL145, rfl, haL145⟩, u148⟩ := r149
   have zu148 := u148.size
   have lt_gL145 := haL145.lt
   refine s_next ((Upd.refl _ _).nx u148) (s_do (t_call own18 rfl rfl rfl rfl (rBroken_c r (srtS (l.map lngS)) aoL145 gL145 0 cL145 _ (haL145.sl (fun _ => rfl)) (by rw [srt_len, List.length_map]; exact (by omega)) (lngs_ok hod) hr (by omega)) (fun v151 w152 r154 => ?_)))
   obtain ⟨rfl, u153⟩ := r154
   have zu153 := u153.size
   refine s_next ((Upd.refl _ _).nx u153) (y_cmp rfl rfl rfl rfl rfl (y_same 68 (v := .bool true) rfl (congrArg Value.bool (decide_eq_true hB)) (y_pick_t rfl rfl rfl rfl (s_nil (hK140 _ _ (c_cond_t rfl (c_region (t_assign rfl rfl rfl (t_nil' (hK139 _ _ (c_seq fun K156 hK156 => (c_seq fun K157 hK157 => (c_region (t_move rfl rfl rfl (t_cmp rfl rfl rfl rfl rfl (t_samehd (v := .bool true) rfl (t_same 71 (v := .bool true) rfl rfl (t_nil' (hK157 _ _ (c_cond_t rfl (c_seq fun K158 hK158 => (c_region (t_move rfl rfl rfl ?_)))))))))))))))))))))))
   refine t_move rfl rfl rfl (t_cmp rfl rfl rfl rfl rfl (t_samehd (v := .bool true) rfl (t_move rfl rfl rfl (t_move rfl rfl rfl (t_cmp rfl rfl rfl rfl rfl (t_samehd (v := .bool true) rfl (t_pick_t rfl rfl rfl rfl (t_move rfl rfl rfl (t_call own8 rfl rfl rfl rfl (known_c _) (fun v159 w160 r162 => ?_))))))))))
   obtain ⟨rfl, u161⟩ := r162
   have zu161 := u161.size
   refine t_pick_t rfl rfl rfl rfl (t_assign rfl rfl rfl (t_nil' (hK158 _ _ (c_ret (f_ret1 (v := .bool true) Tryz.results4 rfl ?_)))))
   exact ⟨rfl, (((E143.nx u148).nx u153).nx u161)⟩
  ·
   have zu40 := u40.size
   have E164 := E37.nx u40
   obtain ⟨hr, hl20, hod⟩ := chk_ok hc0
   refine s_next ((Upd.refl _ _).nx u40) (y_move rfl rfl rfl (y_extract rfl rfl rfl rfl (y_extract rfl rfl rfl rfl (y_assign rfl rfl rfl (y_assign rfl rfl rfl (s_nil (hK26 _ _ (c_seq fun K165 hK165 => (c_region ?_)))))))))
   have B166 := ((((B4.kx u10).kx u28).kx u35).kx u40)
   refine t_loadN (vs := [.int .i64 r.rest, .int .i64 r.span, .int .i64 r.work, .int .i64 r.week, .int .i64 r.ww]) Tryz.isAgg23 Tryz.sizeOf23 rfl rfl rfl (B166.at.sub 0 5) rfl (t_move rfl rfl rfl (t_call own14 rfl rfl rfl rfl ((refused_c r l al bl ol cl _ (hl.keep E164 (fun _ h => h)) (by omega)).mono fun v w9 h9 => (⟨h9.1.trans (congrArg (Value.int .i64) hc0), h9.2⟩ : v = Value.int .i64 0 ∧ _)) (fun v167 w168 r170 => ?_)))
   obtain ⟨rfl, u169⟩ := r170
   have zu169 := u169.size
   refine t_assign rfl rfl rfl (t_nil' (hK165 _ _ (c_seq fun K172 hK172 => (c_seq fun K173 hK173 => (c_region (t_move rfl rfl rfl (t_cmp rfl rfl rfl rfl rfl (t_samehd (v := .bool true) rfl (t_same 40 (v := .bool true) rfl rfl (t_move rfl rfl rfl (t_indexArr (j := 0) (0) Tryz.underlying49 Tryz.sizeOf3 rfl rfl rfl rfl rfl (by decide) rfl ?_)))))))))))
   have B174 := ((((B9.kx u28).kx u35).kx u40).kx u169)
   refine t_load Tryz.isAgg3 rfl rfl rfl (B174.get rfl) (t_cmp rfl rfl rfl rfl rfl (t_same 44 (v := .bool false) rfl (congrArg Value.bool (decide_eq_false (by omega))) (t_move rfl rfl rfl (t_indexArr (j := 0) (0) Tryz.underlying49 Tryz.sizeOf3 rfl rfl rfl rfl rfl (by decide) rfl (t_load Tryz.isAgg3 rfl rfl rfl (B174.get rfl) (t_cmp rfl rfl rfl rfl rfl (t_same 48 (v := .bool false) rfl (congrArg Value.bool (decide_eq_false (by omega))) (t_pick_f rfl rfl rfl rfl (t_move rfl rfl rfl (t_indexArr (j := 1) (1) Tryz.underlying49 Tryz.sizeOf3 rfl rfl rfl rfl rfl (by decide) rfl (t_load Tryz.isAgg3 rfl rfl rfl (B174.get rfl) (t_cmp rfl rfl rfl rfl rfl (t_same 53 (v := .bool false) rfl (congrArg Value.bool (decide_eq_false (by omega))) (t_pick_f rfl rfl rfl rfl (t_move rfl rfl rfl (t_indexArr (j := 1) (1) Tryz.underlying49 Tryz.sizeOf3 rfl rfl rfl rfl rfl (by decide) rfl (t_load Tryz.isAgg3 rfl rfl rfl (B174.get rfl) (t_cmp rfl rfl rfl rfl rfl (t_same 58 (v := .bool false) rfl (congrArg Value.bool (decide_eq_false (by omega))) (t_pick_f rfl rfl rfl rfl (t_pick_t rfl rfl rfl rfl (t_nil' (hK173 _ _ ?_)))))))))))))))))))))))
   refine c_cond_f rfl (c_skip (hK172 _ _ (c_seq fun K175 hK175 => (c_seq fun K176 hK176 => (c_drawnM follows (fun _ => False) (.look 0 (.look 1 (.look 2 (.look 3 (.look 4 (.act 5 (.act 6 (.look 7 (.look 8 .done)) .stop) .stop)))))) (by kernel_rfl) fun w177 u178 => ?_)))))
   have zu178 := u178.size
   have E179 := (E164.nx u169).nx u178
   refine y_move rfl rfl rfl (y_cmp rfl rfl rfl rfl rfl (y_samehd (v := .bool true) rfl (y_same 62 (v := .bool true) rfl rfl (y_move rfl rfl rfl ?_))))
   have B180 := ((B166.kx u169).kx u178)
   refine y_loadN (vs := [.int .i64 r.rest, .int .i64 r.span, .int .i64 r.work, .int .i64 r.week, .int .i64 r.ww]) Tryz.isAgg23 Tryz.sizeOf23 rfl rfl rfl (B180.at.sub 0 5) rfl (fun h => h) (y_move rfl rfl rfl (s_do (t_call own16 rfl rfl rfl rfl (rLongest_c l al bl ol cl _ (hl.keep E179 (fun _ h => h)) (by omega) (by omega)) (fun v182 w183 r185 => ?_))))
   obtain ⟨⟨aoL181, gL181, cL181, rfl, haL181⟩, u184⟩ := r185
   have zu184 := u184.size
   have lt_gL181 := haL181.lt
   refine s_next ((Upd.refl _ _).nx u184) (s_do (t_call own18 rfl rfl rfl rfl (rBroken_c r (srtS (l.map lngS)) aoL181 gL181 0 cL181 _ (haL181.sl (fun _ => rfl)) (by rw [srt_len, List.length_map]; exact (by omega)) (lngs_ok hod) hr (by omega)) (fun v187 w188 r190 => ?_)))
   obtain ⟨rfl, u189⟩ := r190
   have zu189 := u189.size
   have E191 := (E179.nx u184).nx u189
   refine s_next ((Upd.refl _ _).nx u189) (y_cmp rfl rfl rfl rfl rfl (y_same 68 (v := .bool false) rfl (congrArg Value.bool (decide_eq_false (fun h => h hB))) (y_pick_t rfl rfl rfl rfl (s_nil (hK176 _ _ (c_cond_f rfl (c_skip (hK175 _ _ (c_seq fun K192 hK192 => (c_seq fun K193 hK193 => (c_region (t_move rfl rfl rfl (t_cmp rfl rfl rfl rfl rfl (t_samehd (v := .bool false) rfl (t_same 71 (v := .bool false) rfl rfl (t_nil' (hK193 _ _ (c_cond_f rfl (c_skip (hK192 _ _ (c_seq fun K194 hK194 => (c_region ?_))))))))))))))))))))))
   have B195 := ((((B166.kx u169).kx u178).kx u184).kx u189)
   refine t_loadN (vs := [.int .i64 r.rest, .int .i64 r.span, .int .i64 r.work, .int .i64 r.week, .int .i64 r.ww]) Tryz.isAgg23 Tryz.sizeOf23 rfl rfl rfl (B195.at.sub 0 5) rfl (t_move rfl rfl rfl (t_indexArr (j := 0) (0) Tryz.underlying49 Tryz.sizeOf3 rfl rfl rfl rfl rfl (by decide) rfl ?_))
   have B196 := (((B174.kx u178).kx u184).kx u189)
   refine t_load Tryz.isAgg3 rfl rfl rfl (B196.get rfl) (t_indexArr (j := 1) (1) Tryz.underlying49 Tryz.sizeOf3 rfl rfl rfl rfl rfl (by decide) rfl (t_load Tryz.isAgg3 rfl rfl rfl (B196.get rfl) (t_call own21 rfl rfl rfl rfl (rNext_c r l al bl ol cl f len _ (hl.keep E191 (fun _ h => h)) (by omega) hod hcl hr (by omega) hfl.1 hfl.2) (fun v197 w198 r200 => ?_))))
   obtain ⟨⟨t2, rfl, hN2⟩, u199⟩ := r200
   have zu199 := u199.size
   have hmf := (mxF_rng hfl.1 (lngs_ok hod) (srtS (l.map lngS)).length (Nat.le_refl _)).1
   have e9 : t = t2 := by
     rcases hN2 with ⟨_, h1, h2, h3, h4⟩ | ⟨_, h1⟩
     · by_cases q1 : t < t2
       · exact absurd hbt (h4 t hMt q1)
       · by_cases q2 : t2 < t
         · exact absurd h3 (hno t2 h1 q2)
         · omega
     · exact absurd hbt (h1 t hMt htl)
   subst e9
   refine t_assign rfl rfl rfl (t_nil' (hK194 _ _ (c_seq fun K202 hK202 => (c_seq fun K203 hK203 => (c_region (t_move rfl rfl rfl (t_cmp rfl rfl rfl rfl rfl (t_same 90 (v := .bool false) rfl (congrArg Value.bool (decide_eq_false (by omega))) (t_nil' (hK203 _ _ (c_cond_f rfl (c_skip (hK202 _ _ (c_seq fun K204 hK204 => (c_region (t_move rfl rfl rfl (t_cmp rfl rfl rfl rfl rfl (t_samehd (v := .bool true) rfl (t_move rfl rfl rfl (t_move rfl rfl rfl (t_move rfl rfl rfl (t_cmp rfl rfl rfl rfl rfl (t_samehd (v := .bool true) (by simp) ?_)))))))))))))))))))))))
   refine t_pick_t rfl rfl rfl rfl (t_move rfl rfl rfl (t_call own8 rfl rfl rfl rfl (known_c _) (fun v205 w206 r208 => ?_)))
   obtain ⟨rfl, u207⟩ := r208
   have zu207 := u207.size
   refine t_pick_t rfl rfl rfl rfl (t_assign rfl rfl rfl (t_nil' (hK204 _ _ (c_ret (f_ret1 (v := .bool true) Tryz.results4 rfl ?_)))))
   exact ⟨rfl, ((E191.nx u199).nx u207)⟩
  have zu40 := u40.size
  have E210 := E37.nx u40
  obtain ⟨hr, hl20, hod⟩ := chk_ok hc0
  refine s_next ((Upd.refl _ _).nx u40) (y_move rfl rfl rfl (y_extract rfl rfl rfl rfl (y_extract rfl rfl rfl rfl (y_assign rfl rfl rfl (y_assign rfl rfl rfl (s_nil (hK26 _ _ (c_seq fun K211 hK211 => (c_region ?_)))))))))
  have B212 := ((((B4.kx u10).kx u28).kx u35).kx u40)
  refine t_loadN (vs := [.int .i64 r.rest, .int .i64 r.span, .int .i64 r.work, .int .i64 r.week, .int .i64 r.ww]) Tryz.isAgg23 Tryz.sizeOf23 rfl rfl rfl (B212.at.sub 0 5) rfl (t_move rfl rfl rfl (t_call own14 rfl rfl rfl rfl ((refused_c r l al bl ol cl _ (hl.keep E210 (fun _ h => h)) (by omega)).mono fun v w9 h9 => (⟨h9.1.trans (congrArg (Value.int .i64) hc0), h9.2⟩ : v = Value.int .i64 0 ∧ _)) (fun v213 w214 r216 => ?_)))
  obtain ⟨rfl, u215⟩ := r216
  have zu215 := u215.size
  refine t_assign rfl rfl rfl (t_nil' (hK211 _ _ (c_seq fun K218 hK218 => (c_seq fun K219 hK219 => (c_region (t_move rfl rfl rfl (t_cmp rfl rfl rfl rfl rfl (t_samehd (v := .bool true) rfl (t_same 40 (v := .bool true) rfl rfl (t_move rfl rfl rfl (t_indexArr (j := 0) (0) Tryz.underlying49 Tryz.sizeOf3 rfl rfl rfl rfl rfl (by decide) rfl ?_)))))))))))
  have B220 := ((((B9.kx u28).kx u35).kx u40).kx u215)
  refine t_load Tryz.isAgg3 rfl rfl rfl (B220.get rfl) (t_cmp rfl rfl rfl rfl rfl (t_same 44 (v := .bool false) rfl (congrArg Value.bool (decide_eq_false (by omega))) (t_move rfl rfl rfl (t_indexArr (j := 0) (0) Tryz.underlying49 Tryz.sizeOf3 rfl rfl rfl rfl rfl (by decide) rfl (t_load Tryz.isAgg3 rfl rfl rfl (B220.get rfl) (t_cmp rfl rfl rfl rfl rfl (t_same 48 (v := .bool false) rfl (congrArg Value.bool (decide_eq_false (by omega))) (t_pick_f rfl rfl rfl rfl (t_move rfl rfl rfl (t_indexArr (j := 1) (1) Tryz.underlying49 Tryz.sizeOf3 rfl rfl rfl rfl rfl (by decide) rfl (t_load Tryz.isAgg3 rfl rfl rfl (B220.get rfl) (t_cmp rfl rfl rfl rfl rfl (t_same 53 (v := .bool false) rfl (congrArg Value.bool (decide_eq_false (by omega))) (t_pick_f rfl rfl rfl rfl (t_move rfl rfl rfl (t_indexArr (j := 1) (1) Tryz.underlying49 Tryz.sizeOf3 rfl rfl rfl rfl rfl (by decide) rfl (t_load Tryz.isAgg3 rfl rfl rfl (B220.get rfl) (t_cmp rfl rfl rfl rfl rfl (t_same 58 (v := .bool false) rfl (congrArg Value.bool (decide_eq_false (by omega))) (t_pick_f rfl rfl rfl rfl (t_pick_t rfl rfl rfl rfl (t_nil' (hK219 _ _ ?_)))))))))))))))))))))))
  refine c_cond_f rfl (c_skip (hK218 _ _ (c_seq fun K221 hK221 => (c_seq fun K222 hK222 => (c_drawnM follows (fun _ => False) (.look 0 (.look 1 (.look 2 (.look 3 (.look 4 (.act 5 (.act 6 (.look 7 (.look 8 .done)) .stop) .stop)))))) (by kernel_rfl) fun w223 u224 => ?_)))))
  have zu224 := u224.size
  have E225 := (E210.nx u215).nx u224
  refine y_move rfl rfl rfl (y_cmp rfl rfl rfl rfl rfl (y_samehd (v := .bool true) rfl (y_same 62 (v := .bool true) rfl rfl (y_move rfl rfl rfl ?_))))
  have B226 := ((B212.kx u215).kx u224)
  refine y_loadN (vs := [.int .i64 r.rest, .int .i64 r.span, .int .i64 r.work, .int .i64 r.week, .int .i64 r.ww]) Tryz.isAgg23 Tryz.sizeOf23 rfl rfl rfl (B226.at.sub 0 5) rfl (fun h => h) (y_move rfl rfl rfl (s_do (t_call own16 rfl rfl rfl rfl (rLongest_c l al bl ol cl _ (hl.keep E225 (fun _ h => h)) (by omega) (by omega)) (fun v228 w229 r231 => ?_))))
  obtain ⟨⟨aoL227, gL227, cL227, rfl, haL227⟩, u230⟩ := r231
  have zu230 := u230.size
  have lt_gL227 := haL227.lt
  refine s_next ((Upd.refl _ _).nx u230) (s_do (t_call own18 rfl rfl rfl rfl (rBroken_c r (srtS (l.map lngS)) aoL227 gL227 0 cL227 _ (haL227.sl (fun _ => rfl)) (by rw [srt_len, List.length_map]; exact (by omega)) (lngs_ok hod) hr (by omega)) (fun v233 w234 r236 => ?_)))
  obtain ⟨rfl, u235⟩ := r236
  have zu235 := u235.size
  have E237 := (E225.nx u230).nx u235
  refine s_next ((Upd.refl _ _).nx u235) (y_cmp rfl rfl rfl rfl rfl (y_same 68 (v := .bool false) rfl (congrArg Value.bool (decide_eq_false (fun h => h hB))) (y_pick_t rfl rfl rfl rfl (s_nil (hK222 _ _ (c_cond_f rfl (c_skip (hK221 _ _ (c_seq fun K238 hK238 => (c_seq fun K239 hK239 => (c_region (t_move rfl rfl rfl (t_cmp rfl rfl rfl rfl rfl (t_samehd (v := .bool false) rfl (t_same 71 (v := .bool false) rfl rfl (t_nil' (hK239 _ _ (c_cond_f rfl (c_skip (hK238 _ _ (c_seq fun K240 hK240 => (c_region ?_))))))))))))))))))))))
  have B241 := ((((B212.kx u215).kx u224).kx u230).kx u235)
  refine t_loadN (vs := [.int .i64 r.rest, .int .i64 r.span, .int .i64 r.work, .int .i64 r.week, .int .i64 r.ww]) Tryz.isAgg23 Tryz.sizeOf23 rfl rfl rfl (B241.at.sub 0 5) rfl (t_move rfl rfl rfl (t_indexArr (j := 0) (0) Tryz.underlying49 Tryz.sizeOf3 rfl rfl rfl rfl rfl (by decide) rfl ?_))
  have B242 := (((B220.kx u224).kx u230).kx u235)
  refine t_load Tryz.isAgg3 rfl rfl rfl (B242.get rfl) (t_indexArr (j := 1) (1) Tryz.underlying49 Tryz.sizeOf3 rfl rfl rfl rfl rfl (by decide) rfl (t_load Tryz.isAgg3 rfl rfl rfl (B242.get rfl) (t_call own21 rfl rfl rfl rfl (rNext_c r l al bl ol cl f len _ (hl.keep E237 (fun _ h => h)) (by omega) hod hcl hr (by omega) hfl.1 hfl.2) (fun v243 w244 r246 => ?_))))
  obtain ⟨⟨t2, rfl, hN2⟩, u245⟩ := r246
  have zu245 := u245.size
  have e9 : t2 = -1 := by
    rcases hN2 with ⟨_, h1, h2, h3, _⟩ | ⟨h1, _⟩
    · exact absurd h3 (hno t2 h1 h2)
    · exact h1
  subst e9
  refine t_assign rfl rfl rfl (t_nil' (hK240 _ _ (c_seq fun K248 hK248 => (c_seq fun K249 hK249 => (c_region (t_move rfl rfl rfl (t_cmp rfl rfl rfl rfl rfl (t_samehd (v := .bool true) rfl (t_same 90 (v := .bool true) rfl rfl (t_nil' (hK249 _ _ (c_cond_t rfl (c_seq fun K250 hK250 => (c_region (t_move rfl rfl rfl (t_cmp rfl rfl rfl rfl rfl (t_samehd (v := .bool true) rfl (t_move rfl rfl rfl (t_move rfl rfl rfl (t_cmp rfl rfl rfl rfl rfl (t_samehd (v := .bool true) rfl (t_pick_t rfl rfl rfl rfl (t_move rfl rfl rfl ?_)))))))))))))))))))))))
  refine t_call own8 rfl rfl rfl rfl (known_c _) (fun v251 w252 r254 => ?_)
  obtain ⟨rfl, u253⟩ := r254
  have zu253 := u253.size
  refine t_pick_t rfl rfl rfl rfl (t_assign rfl rfl rfl (t_nil' (hK250 _ _ (c_ret (f_ret1 (v := .bool true) Tryz.results4 rfl ?_)))))
  exact ⟨rfl, ((E237.nx u245).nx u253)⟩
 refine t_skip rfl rfl rfl (t_skip rfl rfl rfl (t_skip rfl rfl rfl (t_pick_f rfl rfl rfl rfl (t_move rfl rfl rfl (t_move rfl rfl rfl (t_len Tryz.underlying24 rfl rfl rfl rfl (t_cmp rfl rfl rfl rfl rfl (t_pick_f rfl rfl rfl rfl (t_nil' (hK13 _ _ (c_condp rfl (fun g23 => ?_) (fun g23 => ?_))))))))))))
 ·
  refine c_seq fun K256 hK256 => (c_region (t_call own8 rfl rfl rfl rfl (known_c _) (fun v257 w258 r260 => ?_)))
  obtain ⟨rfl, u259⟩ := r260
  have zu259 := u259.size
  refine t_assign rfl rfl rfl (t_nil' (hK256 _ _ (c_ret (f_ret1 (v := .bool true) Tryz.results4 rfl ?_))))
  exact ⟨rfl, (E11.nx u259)⟩
 refine c_skip (hK12 _ _ (c_seq fun K262 hK262 => (c_drawnM follows (fun _ => False) (.look 0 (.look 1 (.look 3 (.look 4 (.look 5 (.look 6 (.act 2 (.act 7 (.look 8 (.look 9 (.look 10 (.look 11 (.look 12 .done))))) .stop) .stop))))))) (by kernel_rfl) fun w263 u264 => ?_)))
 have zu264 := u264.size
 have E265 := E11.nx u264
 have B266 := ((B4.kx u10).kx u264)
 refine y_loadN (vs := [.int .i64 r.rest, .int .i64 r.span, .int .i64 r.work, .int .i64 r.week, .int .i64 r.ww]) Tryz.isAgg23 Tryz.sizeOf23 rfl rfl rfl (B266.at.sub 0 5) rfl (fun h => h) (y_move rfl rfl rfl (y_indexArr (j := 0) (0) Tryz.underlying49 Tryz.sizeOf3 rfl rfl rfl rfl rfl (by decide) rfl ?_))
 have B267 := (B9.kx u264)
 refine y_load Tryz.isAgg3 rfl rfl rfl (B267.get rfl) (fun h => h) (y_indexArr (j := 1) (1) Tryz.underlying49 Tryz.sizeOf3 rfl rfl rfl rfl rfl (by decide) rfl (y_load Tryz.isAgg3 rfl rfl rfl (B267.get rfl) (fun h => h) (s_do (t_call own9 rfl rfl rfl rfl (duties_c l al bl ol cl _ (hl.keep E265 (fun _ h => h)) (by omega) (by omega)) (fun v269 w270 r272 => ?_)))))
 obtain ⟨⟨aoY268, gY268, cY268, rfl, haY268⟩, u271⟩ := r272
 have zu271 := u271.size
 have E273 := E265.nx u271
 have lt_gY268 := haY268.lt
 refine s_next ((Upd.refl _ _).nx u271) (s_do (t_call own20 rfl rfl rfl rfl (Next_d r l aoY268 gY268 0 cY268 f len _ (haY268.sl (fun _ => rfl)) (by omega) (by omega)) (fun v274 w275 r277 => ?_)))
 rcases r277 with ⟨rfl, hcN, u276⟩ | ⟨rfl, hc0, hfl, u276⟩ | ⟨rfl, hc0, hfl, hB, u276⟩ | ⟨t, rfl, hc0, hfl, hB, ⟨hMt, htl, hbt, hno⟩, u276⟩ | ⟨rfl, hc0, hfl, hB, hno, u276⟩
 ·
  have zu276 := u276.size
  have E278 := E273.nx u276
  refine s_next ((Upd.refl _ _).nx u276) (y_move rfl rfl rfl (y_extract rfl rfl rfl rfl (y_extract rfl rfl rfl rfl (y_assign rfl rfl rfl (y_assign rfl rfl rfl (s_nil (hK262 _ _ (c_seq fun K279 hK279 => (c_region ?_)))))))))
  have B280 := ((((B4.kx u10).kx u264).kx u271).kx u276)
  refine t_loadN (vs := [.int .i64 r.rest, .int .i64 r.span, .int .i64 r.work, .int .i64 r.week, .int .i64 r.ww]) Tryz.isAgg23 Tryz.sizeOf23 rfl rfl rfl (B280.at.sub 0 5) rfl (t_move rfl rfl rfl (t_call own14 rfl rfl rfl rfl (refused_c r l al bl ol cl _ (hl.keep E278 (fun _ h => h)) (by omega)) (fun v281 w282 r284 => ?_)))
  obtain ⟨rfl, u283⟩ := r284
  have zu283 := u283.size
  refine t_assign rfl rfl rfl (t_nil' (hK279 _ _ (c_seq fun K286 hK286 => (c_seq fun K287 hK287 => (c_region (t_move rfl rfl rfl (t_cmp rfl rfl rfl rfl rfl (t_same 40 (v := .bool false) rfl (congrArg Value.bool (decide_eq_false hcN)) (t_move rfl rfl rfl (t_skip rfl rfl rfl (t_skip rfl rfl rfl (t_skip rfl rfl rfl (t_skip rfl rfl rfl (t_skip rfl rfl rfl (t_skip rfl rfl rfl (t_skip rfl rfl rfl (t_skip rfl rfl rfl (t_skip rfl rfl rfl (t_skip rfl rfl rfl (t_skip rfl rfl rfl (t_skip rfl rfl rfl (t_skip rfl rfl rfl (t_skip rfl rfl rfl ?_)))))))))))))))))))))))
  refine t_skip rfl rfl rfl (t_skip rfl rfl rfl (t_skip rfl rfl rfl (t_skip rfl rfl rfl (t_pick_f rfl rfl rfl rfl (t_nil' (hK287 _ _ (c_cond_f rfl (c_skip (hK286 _ _ (c_seq fun K288 hK288 => (c_seq fun K289 hK289 => (c_drawnM follows (fun _ => False) (.look 0 (.look 1 (.look 2 (.look 3 (.look 4 (.act 5 (.act 6 (.look 7 (.look 8 .done)) .stop) .stop)))))) (by kernel_rfl) fun w290 u291 => ?_))))))))))))
  have zu291 := u291.size
  refine y_move rfl rfl rfl (y_cmp rfl rfl rfl rfl rfl (y_same 62 (v := .bool false) rfl (congrArg Value.bool (decide_eq_false hcN)) (y_move rfl rfl rfl (y_skip rfl rfl rfl (y_skip rfl rfl rfl (s_do (t_skip rfl rfl rfl (s_next (Upd.refl _ _) (s_do (t_skip rfl rfl rfl (s_next (Upd.refl _ _) (y_skip rfl rfl rfl (y_pick_f rfl rfl rfl rfl (s_nil (hK289 _ _ (c_cond_f rfl (c_skip (hK288 _ _ (c_seq fun K293 hK293 => (c_seq fun K294 hK294 => (c_region (t_move rfl rfl rfl (t_cmp rfl rfl rfl rfl rfl ?_)))))))))))))))))))))))
  refine t_same 71 (v := .bool true) rfl (congrArg Value.bool (decide_eq_true hcN)) (t_nil' (hK294 _ _ (c_cond_t rfl (c_seq fun K295 hK295 => (c_region (t_move rfl rfl rfl (t_move rfl rfl rfl (t_cmp rfl rfl rfl rfl rfl (t_samehd (v := .bool true) (by simp) (t_move rfl rfl rfl (t_move rfl rfl rfl (t_cmp rfl rfl rfl rfl rfl (t_samehd (v := .bool true) rfl (t_pick_t rfl rfl rfl rfl (t_move rfl rfl rfl (t_call own8 rfl rfl rfl rfl (known_c _) (fun v296 w297 r299 => ?_)))))))))))))))))
  obtain ⟨rfl, u298⟩ := r299
  have zu298 := u298.size
  refine t_pick_t rfl rfl rfl rfl (t_assign rfl rfl rfl (t_nil' (hK295 _ _ (c_ret (f_ret1 (v := .bool true) Tryz.results4 rfl ?_)))))
  exact ⟨rfl, (((E278.nx u283).nx u291).nx u298)⟩
 ·
  have zu276 := u276.size
  have E301 := E273.nx u276
  obtain ⟨hr, hl20, hod⟩ := chk_ok hc0
  refine s_next ((Upd.refl _ _).nx u276) (y_move rfl rfl rfl (y_extract rfl rfl rfl rfl (y_extract rfl rfl rfl rfl (y_assign rfl rfl rfl (y_assign rfl rfl rfl (s_nil (hK262 _ _ (c_seq fun K302 hK302 => (c_region ?_)))))))))
  have B303 := ((((B4.kx u10).kx u264).kx u271).kx u276)
  refine t_loadN (vs := [.int .i64 r.rest, .int .i64 r.span, .int .i64 r.work, .int .i64 r.week, .int .i64 r.ww]) Tryz.isAgg23 Tryz.sizeOf23 rfl rfl rfl (B303.at.sub 0 5) rfl (t_move rfl rfl rfl (t_call own14 rfl rfl rfl rfl ((refused_c r l al bl ol cl _ (hl.keep E301 (fun _ h => h)) (by omega)).mono fun v w9 h9 => (⟨h9.1.trans (congrArg (Value.int .i64) hc0), h9.2⟩ : v = Value.int .i64 0 ∧ _)) (fun v304 w305 r307 => ?_)))
  obtain ⟨rfl, u306⟩ := r307
  have zu306 := u306.size
  have E308 := E301.nx u306
  refine t_assign rfl rfl rfl (t_nil' (hK302 _ _ (c_seq fun K309 hK309 => (c_seq fun K310 hK310 => (c_region (t_move rfl rfl rfl (t_cmp rfl rfl rfl rfl rfl (t_samehd (v := .bool true) rfl (t_same 40 (v := .bool true) rfl rfl (t_move rfl rfl rfl (t_indexArr (j := 0) (0) Tryz.underlying49 Tryz.sizeOf3 rfl rfl rfl rfl rfl (by decide) rfl ?_)))))))))))
  have B311 := ((((B9.kx u264).kx u271).kx u276).kx u306)
  refine t_load Tryz.isAgg3 rfl rfl rfl (B311.get rfl) (t_cmp rfl rfl rfl rfl rfl (t_same 44 (v := .bool (decide (f < 0))) rfl rfl (t_move rfl rfl rfl (t_splitp 45 rfl (fun g45 => ?_) (fun g45 => ?_)))))
  ·
   refine t_skip rfl rfl rfl (t_skip rfl rfl rfl (t_skip rfl rfl rfl (t_pick_t rfl rfl rfl rfl (t_move rfl rfl rfl (t_skip rfl rfl rfl (t_skip rfl rfl rfl (t_skip rfl rfl rfl (t_pick_t rfl rfl rfl rfl (t_move rfl rfl rfl (t_skip rfl rfl rfl (t_skip rfl rfl rfl (t_skip rfl rfl rfl (t_pick_t rfl rfl rfl rfl (t_pick_t rfl rfl rfl rfl (t_nil' (hK310 _ _ (c_cond_t rfl (c_region (t_assign rfl rfl rfl (t_nil' (hK309 _ _ (c_seq fun K312 hK312 => (c_seq fun K313 hK313 => ?_)))))))))))))))))))))))
   refine c_drawnM follows (fun _ => False) (.look 0 (.look 1 (.look 2 (.look 3 (.look 4 (.act 5 (.act 6 (.look 7 (.look 8 .done)) .stop) .stop)))))) (by kernel_rfl) fun w314 u315 => ?_
   have zu315 := u315.size
   refine y_move rfl rfl rfl (y_cmp rfl rfl rfl rfl rfl (y_samehd (v := .bool false) rfl (y_same 62 (v := .bool false) rfl rfl (y_move rfl rfl rfl (y_skip rfl rfl rfl (y_skip rfl rfl rfl (s_do (t_skip rfl rfl rfl (s_next (Upd.refl _ _) (s_do (t_skip rfl rfl rfl (s_next (Upd.refl _ _) (y_skip rfl rfl rfl (y_pick_f rfl rfl rfl rfl (s_nil (hK313 _ _ (c_cond_f rfl (c_skip (hK312 _ _ (c_seq fun K317 hK317 => (c_seq fun K318 hK318 => (c_region (t_move rfl rfl rfl ?_)))))))))))))))))))))))
   refine t_cmp rfl rfl rfl rfl rfl (t_samehd (v := .bool true) rfl (t_same 71 (v := .bool true) rfl rfl (t_nil' (hK318 _ _ (c_cond_t rfl (c_seq fun K319 hK319 => (c_region (t_move rfl rfl rfl (t_move rfl rfl rfl (t_cmp rfl rfl rfl rfl rfl (t_samehd (v := .bool true) rfl (t_move rfl rfl rfl (t_move rfl rfl rfl (t_cmp rfl rfl rfl rfl rfl (t_samehd (v := .bool true) rfl (t_pick_t rfl rfl rfl rfl (t_move rfl rfl rfl (t_call own8 rfl rfl rfl rfl (known_c _) (fun v320 w321 r323 => ?_)))))))))))))))))))
   obtain ⟨rfl, u322⟩ := r323
   have zu322 := u322.size
   refine t_pick_t rfl rfl rfl rfl (t_assign rfl rfl rfl (t_nil' (hK319 _ _ (c_ret (f_ret1 (v := .bool true) Tryz.results4 rfl ?_)))))
   exact ⟨rfl, ((E308.nx u315).nx u322)⟩
  refine t_indexArr (j := 0) (0) Tryz.underlying49 Tryz.sizeOf3 rfl rfl rfl rfl rfl (by decide) rfl (t_load Tryz.isAgg3 rfl rfl rfl (B311.get rfl) (t_cmp rfl rfl rfl rfl rfl (t_same 48 (v := .bool (decide (20160 < f))) rfl rfl (t_pick_f rfl rfl rfl rfl (t_move rfl rfl rfl (t_splitp 50 rfl (fun g50 => ?_) (fun g50 => ?_)))))))
  ·
   refine t_skip rfl rfl rfl (t_skip rfl rfl rfl (t_skip rfl rfl rfl (t_pick_t rfl rfl rfl rfl (t_move rfl rfl rfl (t_skip rfl rfl rfl (t_skip rfl rfl rfl (t_skip rfl rfl rfl (t_pick_t rfl rfl rfl rfl (t_pick_t rfl rfl rfl rfl (t_nil' (hK310 _ _ (c_cond_t rfl (c_region (t_assign rfl rfl rfl (t_nil' (hK309 _ _ (c_seq fun K325 hK325 => (c_seq fun K326 hK326 => (c_drawnM follows (fun _ => False) (.look 0 (.look 1 (.look 2 (.look 3 (.look 4 (.act 5 (.act 6 (.look 7 (.look 8 .done)) .stop) .stop)))))) (by kernel_rfl) fun w327 u328 => ?_)))))))))))))))))))
   have zu328 := u328.size
   refine y_move rfl rfl rfl (y_cmp rfl rfl rfl rfl rfl (y_samehd (v := .bool false) rfl (y_same 62 (v := .bool false) rfl rfl (y_move rfl rfl rfl (y_skip rfl rfl rfl (y_skip rfl rfl rfl (s_do (t_skip rfl rfl rfl (s_next (Upd.refl _ _) (s_do (t_skip rfl rfl rfl (s_next (Upd.refl _ _) (y_skip rfl rfl rfl (y_pick_f rfl rfl rfl rfl (s_nil (hK326 _ _ (c_cond_f rfl (c_skip (hK325 _ _ (c_seq fun K330 hK330 => (c_seq fun K331 hK331 => (c_region (t_move rfl rfl rfl ?_)))))))))))))))))))))))
   refine t_cmp rfl rfl rfl rfl rfl (t_samehd (v := .bool true) rfl (t_same 71 (v := .bool true) rfl rfl (t_nil' (hK331 _ _ (c_cond_t rfl (c_seq fun K332 hK332 => (c_region (t_move rfl rfl rfl (t_move rfl rfl rfl (t_cmp rfl rfl rfl rfl rfl (t_samehd (v := .bool true) rfl (t_move rfl rfl rfl (t_move rfl rfl rfl (t_cmp rfl rfl rfl rfl rfl (t_samehd (v := .bool true) rfl (t_pick_t rfl rfl rfl rfl (t_move rfl rfl rfl (t_call own8 rfl rfl rfl rfl (known_c _) (fun v333 w334 r336 => ?_)))))))))))))))))))
   obtain ⟨rfl, u335⟩ := r336
   have zu335 := u335.size
   refine t_pick_t rfl rfl rfl rfl (t_assign rfl rfl rfl (t_nil' (hK332 _ _ (c_ret (f_ret1 (v := .bool true) Tryz.results4 rfl ?_)))))
   exact ⟨rfl, ((E308.nx u328).nx u335)⟩
  refine t_indexArr (j := 1) (1) Tryz.underlying49 Tryz.sizeOf3 rfl rfl rfl rfl rfl (by decide) rfl (t_load Tryz.isAgg3 rfl rfl rfl (B311.get rfl) (t_cmp rfl rfl rfl rfl rfl (t_same 53 (v := .bool (decide (len < 1))) rfl rfl (t_pick_f rfl rfl rfl rfl (t_move rfl rfl rfl (t_splitp 55 rfl (fun g55 => ?_) (fun g55 => ?_)))))))
  ·
   refine t_skip rfl rfl rfl (t_skip rfl rfl rfl (t_skip rfl rfl rfl (t_pick_t rfl rfl rfl rfl (t_pick_t rfl rfl rfl rfl (t_nil' (hK310 _ _ (c_cond_t rfl (c_region (t_assign rfl rfl rfl (t_nil' (hK309 _ _ (c_seq fun K338 hK338 => (c_seq fun K339 hK339 => (c_drawnM follows (fun _ => False) (.look 0 (.look 1 (.look 2 (.look 3 (.look 4 (.act 5 (.act 6 (.look 7 (.look 8 .done)) .stop) .stop)))))) (by kernel_rfl) fun w340 u341 => ?_))))))))))))))
   have zu341 := u341.size
   refine y_move rfl rfl rfl (y_cmp rfl rfl rfl rfl rfl (y_samehd (v := .bool false) rfl (y_same 62 (v := .bool false) rfl rfl (y_move rfl rfl rfl (y_skip rfl rfl rfl (y_skip rfl rfl rfl (s_do (t_skip rfl rfl rfl (s_next (Upd.refl _ _) (s_do (t_skip rfl rfl rfl (s_next (Upd.refl _ _) (y_skip rfl rfl rfl (y_pick_f rfl rfl rfl rfl (s_nil (hK339 _ _ (c_cond_f rfl (c_skip (hK338 _ _ (c_seq fun K343 hK343 => (c_seq fun K344 hK344 => (c_region (t_move rfl rfl rfl ?_)))))))))))))))))))))))
   refine t_cmp rfl rfl rfl rfl rfl (t_samehd (v := .bool true) rfl (t_same 71 (v := .bool true) rfl rfl (t_nil' (hK344 _ _ (c_cond_t rfl (c_seq fun K345 hK345 => (c_region (t_move rfl rfl rfl (t_move rfl rfl rfl (t_cmp rfl rfl rfl rfl rfl (t_samehd (v := .bool true) rfl (t_move rfl rfl rfl (t_move rfl rfl rfl (t_cmp rfl rfl rfl rfl rfl (t_samehd (v := .bool true) rfl (t_pick_t rfl rfl rfl rfl (t_move rfl rfl rfl (t_call own8 rfl rfl rfl rfl (known_c _) (fun v346 w347 r349 => ?_)))))))))))))))))))
   obtain ⟨rfl, u348⟩ := r349
   have zu348 := u348.size
   refine t_pick_t rfl rfl rfl rfl (t_assign rfl rfl rfl (t_nil' (hK345 _ _ (c_ret (f_ret1 (v := .bool true) Tryz.results4 rfl ?_)))))
   exact ⟨rfl, ((E308.nx u341).nx u348)⟩
  refine t_indexArr (j := 1) (1) Tryz.underlying49 Tryz.sizeOf3 rfl rfl rfl rfl rfl (by decide) rfl (t_load Tryz.isAgg3 rfl rfl rfl (B311.get rfl) (t_cmp rfl rfl rfl rfl rfl (t_same 58 (v := .bool true) rfl (congrArg Value.bool (decide_eq_true (by omega))) (t_pick_f rfl rfl rfl rfl (t_pick_t rfl rfl rfl rfl (t_nil' (hK310 _ _ (c_cond_t rfl (c_region (t_assign rfl rfl rfl (t_nil' (hK309 _ _ (c_seq fun K351 hK351 => (c_seq fun K352 hK352 => (c_drawnM follows (fun _ => False) (.look 0 (.look 1 (.look 2 (.look 3 (.look 4 (.act 5 (.act 6 (.look 7 (.look 8 .done)) .stop) .stop)))))) (by kernel_rfl) fun w353 u354 => ?_)))))))))))))))
  have zu354 := u354.size
  refine y_move rfl rfl rfl (y_cmp rfl rfl rfl rfl rfl (y_samehd (v := .bool false) rfl (y_same 62 (v := .bool false) rfl rfl (y_move rfl rfl rfl (y_skip rfl rfl rfl (y_skip rfl rfl rfl (s_do (t_skip rfl rfl rfl (s_next (Upd.refl _ _) (s_do (t_skip rfl rfl rfl (s_next (Upd.refl _ _) (y_skip rfl rfl rfl (y_pick_f rfl rfl rfl rfl (s_nil (hK352 _ _ (c_cond_f rfl (c_skip (hK351 _ _ (c_seq fun K356 hK356 => (c_seq fun K357 hK357 => (c_region (t_move rfl rfl rfl ?_)))))))))))))))))))))))
  refine t_cmp rfl rfl rfl rfl rfl (t_samehd (v := .bool true) rfl (t_same 71 (v := .bool true) rfl rfl (t_nil' (hK357 _ _ (c_cond_t rfl (c_seq fun K358 hK358 => (c_region (t_move rfl rfl rfl (t_move rfl rfl rfl (t_cmp rfl rfl rfl rfl rfl (t_samehd (v := .bool true) rfl (t_move rfl rfl rfl (t_move rfl rfl rfl (t_cmp rfl rfl rfl rfl rfl (t_samehd (v := .bool true) rfl (t_pick_t rfl rfl rfl rfl (t_move rfl rfl rfl (t_call own8 rfl rfl rfl rfl (known_c _) (fun v359 w360 r362 => ?_)))))))))))))))))))
  obtain ⟨rfl, u361⟩ := r362
  have zu361 := u361.size
  refine t_pick_t rfl rfl rfl rfl (t_assign rfl rfl rfl (t_nil' (hK358 _ _ (c_ret (f_ret1 (v := .bool true) Tryz.results4 rfl ?_)))))
  exact ⟨rfl, ((E308.nx u354).nx u361)⟩
 ·
  have zu276 := u276.size
  have E364 := E273.nx u276
  obtain ⟨hr, hl20, hod⟩ := chk_ok hc0
  refine s_next ((Upd.refl _ _).nx u276) (y_move rfl rfl rfl (y_extract rfl rfl rfl rfl (y_extract rfl rfl rfl rfl (y_assign rfl rfl rfl (y_assign rfl rfl rfl (s_nil (hK262 _ _ (c_seq fun K365 hK365 => (c_region ?_)))))))))
  have B366 := ((((B4.kx u10).kx u264).kx u271).kx u276)
  refine t_loadN (vs := [.int .i64 r.rest, .int .i64 r.span, .int .i64 r.work, .int .i64 r.week, .int .i64 r.ww]) Tryz.isAgg23 Tryz.sizeOf23 rfl rfl rfl (B366.at.sub 0 5) rfl (t_move rfl rfl rfl (t_call own14 rfl rfl rfl rfl ((refused_c r l al bl ol cl _ (hl.keep E364 (fun _ h => h)) (by omega)).mono fun v w9 h9 => (⟨h9.1.trans (congrArg (Value.int .i64) hc0), h9.2⟩ : v = Value.int .i64 0 ∧ _)) (fun v367 w368 r370 => ?_)))
  obtain ⟨rfl, u369⟩ := r370
  have zu369 := u369.size
  refine t_assign rfl rfl rfl (t_nil' (hK365 _ _ (c_seq fun K372 hK372 => (c_seq fun K373 hK373 => (c_region (t_move rfl rfl rfl (t_cmp rfl rfl rfl rfl rfl (t_samehd (v := .bool true) rfl (t_same 40 (v := .bool true) rfl rfl (t_move rfl rfl rfl (t_indexArr (j := 0) (0) Tryz.underlying49 Tryz.sizeOf3 rfl rfl rfl rfl rfl (by decide) rfl ?_)))))))))))
  have B374 := ((((B9.kx u264).kx u271).kx u276).kx u369)
  refine t_load Tryz.isAgg3 rfl rfl rfl (B374.get rfl) (t_cmp rfl rfl rfl rfl rfl (t_same 44 (v := .bool false) rfl (congrArg Value.bool (decide_eq_false (by omega))) (t_move rfl rfl rfl (t_indexArr (j := 0) (0) Tryz.underlying49 Tryz.sizeOf3 rfl rfl rfl rfl rfl (by decide) rfl (t_load Tryz.isAgg3 rfl rfl rfl (B374.get rfl) (t_cmp rfl rfl rfl rfl rfl (t_same 48 (v := .bool false) rfl (congrArg Value.bool (decide_eq_false (by omega))) (t_pick_f rfl rfl rfl rfl (t_move rfl rfl rfl (t_indexArr (j := 1) (1) Tryz.underlying49 Tryz.sizeOf3 rfl rfl rfl rfl rfl (by decide) rfl (t_load Tryz.isAgg3 rfl rfl rfl (B374.get rfl) (t_cmp rfl rfl rfl rfl rfl (t_same 53 (v := .bool false) rfl (congrArg Value.bool (decide_eq_false (by omega))) (t_pick_f rfl rfl rfl rfl (t_move rfl rfl rfl (t_indexArr (j := 1) (1) Tryz.underlying49 Tryz.sizeOf3 rfl rfl rfl rfl rfl (by decide) rfl (t_load Tryz.isAgg3 rfl rfl rfl (B374.get rfl) (t_cmp rfl rfl rfl rfl rfl (t_same 58 (v := .bool false) rfl (congrArg Value.bool (decide_eq_false (by omega))) (t_pick_f rfl rfl rfl rfl (t_pick_t rfl rfl rfl rfl (t_nil' (hK373 _ _ ?_)))))))))))))))))))))))
  refine c_cond_f rfl (c_skip (hK372 _ _ (c_seq fun K375 hK375 => (c_seq fun K376 hK376 => (c_drawnM follows (fun _ => False) (.look 0 (.look 1 (.look 2 (.look 3 (.look 4 (.act 5 (.act 6 (.look 7 (.look 8 .done)) .stop) .stop)))))) (by kernel_rfl) fun w377 u378 => ?_)))))
  have zu378 := u378.size
  have E379 := (E364.nx u369).nx u378
  refine y_move rfl rfl rfl (y_cmp rfl rfl rfl rfl rfl (y_samehd (v := .bool true) rfl (y_same 62 (v := .bool true) rfl rfl (y_move rfl rfl rfl ?_))))
  have B380 := ((B366.kx u369).kx u378)
  refine y_loadN (vs := [.int .i64 r.rest, .int .i64 r.span, .int .i64 r.work, .int .i64 r.week, .int .i64 r.ww]) Tryz.isAgg23 Tryz.sizeOf23 rfl rfl rfl (B380.at.sub 0 5) rfl (fun h => h) (y_move rfl rfl rfl (s_do (t_call own16 rfl rfl rfl rfl (rLongest_c l al bl ol cl _ (hl.keep E379 (fun _ h => h)) (by omega) (by omega)) (fun v382 w383 r385 => ?_))))
  obtain ⟨⟨aoL381, gL381, cL381, rfl, haL381⟩, u384⟩ := r385
  have zu384 := u384.size
  have lt_gL381 := haL381.lt
  refine s_next ((Upd.refl _ _).nx u384) (s_do (t_call own18 rfl rfl rfl rfl (rBroken_c r (srtS (l.map lngS)) aoL381 gL381 0 cL381 _ (haL381.sl (fun _ => rfl)) (by rw [srt_len, List.length_map]; exact (by omega)) (lngs_ok hod) hr (by omega)) (fun v387 w388 r390 => ?_)))
  obtain ⟨rfl, u389⟩ := r390
  have zu389 := u389.size
  refine s_next ((Upd.refl _ _).nx u389) (y_cmp rfl rfl rfl rfl rfl (y_same 68 (v := .bool true) rfl (congrArg Value.bool (decide_eq_true hB)) (y_pick_t rfl rfl rfl rfl (s_nil (hK376 _ _ (c_cond_t rfl (c_region (t_assign rfl rfl rfl (t_nil' (hK375 _ _ (c_seq fun K392 hK392 => (c_seq fun K393 hK393 => (c_region (t_move rfl rfl rfl (t_cmp rfl rfl rfl rfl rfl (t_samehd (v := .bool true) rfl (t_same 71 (v := .bool true) rfl rfl (t_nil' (hK393 _ _ (c_cond_t rfl (c_seq fun K394 hK394 => (c_region (t_move rfl rfl rfl ?_)))))))))))))))))))))))
  refine t_move rfl rfl rfl (t_cmp rfl rfl rfl rfl rfl (t_samehd (v := .bool true) rfl (t_move rfl rfl rfl (t_move rfl rfl rfl (t_cmp rfl rfl rfl rfl rfl (t_samehd (v := .bool true) rfl (t_pick_t rfl rfl rfl rfl (t_move rfl rfl rfl (t_call own8 rfl rfl rfl rfl (known_c _) (fun v395 w396 r398 => ?_))))))))))
  obtain ⟨rfl, u397⟩ := r398
  have zu397 := u397.size
  refine t_pick_t rfl rfl rfl rfl (t_assign rfl rfl rfl (t_nil' (hK394 _ _ (c_ret (f_ret1 (v := .bool true) Tryz.results4 rfl ?_)))))
  exact ⟨rfl, (((E379.nx u384).nx u389).nx u397)⟩
 ·
  have zu276 := u276.size
  have E400 := E273.nx u276
  obtain ⟨hr, hl20, hod⟩ := chk_ok hc0
  refine s_next ((Upd.refl _ _).nx u276) (y_move rfl rfl rfl (y_extract rfl rfl rfl rfl (y_extract rfl rfl rfl rfl (y_assign rfl rfl rfl (y_assign rfl rfl rfl (s_nil (hK262 _ _ (c_seq fun K401 hK401 => (c_region ?_)))))))))
  have B402 := ((((B4.kx u10).kx u264).kx u271).kx u276)
  refine t_loadN (vs := [.int .i64 r.rest, .int .i64 r.span, .int .i64 r.work, .int .i64 r.week, .int .i64 r.ww]) Tryz.isAgg23 Tryz.sizeOf23 rfl rfl rfl (B402.at.sub 0 5) rfl (t_move rfl rfl rfl (t_call own14 rfl rfl rfl rfl ((refused_c r l al bl ol cl _ (hl.keep E400 (fun _ h => h)) (by omega)).mono fun v w9 h9 => (⟨h9.1.trans (congrArg (Value.int .i64) hc0), h9.2⟩ : v = Value.int .i64 0 ∧ _)) (fun v403 w404 r406 => ?_)))
  obtain ⟨rfl, u405⟩ := r406
  have zu405 := u405.size
  refine t_assign rfl rfl rfl (t_nil' (hK401 _ _ (c_seq fun K408 hK408 => (c_seq fun K409 hK409 => (c_region (t_move rfl rfl rfl (t_cmp rfl rfl rfl rfl rfl (t_samehd (v := .bool true) rfl (t_same 40 (v := .bool true) rfl rfl (t_move rfl rfl rfl (t_indexArr (j := 0) (0) Tryz.underlying49 Tryz.sizeOf3 rfl rfl rfl rfl rfl (by decide) rfl ?_)))))))))))
  have B410 := ((((B9.kx u264).kx u271).kx u276).kx u405)
  refine t_load Tryz.isAgg3 rfl rfl rfl (B410.get rfl) (t_cmp rfl rfl rfl rfl rfl (t_same 44 (v := .bool false) rfl (congrArg Value.bool (decide_eq_false (by omega))) (t_move rfl rfl rfl (t_indexArr (j := 0) (0) Tryz.underlying49 Tryz.sizeOf3 rfl rfl rfl rfl rfl (by decide) rfl (t_load Tryz.isAgg3 rfl rfl rfl (B410.get rfl) (t_cmp rfl rfl rfl rfl rfl (t_same 48 (v := .bool false) rfl (congrArg Value.bool (decide_eq_false (by omega))) (t_pick_f rfl rfl rfl rfl (t_move rfl rfl rfl (t_indexArr (j := 1) (1) Tryz.underlying49 Tryz.sizeOf3 rfl rfl rfl rfl rfl (by decide) rfl (t_load Tryz.isAgg3 rfl rfl rfl (B410.get rfl) (t_cmp rfl rfl rfl rfl rfl (t_same 53 (v := .bool false) rfl (congrArg Value.bool (decide_eq_false (by omega))) (t_pick_f rfl rfl rfl rfl (t_move rfl rfl rfl (t_indexArr (j := 1) (1) Tryz.underlying49 Tryz.sizeOf3 rfl rfl rfl rfl rfl (by decide) rfl (t_load Tryz.isAgg3 rfl rfl rfl (B410.get rfl) (t_cmp rfl rfl rfl rfl rfl (t_same 58 (v := .bool false) rfl (congrArg Value.bool (decide_eq_false (by omega))) (t_pick_f rfl rfl rfl rfl (t_pick_t rfl rfl rfl rfl (t_nil' (hK409 _ _ ?_)))))))))))))))))))))))
  refine c_cond_f rfl (c_skip (hK408 _ _ (c_seq fun K411 hK411 => (c_seq fun K412 hK412 => (c_drawnM follows (fun _ => False) (.look 0 (.look 1 (.look 2 (.look 3 (.look 4 (.act 5 (.act 6 (.look 7 (.look 8 .done)) .stop) .stop)))))) (by kernel_rfl) fun w413 u414 => ?_)))))
  have zu414 := u414.size
  have E415 := (E400.nx u405).nx u414
  refine y_move rfl rfl rfl (y_cmp rfl rfl rfl rfl rfl (y_samehd (v := .bool true) rfl (y_same 62 (v := .bool true) rfl rfl (y_move rfl rfl rfl ?_))))
  have B416 := ((B402.kx u405).kx u414)
  refine y_loadN (vs := [.int .i64 r.rest, .int .i64 r.span, .int .i64 r.work, .int .i64 r.week, .int .i64 r.ww]) Tryz.isAgg23 Tryz.sizeOf23 rfl rfl rfl (B416.at.sub 0 5) rfl (fun h => h) (y_move rfl rfl rfl (s_do (t_call own16 rfl rfl rfl rfl (rLongest_c l al bl ol cl _ (hl.keep E415 (fun _ h => h)) (by omega) (by omega)) (fun v418 w419 r421 => ?_))))
  obtain ⟨⟨aoL417, gL417, cL417, rfl, haL417⟩, u420⟩ := r421
  have zu420 := u420.size
  have lt_gL417 := haL417.lt
  refine s_next ((Upd.refl _ _).nx u420) (s_do (t_call own18 rfl rfl rfl rfl (rBroken_c r (srtS (l.map lngS)) aoL417 gL417 0 cL417 _ (haL417.sl (fun _ => rfl)) (by rw [srt_len, List.length_map]; exact (by omega)) (lngs_ok hod) hr (by omega)) (fun v423 w424 r426 => ?_)))
  obtain ⟨rfl, u425⟩ := r426
  have zu425 := u425.size
  have E427 := (E415.nx u420).nx u425
  refine s_next ((Upd.refl _ _).nx u425) (y_cmp rfl rfl rfl rfl rfl (y_same 68 (v := .bool false) rfl (congrArg Value.bool (decide_eq_false (fun h => h hB))) (y_pick_t rfl rfl rfl rfl (s_nil (hK412 _ _ (c_cond_f rfl (c_skip (hK411 _ _ (c_seq fun K428 hK428 => (c_seq fun K429 hK429 => (c_region (t_move rfl rfl rfl (t_cmp rfl rfl rfl rfl rfl (t_samehd (v := .bool false) rfl (t_same 71 (v := .bool false) rfl rfl (t_nil' (hK429 _ _ (c_cond_f rfl (c_skip (hK428 _ _ (c_seq fun K430 hK430 => (c_region ?_))))))))))))))))))))))
  have B431 := ((((B402.kx u405).kx u414).kx u420).kx u425)
  refine t_loadN (vs := [.int .i64 r.rest, .int .i64 r.span, .int .i64 r.work, .int .i64 r.week, .int .i64 r.ww]) Tryz.isAgg23 Tryz.sizeOf23 rfl rfl rfl (B431.at.sub 0 5) rfl (t_move rfl rfl rfl (t_indexArr (j := 0) (0) Tryz.underlying49 Tryz.sizeOf3 rfl rfl rfl rfl rfl (by decide) rfl ?_))
  have B432 := (((B410.kx u414).kx u420).kx u425)
  refine t_load Tryz.isAgg3 rfl rfl rfl (B432.get rfl) (t_indexArr (j := 1) (1) Tryz.underlying49 Tryz.sizeOf3 rfl rfl rfl rfl rfl (by decide) rfl (t_load Tryz.isAgg3 rfl rfl rfl (B432.get rfl) (t_call own21 rfl rfl rfl rfl (rNext_c r l al bl ol cl f len _ (hl.keep E427 (fun _ h => h)) (by omega) hod hcl hr (by omega) hfl.1 hfl.2) (fun v433 w434 r436 => ?_))))
  obtain ⟨⟨t2, rfl, hN2⟩, u435⟩ := r436
  have zu435 := u435.size
  have hmf := (mxF_rng hfl.1 (lngs_ok hod) (srtS (l.map lngS)).length (Nat.le_refl _)).1
  have e9 : t = t2 := by
    rcases hN2 with ⟨_, h1, h2, h3, h4⟩ | ⟨_, h1⟩
    · by_cases q1 : t < t2
      · exact absurd hbt (h4 t hMt q1)
      · by_cases q2 : t2 < t
        · exact absurd h3 (hno t2 h1 q2)
        · omega
    · exact absurd hbt (h1 t hMt htl)
  subst e9
  refine t_assign rfl rfl rfl (t_nil' (hK430 _ _ (c_seq fun K438 hK438 => (c_seq fun K439 hK439 => (c_region (t_move rfl rfl rfl (t_cmp rfl rfl rfl rfl rfl (t_same 90 (v := .bool false) rfl (congrArg Value.bool (decide_eq_false (by omega))) (t_nil' (hK439 _ _ (c_cond_f rfl (c_skip (hK438 _ _ (c_seq fun K440 hK440 => (c_region (t_move rfl rfl rfl (t_cmp rfl rfl rfl rfl rfl (t_samehd (v := .bool true) rfl (t_move rfl rfl rfl (t_move rfl rfl rfl (t_move rfl rfl rfl (t_cmp rfl rfl rfl rfl rfl (t_samehd (v := .bool true) (by simp) ?_)))))))))))))))))))))))
  refine t_pick_t rfl rfl rfl rfl (t_move rfl rfl rfl (t_call own8 rfl rfl rfl rfl (known_c _) (fun v441 w442 r444 => ?_)))
  obtain ⟨rfl, u443⟩ := r444
  have zu443 := u443.size
  refine t_pick_t rfl rfl rfl rfl (t_assign rfl rfl rfl (t_nil' (hK440 _ _ (c_ret (f_ret1 (v := .bool true) Tryz.results4 rfl ?_)))))
  exact ⟨rfl, ((E427.nx u435).nx u443)⟩
 have zu276 := u276.size
 have E446 := E273.nx u276
 obtain ⟨hr, hl20, hod⟩ := chk_ok hc0
 refine s_next ((Upd.refl _ _).nx u276) (y_move rfl rfl rfl (y_extract rfl rfl rfl rfl (y_extract rfl rfl rfl rfl (y_assign rfl rfl rfl (y_assign rfl rfl rfl (s_nil (hK262 _ _ (c_seq fun K447 hK447 => (c_region ?_)))))))))
 have B448 := ((((B4.kx u10).kx u264).kx u271).kx u276)
 refine t_loadN (vs := [.int .i64 r.rest, .int .i64 r.span, .int .i64 r.work, .int .i64 r.week, .int .i64 r.ww]) Tryz.isAgg23 Tryz.sizeOf23 rfl rfl rfl (B448.at.sub 0 5) rfl (t_move rfl rfl rfl (t_call own14 rfl rfl rfl rfl ((refused_c r l al bl ol cl _ (hl.keep E446 (fun _ h => h)) (by omega)).mono fun v w9 h9 => (⟨h9.1.trans (congrArg (Value.int .i64) hc0), h9.2⟩ : v = Value.int .i64 0 ∧ _)) (fun v449 w450 r452 => ?_)))
 obtain ⟨rfl, u451⟩ := r452
 have zu451 := u451.size
 refine t_assign rfl rfl rfl (t_nil' (hK447 _ _ (c_seq fun K454 hK454 => (c_seq fun K455 hK455 => (c_region (t_move rfl rfl rfl (t_cmp rfl rfl rfl rfl rfl (t_samehd (v := .bool true) rfl (t_same 40 (v := .bool true) rfl rfl (t_move rfl rfl rfl (t_indexArr (j := 0) (0) Tryz.underlying49 Tryz.sizeOf3 rfl rfl rfl rfl rfl (by decide) rfl ?_)))))))))))
 have B456 := ((((B9.kx u264).kx u271).kx u276).kx u451)
 refine t_load Tryz.isAgg3 rfl rfl rfl (B456.get rfl) (t_cmp rfl rfl rfl rfl rfl (t_same 44 (v := .bool false) rfl (congrArg Value.bool (decide_eq_false (by omega))) (t_move rfl rfl rfl (t_indexArr (j := 0) (0) Tryz.underlying49 Tryz.sizeOf3 rfl rfl rfl rfl rfl (by decide) rfl (t_load Tryz.isAgg3 rfl rfl rfl (B456.get rfl) (t_cmp rfl rfl rfl rfl rfl (t_same 48 (v := .bool false) rfl (congrArg Value.bool (decide_eq_false (by omega))) (t_pick_f rfl rfl rfl rfl (t_move rfl rfl rfl (t_indexArr (j := 1) (1) Tryz.underlying49 Tryz.sizeOf3 rfl rfl rfl rfl rfl (by decide) rfl (t_load Tryz.isAgg3 rfl rfl rfl (B456.get rfl) (t_cmp rfl rfl rfl rfl rfl (t_same 53 (v := .bool false) rfl (congrArg Value.bool (decide_eq_false (by omega))) (t_pick_f rfl rfl rfl rfl (t_move rfl rfl rfl (t_indexArr (j := 1) (1) Tryz.underlying49 Tryz.sizeOf3 rfl rfl rfl rfl rfl (by decide) rfl (t_load Tryz.isAgg3 rfl rfl rfl (B456.get rfl) (t_cmp rfl rfl rfl rfl rfl (t_same 58 (v := .bool false) rfl (congrArg Value.bool (decide_eq_false (by omega))) (t_pick_f rfl rfl rfl rfl (t_pick_t rfl rfl rfl rfl (t_nil' (hK455 _ _ ?_)))))))))))))))))))))))
 refine c_cond_f rfl (c_skip (hK454 _ _ (c_seq fun K457 hK457 => (c_seq fun K458 hK458 => (c_drawnM follows (fun _ => False) (.look 0 (.look 1 (.look 2 (.look 3 (.look 4 (.act 5 (.act 6 (.look 7 (.look 8 .done)) .stop) .stop)))))) (by kernel_rfl) fun w459 u460 => ?_)))))
 have zu460 := u460.size
 have E461 := (E446.nx u451).nx u460
 refine y_move rfl rfl rfl (y_cmp rfl rfl rfl rfl rfl (y_samehd (v := .bool true) rfl (y_same 62 (v := .bool true) rfl rfl (y_move rfl rfl rfl ?_))))
 have B462 := ((B448.kx u451).kx u460)
 refine y_loadN (vs := [.int .i64 r.rest, .int .i64 r.span, .int .i64 r.work, .int .i64 r.week, .int .i64 r.ww]) Tryz.isAgg23 Tryz.sizeOf23 rfl rfl rfl (B462.at.sub 0 5) rfl (fun h => h) (y_move rfl rfl rfl (s_do (t_call own16 rfl rfl rfl rfl (rLongest_c l al bl ol cl _ (hl.keep E461 (fun _ h => h)) (by omega) (by omega)) (fun v464 w465 r467 => ?_))))
 obtain ⟨⟨aoL463, gL463, cL463, rfl, haL463⟩, u466⟩ := r467
 have zu466 := u466.size
 have lt_gL463 := haL463.lt
 refine s_next ((Upd.refl _ _).nx u466) (s_do (t_call own18 rfl rfl rfl rfl (rBroken_c r (srtS (l.map lngS)) aoL463 gL463 0 cL463 _ (haL463.sl (fun _ => rfl)) (by rw [srt_len, List.length_map]; exact (by omega)) (lngs_ok hod) hr (by omega)) (fun v469 w470 r472 => ?_)))
 obtain ⟨rfl, u471⟩ := r472
 have zu471 := u471.size
 have E473 := (E461.nx u466).nx u471
 refine s_next ((Upd.refl _ _).nx u471) (y_cmp rfl rfl rfl rfl rfl (y_same 68 (v := .bool false) rfl (congrArg Value.bool (decide_eq_false (fun h => h hB))) (y_pick_t rfl rfl rfl rfl (s_nil (hK458 _ _ (c_cond_f rfl (c_skip (hK457 _ _ (c_seq fun K474 hK474 => (c_seq fun K475 hK475 => (c_region (t_move rfl rfl rfl (t_cmp rfl rfl rfl rfl rfl (t_samehd (v := .bool false) rfl (t_same 71 (v := .bool false) rfl rfl (t_nil' (hK475 _ _ (c_cond_f rfl (c_skip (hK474 _ _ (c_seq fun K476 hK476 => (c_region ?_))))))))))))))))))))))
 have B477 := ((((B448.kx u451).kx u460).kx u466).kx u471)
 refine t_loadN (vs := [.int .i64 r.rest, .int .i64 r.span, .int .i64 r.work, .int .i64 r.week, .int .i64 r.ww]) Tryz.isAgg23 Tryz.sizeOf23 rfl rfl rfl (B477.at.sub 0 5) rfl (t_move rfl rfl rfl (t_indexArr (j := 0) (0) Tryz.underlying49 Tryz.sizeOf3 rfl rfl rfl rfl rfl (by decide) rfl ?_))
 have B478 := (((B456.kx u460).kx u466).kx u471)
 refine t_load Tryz.isAgg3 rfl rfl rfl (B478.get rfl) (t_indexArr (j := 1) (1) Tryz.underlying49 Tryz.sizeOf3 rfl rfl rfl rfl rfl (by decide) rfl (t_load Tryz.isAgg3 rfl rfl rfl (B478.get rfl) (t_call own21 rfl rfl rfl rfl (rNext_c r l al bl ol cl f len _ (hl.keep E473 (fun _ h => h)) (by omega) hod hcl hr (by omega) hfl.1 hfl.2) (fun v479 w480 r482 => ?_))))
 obtain ⟨⟨t2, rfl, hN2⟩, u481⟩ := r482
 have zu481 := u481.size
 have e9 : t2 = -1 := by
   rcases hN2 with ⟨_, h1, h2, h3, _⟩ | ⟨h1, _⟩
   · exact absurd h3 (hno t2 h1 h2)
   · exact h1
 subst e9
 refine t_assign rfl rfl rfl (t_nil' (hK476 _ _ (c_seq fun K484 hK484 => (c_seq fun K485 hK485 => (c_region (t_move rfl rfl rfl (t_cmp rfl rfl rfl rfl rfl (t_samehd (v := .bool true) rfl (t_same 90 (v := .bool true) rfl rfl (t_nil' (hK485 _ _ (c_cond_t rfl (c_seq fun K486 hK486 => (c_region (t_move rfl rfl rfl (t_cmp rfl rfl rfl rfl rfl (t_samehd (v := .bool true) rfl (t_move rfl rfl rfl (t_move rfl rfl rfl (t_cmp rfl rfl rfl rfl rfl (t_samehd (v := .bool true) rfl (t_pick_t rfl rfl rfl rfl (t_move rfl rfl rfl ?_)))))))))))))))))))))))
 refine t_call own8 rfl rfl rfl rfl (known_c _) (fun v487 w488 r490 => ?_)
 obtain ⟨rfl, u489⟩ := r490
 have zu489 := u489.size
 refine t_pick_t rfl rfl rfl rfl (t_assign rfl rfl rfl (t_nil' (hK486 _ _ (c_ret (f_ret1 (v := .bool true) Tryz.results4 rfl ?_)))))
 exact ⟨rfl, ((E473.nx u481).nx u489)⟩

end Go.Proofs.YtagmodjadmecdaaGreat
