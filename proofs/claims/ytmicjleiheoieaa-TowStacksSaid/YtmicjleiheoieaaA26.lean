/-
  The law TowStacks returns true. Conditions: none.
-/
import Derived.Test.YtmicjleiheoieaaA13
import Derived.Test.YtmicjleiheoieaaA25
namespace Go.Proofs.Ytmicjleiheoieaa
open Go Go.RowKit
theorem stk_long {boat : Hull} {xs : List Hull} {W : Int} (h : 30 < xs.length) : StkE boat xs W = if (xs.any fun h => !okHull h || !okHull boat) = true then 2 else 5 := by
  have hx : 0 < xs.length := by omega
  unfold StkE
  have e : ((!okHull boat || xs.any fun h => !okHull h) = true) ↔ ((xs.any fun h => !okHull h || !okHull boat) = true) := by
    cases okHull boat
    · simp only [Bool.not_false, Bool.true_or, Bool.or_true, true_iff]
      exact List.any_eq_true.2 ⟨nth xs 0, nth_mem hx, rfl⟩
    · simp
  by_cases hc : (xs.any fun h => !okHull h || !okHull boat) = true
  · rw [if_pos hc, if_pos (e.2 hc)]
  · rw [if_neg hc, if_neg (fun h => hc (e.1 h)), if_pos h]
theorem StkR_len {boat : Hull} {xs : List Hull} {W : Int} : (StkR boat xs W).length ≤ 1000000 := by
  unfold StkR; split
  · exact Nat.le_trans (rowsR_len 10 xs) (by decide)
  · simp
theorem any_step {xs : List Hull} {p : Hull → Bool} {k : Nat} (hk : k < xs.length) : ((xs.take (k + 1)).any p) = ((xs.take k).any p || p (nth xs k)) := by
  rw [take_nth hk]; simp

theorem own3 : Own Try.prog 3 := ⟨Try.f3, Try.func3, by kernel_rfl, by kernel_rfl⟩

theorem eqIn23 (n : Nat) (a0 : Int) (a1 : Int) (a2 : Int) (b0 : Int) (b1 : Int) (b2 : Int) (w : World) : (Op.equalIn (n + 2) 23 (.agg #[.int .i64 a0, .int .i64 a1, .int .i64 a2]) (.agg #[.int .i64 b0, .int .i64 b1, .int .i64 b2])).run Try.prog w = .ok (decide (a0 = b0) && decide (a1 = b1) && decide (a2 = b2)) w := by
  have hS : Try.prog.underlying 23 = some (.struct (Try.prog.fieldsOf 23)) := by kernel_rfl
  have hp : Try.prog.stoodInHeld 23 = false := by kernel_rfl
  have p0 : ∀ (a0 : Int) (a1 : Int) (a2 : Int), (part 3 #[.int .i64 a0, .int .i64 a1, .int .i64 a2] 0).run Try.prog w = .ok (.int .i64 a0) w := fun _ _ _ => by simp [part, Try.isAgg3]
  have p1 : ∀ (a0 : Int) (a1 : Int) (a2 : Int), (part 3 #[.int .i64 a0, .int .i64 a1, .int .i64 a2] 1).run Try.prog w = .ok (.int .i64 a1) w := fun _ _ _ => by simp [part, Try.isAgg3]
  have p2 : ∀ (a0 : Int) (a1 : Int) (a2 : Int), (part 3 #[.int .i64 a0, .int .i64 a1, .int .i64 a2] 2).run Try.prog w = .ok (.int .i64 a2) w := fun _ _ _ => by simp [part, Try.isAgg3]
  have e3 := fun a b w => equal_i64 Try.underlying3 (n + 0) a b w
  rw [run_equalIn_struct w (n + 1) 23 _ _ hS hp]
  simp only [Program.fieldsOf, Try.underlying23]
  simp only [Op.eqFields, Sem.run_bind, Sem.run_ite, p0, p1, p2, e3, Result.andThen_ok]
  by_cases h0 : a0 = b0 <;> by_cases h1 : a1 = b1 <;> by_cases h2 : a2 = b2 <;> simp [h0, h1, h2, p0, p1, p2, e3]


theorem equalNil_c (xs : List Int) (ax : Option Addr) (bx cx : Nat) (h : xs = []) (w0 : World) : CallsV Try.prog 21 [.slice ax xs.length cx, .slice none 0 0] w0 (fun v w' => v = .bool true ∧ Ext w0 w') := by
  subst h
  exact equal_c [] ax bx 0 cx none 0 0 0 w0 (Sl.nil _ _ _ _ _ _) (Sl.nil _ _ _ _ _ _) (by decide)

set_option maxHeartbeats 1000000 in
theorem TowStacks_c (boat : Hull) (xs : List Hull) (W : Int) (ao : Option Addr) (b o cap : Nat) (w0 : World) (hs : Sl encHull 3 w0 ao b o xs) :
    CallsV Try.prog 3 [.agg #[.int .i64 boat.len, .int .i64 boat.wid, .int .i64 boat.mass], .slice ao xs.length cap, .int .i64 W] w0 (fun v w' => v = .bool true ∧ Ext w0 w') := by
 have E0 := Upd.refl (fun _ => False) w0
 refine f_enter (N := 104) Try.func3 rfl rfl rfl ?_
 change WC _ _ _ _ _ _ [(0, .agg #[.int .i64 boat.len, .int .i64 boat.wid, .int .i64 boat.mass]), (1, .slice ao xs.length cap), (2, .int .i64 W)] _
 refine c_seq fun K1 hK1 => (c_region (t_box (cs := [.int .i64 boat.len, .int .i64 boat.wid, .int .i64 boat.mass]) rfl rfl rfl rfl (fun bk2 w3 ebk2 sbk2 B4 u5 => ?_)))
 have zu5 := u5.size
 have E6 := E0.next u5 (fun _ _ h => h.elim)
 refine t_assign rfl rfl rfl (t_nil' (hK1 _ _ (c_seq fun K7 hK7 => (c_seq fun K8 hK8 => (c_region (t_move rfl rfl rfl (t_len Try.underlying24 rfl rfl rfl rfl (t_cmp rfl rfl rfl rfl rfl (t_move rfl rfl rfl (t_splitp 19 rfl (fun g19 => ?_) (fun g19 => ?_)))))))))))
 ·
  refine t_move rfl rfl rfl (t_len Try.underlying24 rfl rfl rfl rfl (t_cmp rfl rfl rfl rfl rfl (t_pick_t rfl rfl rfl rfl (t_move rfl rfl rfl (t_splitp 24 rfl (fun g24 => ?_) (fun g24 => ?_))))))
  ·
   refine t_skip rfl rfl rfl (t_skip rfl rfl rfl (t_skip rfl rfl rfl (t_pick_t rfl rfl rfl rfl (t_nil' (hK8 _ _ (c_cond_t rfl (c_seq fun K9 hK9 => (c_region (t_call (vs := []) own16 rfl rfl rfl rfl (known_c _) (fun v10 w11 r13 => ?_))))))))))
   obtain ⟨rfl, u12⟩ := r13
   have zu12 := u12.size
   have E14 := E6.next u12 (fun _ _ h => h.elim)
   refine t_assign rfl rfl rfl (t_nil' (hK9 _ _ (c_ret (f_ret1 (v := .bool true) Try.results3 rfl ?_))))
   exact ⟨rfl, E14⟩
  ·
   refine t_move rfl rfl rfl (t_len Try.underlying24 rfl rfl rfl rfl (t_cmp rfl rfl rfl rfl rfl (t_pick_f rfl rfl rfl rfl (t_nil' (hK8 _ _ (c_condp rfl (fun g28 => ?_) (fun g28 => ?_)))))))
   ·
    refine c_seq fun K15 hK15 => (c_region (t_call (vs := []) own16 rfl rfl rfl rfl (known_c _) (fun v16 w17 r19 => ?_)))
    obtain ⟨rfl, u18⟩ := r19
    have zu18 := u18.size
    have E20 := E6.next u18 (fun _ _ h => h.elim)
    refine t_assign rfl rfl rfl (t_nil' (hK15 _ _ (c_ret (f_ret1 (v := .bool true) Try.results3 rfl ?_))))
    exact ⟨rfl, E20⟩
   ·
    refine c_skip (hK7 _ _ (c_seq fun K21 hK21 => (c_region (t_move rfl rfl rfl (t_call (vs := [.slice ao xs.length cap]) own17 rfl rfl rfl rfl (hulls_c xs ao b o cap _ (hs.keep E6 (fun _ h => h)) (by omega)) (fun v23 w24 r26 => ?_))))))
    obtain ⟨⟨aoC22, bC22, cpC22, rfl, hC22, gebC22, lecpC22⟩, u25⟩ := r26
    have zu25 := u25.size
    have E27 := E6.next u25 (fun _ _ h => h.elim)
    refine t_assign rfl rfl rfl (t_nil' (hK21 _ _ (c_seq fun K28 hK28 => (c_region ?_))))
    have B29 := (B4.keep u25 (fun h => h))
    refine t_loadN (vs := [.int .i64 boat.len, .int .i64 boat.wid, .int .i64 boat.mass]) Try.isAgg23 Try.sizeOf23 rfl rfl rfl (B29.at.sub 0 3) rfl (t_move rfl rfl rfl (t_move rfl rfl rfl (t_call (vs := [.agg #[.int .i64 boat.len, .int .i64 boat.wid, .int .i64 boat.mass], .slice aoC22 ((xs).length) cpC22, .int .i64 W]) own18 rfl rfl rfl rfl (Stack_c boat xs W aoC22 bC22 0 cpC22 _ hC22 (by omega) lecpC22 (by omega)) (fun v30 w31 r33 => ?_))))
    obtain ⟨aoS, bS, cpS, rfl, hS, u32⟩ := r33
    have zu32 := u32.size
    have E34 := E27.next u32 (fun _ _ h => h.elim)
    refine t_move rfl rfl rfl (t_extract (vs := [.slice aoS ((StkR boat xs W).length) cpS, .int .i64 (StkN boat xs W), .int .i64 (StkE boat xs W)]) rfl rfl rfl rfl (t_extract (vs := [.slice aoS ((StkR boat xs W).length) cpS, .int .i64 (StkN boat xs W), .int .i64 (StkE boat xs W)]) rfl rfl rfl rfl (t_extract (vs := [.slice aoS ((StkR boat xs W).length) cpS, .int .i64 (StkN boat xs W), .int .i64 (StkE boat xs W)]) rfl rfl rfl rfl (t_assign rfl rfl rfl (t_assign rfl rfl rfl (t_assign rfl rfl rfl (t_nil' (hK28 _ _ (c_seq fun K35 hK35 => (c_seq fun K36 hK36 => (c_region (t_assign rfl rfl rfl (t_nil' (hK36 _ _ (c_block (c_loop (γ := Nat) (fun k => [(1, .slice ao xs.length cap), (2, .int .i64 W), (3, .pointer (some ⟨bk2, 0, none⟩)), (7, .slice aoC22 ((xs).length) cpC22), (8, .slice aoS ((StkR boat xs W).length) cpS), (9, .int .i64 (StkN boat xs W)), (10, .int .i64 (StkE boat xs W)), (11, .int .i64 (k : Int))]) (fun k w => Upd (fun _ => False) w31 w ∧ (k ≤ xs.length)) (fun k => xs.length - k) 0 ⟨rfl, rfl, rfl, rfl, rfl, rfl, rfl, rfl, trivial⟩ ⟨Upd.refl _ _, Nat.zero_le _⟩ ?_))))))))))))))))
    intro k w38 hW K37 hK37
    obtain ⟨u39, I40⟩ := hW
    have zu39 := u39.size
    have E41 := E34.next u39 (fun _ _ h => h.elim)
    have hk := I40; clear I40
    refine c_seq fun K42 hK42 => (c_seq fun K43 hK43 => (c_region (t_move rfl rfl rfl (t_move rfl rfl rfl (t_len Try.underlying24 rfl rfl rfl rfl (t_cmp rfl rfl rfl rfl rfl (t_nil' (hK43 _ _ (c_condp rfl (fun g43 => ?_) (fun g43 => ?_))))))))))
    ·
     refine c_skip (hK42 _ _ (c_seq fun K44 hK44 => (c_block (c_seq fun K45 hK45 => (WC.weak [(1, .slice ao xs.length cap), (2, .int .i64 W), (3, .pointer (some ⟨bk2, 0, none⟩)), (7, .slice aoC22 ((xs).length) cpC22), (8, .slice aoS ((StkR boat xs W).length) cpS), (9, .int .i64 (StkN boat xs W)), (10, .int .i64 (StkE boat xs W)), (11, .int .i64 (k : Int)), (40, .int .i64 (k : Int)), (41, .slice ao xs.length cap), (42, .int .i64 (xs.length : Int)), (43, .bool (decide ((k : Int) < (xs.length : Int))))] ⟨rfl, rfl, rfl, rfl, rfl, rfl, rfl, rfl, rfl, rfl, rfl, rfl, trivial⟩ (c_drawn follows 9 [some (46, some (.slice aoC22 ((xs).length) cpC22)), some (47, some (.int .i64 (k : Int))), some (48, some (.pointer (some ⟨bC22, 0 + k * 3, none⟩))), some (49, some (.agg #[.int .i64 ((nth xs k).len), .int .i64 ((nth xs k).wid), .int .i64 ((nth xs k).mass)])), some (50, some (.slice ao xs.length cap)), some (51, some (.int .i64 (k : Int))), some (52, some (.pointer (some ⟨b, o + k * 3, none⟩))), some (53, some (.agg #[.int .i64 ((nth xs k).len), .int .i64 ((nth xs k).wid), .int .i64 ((nth xs k).mass)])), some (54, some (.bool false))] [[],[],[0,1],[2],[],[],[4,5],[6],[3,7]] (fun _ _ w => Upd (fun _ => False) w38 w) rfl rfl rfl (by kernel_rfl) (by kernel_rfl) (Upd.drew _).to ⟨?_, ?_, ?_, ?_, ?_, ?_, ?_, ?_, ?_, trivial⟩ ?_))))))
     · exact fun D ρ w _ _ _ hW => ⟨[(7, .slice aoC22 ((xs).length) cpC22)], ⟨fo rfl rfl, trivial⟩, fun Lr => t_move rfl rfl rfl (dz rfl hW)⟩
     · exact fun D ρ w _ _ _ hW => ⟨[(11, .int .i64 (k : Int))], ⟨fo rfl rfl, trivial⟩, fun Lr => t_move rfl rfl rfl (dz rfl hW)⟩
     ·
      intro D ρ w49 hcD hnD hdD hW
      have zhW := hW.size
      refine ⟨[(46, .slice aoC22 ((xs).length) cpC22), (47, .int .i64 (k : Int))], ⟨fi 0 rfl rfl rfl, fi 1 rfl rfl rfl, trivial⟩, fun Lr => ?_⟩
      show WL _ _ _ _ _ _ _ ((46, .slice aoC22 ((xs).length) cpC22) :: (47, .int .i64 (k : Int)) :: Lr) _
      have D52 := (((hC22.keep u32 (fun _ h => h)).keep u39 (fun _ h => h)).keep hW (fun _ h => h))
      have i53 : k < xs.length := (by omega)
      refine t_index (j := k) Try.underlying24 Try.sizeOf23 rfl rfl rfl rfl (D52.addr (by omega)) rfl i53 ?_
      exact dz rfl hW
     ·
      intro D ρ w54 hcD hnD hdD hW
      have zhW := hW.size
      refine ⟨[(48, .pointer (some ⟨bC22, 0 + k * 3, none⟩))], ⟨fi 2 rfl rfl rfl, trivial⟩, fun Lr => ?_⟩
      show WL _ _ _ _ _ _ _ ((48, .pointer (some ⟨bC22, 0 + k * 3, none⟩)) :: Lr) _
      have D57 := (((hC22.keep u32 (fun _ h => h)).keep u39 (fun _ h => h)).keep hW (fun _ h => h))
      refine t_loadN (vs := [.int .i64 ((nth xs k).len), .int .i64 ((nth xs k).wid), .int .i64 ((nth xs k).mass)]) Try.isAgg23 Try.sizeOf23 rfl rfl rfl ((D57.at_ k (by omega)).sub 0 3) rfl ?_
      exact dz rfl hW
     · exact fun D ρ w _ _ _ hW => ⟨[(1, .slice ao xs.length cap)], ⟨fo rfl rfl, trivial⟩, fun Lr => t_move rfl rfl rfl (dz rfl hW)⟩
     · exact fun D ρ w _ _ _ hW => ⟨[(11, .int .i64 (k : Int))], ⟨fo rfl rfl, trivial⟩, fun Lr => t_move rfl rfl rfl (dz rfl hW)⟩
     ·
      intro D ρ w58 hcD hnD hdD hW
      have zhW := hW.size
      have E60 := E41.next hW (fun _ _ h => h.elim)
      refine ⟨[(50, .slice ao xs.length cap), (51, .int .i64 (k : Int))], ⟨fi 4 rfl rfl rfl, fi 5 rfl rfl rfl, trivial⟩, fun Lr => ?_⟩
      show WL _ _ _ _ _ _ _ ((50, .slice ao xs.length cap) :: (51, .int .i64 (k : Int)) :: Lr) _
      have i61 : k < xs.length := (by omega)
      refine t_index (j := k) Try.underlying24 Try.sizeOf23 rfl rfl rfl rfl ((hs.keep E60 (fun _ h => h)).addr (by omega)) rfl i61 ?_
      exact dz rfl hW
     ·
      intro D ρ w62 hcD hnD hdD hW
      have zhW := hW.size
      have E64 := E41.next hW (fun _ _ h => h.elim)
      refine ⟨[(52, .pointer (some ⟨b, o + k * 3, none⟩))], ⟨fi 6 rfl rfl rfl, trivial⟩, fun Lr => ?_⟩
      show WL _ _ _ _ _ _ _ ((52, .pointer (some ⟨b, o + k * 3, none⟩)) :: Lr) _
      refine t_loadN (vs := [.int .i64 ((nth xs k).len), .int .i64 ((nth xs k).wid), .int .i64 ((nth xs k).mass)]) Try.isAgg23 Try.sizeOf23 rfl rfl rfl (((hs.keep E64 (fun _ h => h)).at_ k (by omega)).sub 0 3) rfl ?_
      exact dz rfl hW
     ·
      intro D ρ w65 hcD hnD hdD hW
      have zhW := hW.size
      refine ⟨[(49, .agg #[.int .i64 ((nth xs k).len), .int .i64 ((nth xs k).wid), .int .i64 ((nth xs k).mass)]), (53, .agg #[.int .i64 ((nth xs k).len), .int .i64 ((nth xs k).wid), .int .i64 ((nth xs k).mass)])], ⟨fi 3 rfl rfl rfl, fi 7 rfl rfl rfl, trivial⟩, fun Lr => ?_⟩
      show WL _ _ _ _ _ _ _ ((49, .agg #[.int .i64 ((nth xs k).len), .int .i64 ((nth xs k).wid), .int .i64 ((nth xs k).mass)]) :: (53, .agg #[.int .i64 ((nth xs k).len), .int .i64 ((nth xs k).wid), .int .i64 ((nth xs k).mass)]) :: Lr) _
      refine t_neS (xs := [.int .i64 ((nth xs k).len), .int .i64 ((nth xs k).wid), .int .i64 ((nth xs k).mass)]) (ys := [.int .i64 ((nth xs k).len), .int .i64 ((nth xs k).wid), .int .i64 ((nth xs k).mass)]) (by kernel_rfl) (eqIn23 9998 ((nth xs k).len) ((nth xs k).wid) ((nth xs k).mass) ((nth xs k).len) ((nth xs k).wid) ((nth xs k).mass)) rfl rfl rfl rfl (t_samehd (v := .bool false) (by simp) ?_)
      exact dz rfl hW
     intro ρ w68 hW
     have u69 : Upd (fun _ => False) w38 w68 := hW
     have zu69 := u69.size
     refine QK.weak [(1, .slice ao xs.length cap), (2, .int .i64 W), (3, .pointer (some ⟨bk2, 0, none⟩)), (7, .slice aoC22 ((xs).length) cpC22), (8, .slice aoS ((StkR boat xs W).length) cpS), (9, .int .i64 (StkN boat xs W)), (10, .int .i64 (StkE boat xs W)), (11, .int .i64 (k : Int)), (40, .int .i64 (k : Int)), (41, .slice ao xs.length cap), (42, .int .i64 (xs.length : Int)), (43, .bool (decide ((k : Int) < (xs.length : Int)))), (46, .slice aoC22 ((xs).length) cpC22), (47, .int .i64 (k : Int)), (48, .pointer (some ⟨bC22, 0 + k * 3, none⟩)), (49, .agg #[.int .i64 ((nth xs k).len), .int .i64 ((nth xs k).wid), .int .i64 ((nth xs k).mass)]), (50, .slice ao xs.length cap), (51, .int .i64 (k : Int)), (52, .pointer (some ⟨b, o + k * 3, none⟩)), (53, .agg #[.int .i64 ((nth xs k).len), .int .i64 ((nth xs k).wid), .int .i64 ((nth xs k).mass)]), (54, .bool false)] ⟨rfl, rfl, rfl, rfl, rfl, rfl, rfl, rfl, rfl, rfl, rfl, rfl, rfl, rfl, rfl, rfl, rfl, rfl, rfl, rfl, rfl, trivial⟩ (hK45 _ _ (c_cond_f rfl (c_skip (hK44 _ _ (c_region (t_move rfl rfl rfl (t_ari rfl rfl rfl rfl rfl (by omega) (t_assign rfl rfl rfl (t_nil' ?_)))))))))
     exact hK37 (k + 1) _ _ (by omega) ⟨rfl, rfl, rfl, rfl, rfl, rfl, rfl, rfl, trivial⟩ ⟨(u39.next u69 (fun _ _ h => h.elim)), (by omega)⟩
    ·
     refine c_exit (hK35 _ _ (c_seq fun K71 hK71 => (c_region (t_assign rfl rfl rfl (t_assign rfl rfl rfl (t_assign rfl rfl rfl (t_nil' (hK71 _ _ (c_seq fun K72 hK72 => (c_seq fun K73 hK73 => (c_region (t_move rfl rfl rfl (t_len Try.underlying24 rfl rfl rfl rfl (t_cmp rfl rfl rfl rfl rfl (t_nil' (hK73 _ _ (c_condp rfl (fun g57 => ?_) (fun g57 => ?_))))))))))))))))))
     ·
      refine c_region ?_
      have B74 := ((B29.keep u32 (fun h => h)).keep u39 (fun h => h))
      refine t_loadN (vs := [.int .i64 boat.len, .int .i64 boat.wid, .int .i64 boat.mass]) Try.isAgg23 Try.sizeOf23 rfl rfl rfl (B74.at.sub 0 3) rfl (t_move rfl rfl rfl (t_move rfl rfl rfl (t_call (vs := [.agg #[.int .i64 boat.len, .int .i64 boat.wid, .int .i64 boat.mass], .slice ao xs.length cap, .int .i64 W]) own19 rfl rfl rfl rfl (rStack_c boat xs W ao b o cap _ (hs.keep E41 (fun _ h => h)) (by omega)) (fun v75 w76 r78 => ?_))))
      obtain ⟨aoR, bR, cpR, rfl, hR, u77⟩ := r78
      have zu77 := u77.size
      have E79 := E41.next u77 (fun _ _ h => h.elim)
      refine t_move rfl rfl rfl (t_extract (vs := [.slice aoR ((StkR boat xs W).length) cpR, .int .i64 (StkN boat xs W), .int .i64 (StkE boat xs W)]) rfl rfl rfl rfl (t_extract (vs := [.slice aoR ((StkR boat xs W).length) cpR, .int .i64 (StkN boat xs W), .int .i64 (StkE boat xs W)]) rfl rfl rfl rfl (t_extract (vs := [.slice aoR ((StkR boat xs W).length) cpR, .int .i64 (StkN boat xs W), .int .i64 (StkE boat xs W)]) rfl rfl rfl rfl (t_assign rfl rfl rfl (t_assign rfl rfl rfl (t_assign rfl rfl rfl (t_nil' (hK72 _ _ (c_seq fun K80 hK80 => (c_seq fun K81 hK81 => (c_region (t_assign rfl rfl rfl (t_nil' (hK81 _ _ (c_block (c_loop (γ := Nat) (fun k => [(1, .slice ao xs.length cap), (3, .pointer (some ⟨bk2, 0, none⟩)), (8, .slice aoS ((StkR boat xs W).length) cpS), (9, .int .i64 (StkN boat xs W)), (10, .int .i64 (StkE boat xs W)), (12, .slice aoR ((StkR boat xs W).length) cpR), (13, .int .i64 (StkN boat xs W)), (14, .int .i64 (StkE boat xs W)), (15, .int .i64 (k : Int))]) (fun k w => Upd (fun _ => False) w76 w ∧ (k ≤ xs.length)) (fun k => xs.length - k) 0 ⟨rfl, rfl, rfl, rfl, rfl, rfl, rfl, rfl, rfl, trivial⟩ ⟨Upd.refl _ _, Nat.zero_le _⟩ ?_))))))))))))))))
      intro k w83 hW K82 hK82
      obtain ⟨u84, I85⟩ := hW
      have zu84 := u84.size
      have E86 := E79.next u84 (fun _ _ h => h.elim)
      have hk := I85; clear I85
      refine c_seq fun K87 hK87 => (c_seq fun K88 hK88 => (c_region (t_move rfl rfl rfl (t_move rfl rfl rfl (t_len Try.underlying24 rfl rfl rfl rfl (t_cmp rfl rfl rfl rfl rfl (t_move rfl rfl rfl (t_splitp 70 rfl (fun g70 => ?_) (fun g70 => ?_)))))))))
      ·
       refine t_move rfl rfl rfl (t_len Try.underlying24 rfl rfl rfl rfl (t_cmp rfl rfl rfl rfl rfl (t_same 73 (v := .bool false) rfl (congrArg Value.bool (decide_eq_false (by omega))) (t_pick_t rfl rfl rfl rfl (t_nil' (hK88 _ _ (c_cond_f rfl (c_exit (hK80 _ _ (c_seq fun K89 hK89 => (c_region (t_move rfl rfl rfl (t_move rfl rfl rfl (t_cmp rfl rfl rfl rfl rfl (t_samehd (v := .bool true) (by simp) (t_move rfl rfl rfl (t_move rfl rfl rfl (t_move rfl rfl rfl ?_))))))))))))))))))
       have D90 := (((hS.keep u39 (fun _ h => h)).keep u77 (fun _ h => h)).keep u84 (fun _ h => h))
       have D91 := (hR.keep u84 (fun _ h => h))
       refine t_call (vs := [.slice aoS ((StkR boat xs W).length) cpS, .slice aoR ((StkR boat xs W).length) cpR]) own21 rfl rfl rfl rfl (equal_c (StkR boat xs W) aoS bS 0 cpS aoR bR 0 cpR _ D90 D91 StkR_len) (fun v92 w93 r95 => ?_)
       obtain ⟨rfl, u94⟩ := r95
       have zu94 := u94.size
       have E96 := E86.next u94 (fun _ _ h => h.elim)
       refine t_pick_t rfl rfl rfl rfl (t_move rfl rfl rfl (t_move rfl rfl rfl (t_move rfl rfl rfl (t_cmp rfl rfl rfl rfl rfl (t_samehd (v := .bool true) (by simp) (t_pick_t rfl rfl rfl rfl (t_move rfl rfl rfl (t_call (vs := []) own16 rfl rfl rfl rfl (known_c _) (fun v97 w98 r100 => ?_)))))))))
       obtain ⟨rfl, u99⟩ := r100
       have zu99 := u99.size
       have E101 := E96.next u99 (fun _ _ h => h.elim)
       refine t_pick_t rfl rfl rfl rfl (t_assign rfl rfl rfl (t_nil' (hK89 _ _ (c_ret (f_ret1 (v := .bool true) Try.results3 rfl ?_)))))
       exact ⟨rfl, E101⟩
      ·
       refine t_skip rfl rfl rfl (t_skip rfl rfl rfl (t_skip rfl rfl rfl (t_pick_f rfl rfl rfl rfl (t_nil' (hK88 _ _ (c_cond_f rfl (c_exit (hK80 _ _ (c_seq fun K102 hK102 => (c_region (t_move rfl rfl rfl (t_move rfl rfl rfl (t_cmp rfl rfl rfl rfl rfl (t_samehd (v := .bool true) (by simp) (t_move rfl rfl rfl (t_move rfl rfl rfl (t_move rfl rfl rfl ?_)))))))))))))))))
       have D103 := (((hS.keep u39 (fun _ h => h)).keep u77 (fun _ h => h)).keep u84 (fun _ h => h))
       have D104 := (hR.keep u84 (fun _ h => h))
       refine t_call (vs := [.slice aoS ((StkR boat xs W).length) cpS, .slice aoR ((StkR boat xs W).length) cpR]) own21 rfl rfl rfl rfl (equal_c (StkR boat xs W) aoS bS 0 cpS aoR bR 0 cpR _ D103 D104 StkR_len) (fun v105 w106 r108 => ?_)
       obtain ⟨rfl, u107⟩ := r108
       have zu107 := u107.size
       have E109 := E86.next u107 (fun _ _ h => h.elim)
       refine t_pick_t rfl rfl rfl rfl (t_move rfl rfl rfl (t_move rfl rfl rfl (t_move rfl rfl rfl (t_cmp rfl rfl rfl rfl rfl (t_samehd (v := .bool true) (by simp) (t_pick_t rfl rfl rfl rfl (t_move rfl rfl rfl (t_call (vs := []) own16 rfl rfl rfl rfl (known_c _) (fun v110 w111 r113 => ?_)))))))))
       obtain ⟨rfl, u112⟩ := r113
       have zu112 := u112.size
       have E114 := E109.next u112 (fun _ _ h => h.elim)
       refine t_pick_t rfl rfl rfl rfl (t_assign rfl rfl rfl (t_nil' (hK102 _ _ (c_ret (f_ret1 (v := .bool true) Try.results3 rfl ?_)))))
       exact ⟨rfl, E114⟩
     ·
      refine c_skip (hK72 _ _ (c_seq fun K115 hK115 => (c_seq fun K116 hK116 => (c_region (t_assign rfl rfl rfl (t_nil' (hK116 _ _ (c_block (c_loop (γ := Nat) (fun k => [(1, .slice ao xs.length cap), (3, .pointer (some ⟨bk2, 0, none⟩)), (8, .slice aoS ((StkR boat xs W).length) cpS), (9, .int .i64 (StkN boat xs W)), (10, .int .i64 (StkE boat xs W)), (12, .slice none 0 0), (13, .int .i64 0), (14, .int .i64 (if ((xs.take k).any fun h => !okHull h || !okHull boat) = true then 2 else 5)), (15, .int .i64 (k : Int))]) (fun k w => Upd (fun _ => False) w38 w ∧ (k ≤ xs.length)) (fun k => xs.length - k) 0 ⟨rfl, rfl, rfl, rfl, rfl, rfl, rfl, rfl, rfl, trivial⟩ ⟨Upd.refl _ _, Nat.zero_le _⟩ ?_)))))))))
      intro k w118 hW K117 hK117
      obtain ⟨u119, I120⟩ := hW
      have zu119 := u119.size
      have E121 := E41.next u119 (fun _ _ h => h.elim)
      have hk := I120; clear I120
      refine c_seq fun K122 hK122 => (c_seq fun K123 hK123 => (c_region (t_move rfl rfl rfl (t_move rfl rfl rfl (t_len Try.underlying24 rfl rfl rfl rfl (t_cmp rfl rfl rfl rfl rfl (t_move rfl rfl rfl (t_splitp 70 rfl (fun g70 => ?_) (fun g70 => ?_)))))))))
      ·
       refine t_move rfl rfl rfl (t_len Try.underlying24 rfl rfl rfl rfl (t_cmp rfl rfl rfl rfl rfl (t_same 73 (v := .bool true) rfl (congrArg Value.bool (decide_eq_true (by omega))) (t_pick_t rfl rfl rfl rfl (t_nil' (hK123 _ _ (c_cond_t rfl (c_skip (hK122 _ _ (c_seq fun K124 hK124 => (c_block (c_seq fun K125 hK125 => (c_region (t_move rfl rfl rfl (t_move rfl rfl rfl ?_)))))))))))))))
       have i126 : k < xs.length := (by omega)
       refine t_index (j := k) Try.underlying24 Try.sizeOf23 rfl rfl rfl rfl ((hs.keep E121 (fun _ h => h)).addr (by omega)) rfl i126 (t_loadN (vs := [.int .i64 ((nth xs k).len), .int .i64 ((nth xs k).wid), .int .i64 ((nth xs k).mass)]) Try.isAgg23 Try.sizeOf23 rfl rfl rfl (((hs.keep E121 (fun _ h => h)).at_ k (by omega)).sub 0 3) rfl (t_call (vs := [.agg #[.int .i64 ((nth xs k).len), .int .i64 ((nth xs k).wid), .int .i64 ((nth xs k).mass)]]) own20 rfl rfl rfl rfl (rHull_c (nth xs k) _) (fun v127 w128 r130 => ?_)))
       obtain ⟨rfl, u129⟩ := r130
       have zu129 := u129.size
       refine t_not rfl rfl rfl (t_move rfl rfl rfl (t_split 83 rfl (fun g83 => ?_) (fun g83 => ?_)))
       ·
        refine t_skip rfl rfl rfl (t_skip rfl rfl rfl (t_skip rfl rfl rfl (t_pick_t rfl rfl rfl rfl (t_nil' (hK125 _ _ (c_cond_t rfl (c_region (t_assign rfl rfl rfl (t_nil' (hK124 _ _ (c_region (t_move rfl rfl rfl (t_ari rfl rfl rfl rfl rfl (by omega) (t_assign rfl rfl rfl (t_nil' ?_)))))))))))))))
        have hbk : (!okHull (nth xs k) || !okHull boat) = true := by simp at g83; simp [g83]
        exact hK117 (k + 1) _ _ (by omega) ⟨rfl, rfl, rfl, rfl, rfl, rfl, rfl, (by exact congrArg some (congrArg (Value.int .i64) (by rw [any_step (by omega), hbk]; simp))), rfl, trivial⟩ ⟨(u119.next u129 (fun _ _ h => h.elim)), (by omega)⟩
       ·
        have B132 := ((((B29.keep u32 (fun h => h)).keep u39 (fun h => h)).keep u119 (fun h => h)).keep u129 (fun h => h))
        refine t_loadN (vs := [.int .i64 boat.len, .int .i64 boat.wid, .int .i64 boat.mass]) Try.isAgg23 Try.sizeOf23 rfl rfl rfl (B132.at.sub 0 3) rfl (t_call (vs := [.agg #[.int .i64 boat.len, .int .i64 boat.wid, .int .i64 boat.mass]]) own20 rfl rfl rfl rfl (rHull_c boat _) (fun v133 w134 r136 => ?_))
        obtain ⟨rfl, u135⟩ := r136
        have zu135 := u135.size
        refine t_not rfl rfl rfl (t_pick_f rfl rfl rfl rfl (t_nil' (hK125 _ _ (c_cond rfl (fun g87 => ?_) (fun g87 => ?_)))))
        ·
         refine c_region (t_assign rfl rfl rfl (t_nil' (hK124 _ _ (c_region (t_move rfl rfl rfl (t_ari rfl rfl rfl rfl rfl (by omega) (t_assign rfl rfl rfl (t_nil' ?_))))))))
         have hbk : (!okHull (nth xs k) || !okHull boat) = true := by simp at g87; simp [g87]
         exact hK117 (k + 1) _ _ (by omega) ⟨rfl, rfl, rfl, rfl, rfl, rfl, rfl, (by exact congrArg some (congrArg (Value.int .i64) (by rw [any_step (by omega), hbk]; simp))), rfl, trivial⟩ ⟨((u119.next u129 (fun _ _ h => h.elim)).next u135 (fun _ _ h => h.elim)), (by omega)⟩
        ·
         refine c_skip (hK124 _ _ (c_region (t_move rfl rfl rfl (t_ari rfl rfl rfl rfl rfl (by omega) (t_assign rfl rfl rfl (t_nil' ?_))))))
         have hbk : (!okHull (nth xs k) || !okHull boat) = false := by simp at g83 g87; simp [g83, g87]
         exact hK117 (k + 1) _ _ (by omega) ⟨rfl, rfl, rfl, rfl, rfl, rfl, rfl, (by exact congrArg some (congrArg (Value.int .i64) (by rw [any_step (by omega), hbk]; simp))), rfl, trivial⟩ ⟨((u119.next u129 (fun _ _ h => h.elim)).next u135 (fun _ _ h => h.elim)), (by omega)⟩
      ·
       have hE : StkE boat xs W = (if ((xs.take k).any fun h => !okHull h || !okHull boat) = true then 2 else 5) := by rw [stk_long (by omega), List.take_of_length_le (by omega)]
       have hne : (if ((xs.take k).any fun h => !okHull h || !okHull boat) = true then 2 else 5) ≠ (0 : Int) := by split <;> decide
       have hnil := (stk_bad hE hne).2
       have hN := (stk_bad hE hne).1
       refine t_same 10 (v := .int .i64 (if ((xs.take k).any fun h => !okHull h || !okHull boat) = true then 2 else 5)) rfl (congrArg (Value.int .i64) hE) (t_same 9 (v := .int .i64 0) rfl (congrArg (Value.int .i64) hN) (t_skip rfl rfl rfl (t_skip rfl rfl rfl (t_skip rfl rfl rfl (t_pick_f rfl rfl rfl rfl (t_nil' (hK123 _ _ (c_cond_f rfl (c_exit (hK115 _ _ (c_seq fun K138 hK138 => (c_region (t_move rfl rfl rfl (t_move rfl rfl rfl (t_cmp rfl rfl rfl rfl rfl (t_samehd (v := .bool true) (by simp) (t_move rfl rfl rfl (t_move rfl rfl rfl (t_move rfl rfl rfl (t_call (vs := [.slice aoS ((StkR boat xs W).length) cpS, .slice none 0 0]) own21 rfl rfl rfl rfl (equalNil_c (StkR boat xs W) aoS bS cpS hnil _) (fun v139 w140 r142 => ?_)))))))))))))))))))))
       obtain ⟨rfl, u141⟩ := r142
       have zu141 := u141.size
       have E143 := E121.next u141 (fun _ _ h => h.elim)
       refine t_pick_t rfl rfl rfl rfl (t_move rfl rfl rfl (t_move rfl rfl rfl (t_move rfl rfl rfl (t_cmp rfl rfl rfl rfl rfl (t_samehd (v := .bool true) rfl (t_pick_t rfl rfl rfl rfl (t_move rfl rfl rfl (t_call (vs := []) own16 rfl rfl rfl rfl (known_c _) (fun v144 w145 r147 => ?_)))))))))
       obtain ⟨rfl, u146⟩ := r147
       have zu146 := u146.size
       have E148 := E143.next u146 (fun _ _ h => h.elim)
       refine t_pick_t rfl rfl rfl rfl (t_assign rfl rfl rfl (t_nil' (hK138 _ _ (c_ret (f_ret1 (v := .bool true) Try.results3 rfl ?_)))))
       exact ⟨rfl, E148⟩
 ·
  refine t_skip rfl rfl rfl (t_skip rfl rfl rfl (t_skip rfl rfl rfl (t_pick_f rfl rfl rfl rfl (t_move rfl rfl rfl (t_move rfl rfl rfl (t_len Try.underlying24 rfl rfl rfl rfl (t_cmp rfl rfl rfl rfl rfl (t_pick_f rfl rfl rfl rfl (t_nil' (hK8 _ _ (c_condp rfl (fun g28 => ?_) (fun g28 => ?_))))))))))))
  ·
   refine c_seq fun K149 hK149 => (c_region (t_call (vs := []) own16 rfl rfl rfl rfl (known_c _) (fun v150 w151 r153 => ?_)))
   obtain ⟨rfl, u152⟩ := r153
   have zu152 := u152.size
   have E154 := E6.next u152 (fun _ _ h => h.elim)
   refine t_assign rfl rfl rfl (t_nil' (hK149 _ _ (c_ret (f_ret1 (v := .bool true) Try.results3 rfl ?_))))
   exact ⟨rfl, E154⟩
  ·
   refine c_skip (hK7 _ _ (c_seq fun K155 hK155 => (c_region (t_move rfl rfl rfl (t_call (vs := [.slice ao xs.length cap]) own17 rfl rfl rfl rfl (hulls_c xs ao b o cap _ (hs.keep E6 (fun _ h => h)) (by omega)) (fun v157 w158 r160 => ?_))))))
   obtain ⟨⟨aoC156, bC156, cpC156, rfl, hC156, gebC156, lecpC156⟩, u159⟩ := r160
   have zu159 := u159.size
   have E161 := E6.next u159 (fun _ _ h => h.elim)
   refine t_assign rfl rfl rfl (t_nil' (hK155 _ _ (c_seq fun K162 hK162 => (c_region ?_))))
   have B163 := (B4.keep u159 (fun h => h))
   refine t_loadN (vs := [.int .i64 boat.len, .int .i64 boat.wid, .int .i64 boat.mass]) Try.isAgg23 Try.sizeOf23 rfl rfl rfl (B163.at.sub 0 3) rfl (t_move rfl rfl rfl (t_move rfl rfl rfl (t_call (vs := [.agg #[.int .i64 boat.len, .int .i64 boat.wid, .int .i64 boat.mass], .slice aoC156 ((xs).length) cpC156, .int .i64 W]) own18 rfl rfl rfl rfl (Stack_c boat xs W aoC156 bC156 0 cpC156 _ hC156 (by omega) lecpC156 (by omega)) (fun v164 w165 r167 => ?_))))
   obtain ⟨aoS, bS, cpS, rfl, hS, u166⟩ := r167
   have zu166 := u166.size
   have E168 := E161.next u166 (fun _ _ h => h.elim)
   refine t_move rfl rfl rfl (t_extract (vs := [.slice aoS ((StkR boat xs W).length) cpS, .int .i64 (StkN boat xs W), .int .i64 (StkE boat xs W)]) rfl rfl rfl rfl (t_extract (vs := [.slice aoS ((StkR boat xs W).length) cpS, .int .i64 (StkN boat xs W), .int .i64 (StkE boat xs W)]) rfl rfl rfl rfl (t_extract (vs := [.slice aoS ((StkR boat xs W).length) cpS, .int .i64 (StkN boat xs W), .int .i64 (StkE boat xs W)]) rfl rfl rfl rfl (t_assign rfl rfl rfl (t_assign rfl rfl rfl (t_assign rfl rfl rfl (t_nil' (hK162 _ _ (c_seq fun K169 hK169 => (c_seq fun K170 hK170 => (c_region (t_assign rfl rfl rfl (t_nil' (hK170 _ _ (c_block (c_loop (γ := Nat) (fun k => [(1, .slice ao xs.length cap), (2, .int .i64 W), (3, .pointer (some ⟨bk2, 0, none⟩)), (7, .slice aoC156 ((xs).length) cpC156), (8, .slice aoS ((StkR boat xs W).length) cpS), (9, .int .i64 (StkN boat xs W)), (10, .int .i64 (StkE boat xs W)), (11, .int .i64 (k : Int))]) (fun k w => Upd (fun _ => False) w165 w ∧ (k ≤ xs.length)) (fun k => xs.length - k) 0 ⟨rfl, rfl, rfl, rfl, rfl, rfl, rfl, rfl, trivial⟩ ⟨Upd.refl _ _, Nat.zero_le _⟩ ?_))))))))))))))))
   intro k w172 hW K171 hK171
   obtain ⟨u173, I174⟩ := hW
   have zu173 := u173.size
   have E175 := E168.next u173 (fun _ _ h => h.elim)
   have hk := I174; clear I174
   refine c_seq fun K176 hK176 => (c_seq fun K177 hK177 => (c_region (t_move rfl rfl rfl (t_move rfl rfl rfl (t_len Try.underlying24 rfl rfl rfl rfl (t_cmp rfl rfl rfl rfl rfl (t_nil' (hK177 _ _ (c_condp rfl (fun g43 => ?_) (fun g43 => ?_))))))))))
   ·
    refine c_skip (hK176 _ _ (c_seq fun K178 hK178 => (c_block (c_seq fun K179 hK179 => (WC.weak [(1, .slice ao xs.length cap), (2, .int .i64 W), (3, .pointer (some ⟨bk2, 0, none⟩)), (7, .slice aoC156 ((xs).length) cpC156), (8, .slice aoS ((StkR boat xs W).length) cpS), (9, .int .i64 (StkN boat xs W)), (10, .int .i64 (StkE boat xs W)), (11, .int .i64 (k : Int)), (40, .int .i64 (k : Int)), (41, .slice ao xs.length cap), (42, .int .i64 (xs.length : Int)), (43, .bool (decide ((k : Int) < (xs.length : Int))))] ⟨rfl, rfl, rfl, rfl, rfl, rfl, rfl, rfl, rfl, rfl, rfl, rfl, trivial⟩ (c_drawn follows 9 [some (46, some (.slice aoC156 ((xs).length) cpC156)), some (47, some (.int .i64 (k : Int))), some (48, some (.pointer (some ⟨bC156, 0 + k * 3, none⟩))), some (49, some (.agg #[.int .i64 ((nth xs k).len), .int .i64 ((nth xs k).wid), .int .i64 ((nth xs k).mass)])), some (50, some (.slice ao xs.length cap)), some (51, some (.int .i64 (k : Int))), some (52, some (.pointer (some ⟨b, o + k * 3, none⟩))), some (53, some (.agg #[.int .i64 ((nth xs k).len), .int .i64 ((nth xs k).wid), .int .i64 ((nth xs k).mass)])), some (54, some (.bool false))] [[],[],[0,1],[2],[],[],[4,5],[6],[3,7]] (fun _ _ w => Upd (fun _ => False) w172 w) rfl rfl rfl (by kernel_rfl) (by kernel_rfl) (Upd.drew _).to ⟨?_, ?_, ?_, ?_, ?_, ?_, ?_, ?_, ?_, trivial⟩ ?_))))))
    · exact fun D ρ w _ _ _ hW => ⟨[(7, .slice aoC156 ((xs).length) cpC156)], ⟨fo rfl rfl, trivial⟩, fun Lr => t_move rfl rfl rfl (dz rfl hW)⟩
    · exact fun D ρ w _ _ _ hW => ⟨[(11, .int .i64 (k : Int))], ⟨fo rfl rfl, trivial⟩, fun Lr => t_move rfl rfl rfl (dz rfl hW)⟩
    ·
     intro D ρ w183 hcD hnD hdD hW
     have zhW := hW.size
     refine ⟨[(46, .slice aoC156 ((xs).length) cpC156), (47, .int .i64 (k : Int))], ⟨fi 0 rfl rfl rfl, fi 1 rfl rfl rfl, trivial⟩, fun Lr => ?_⟩
     show WL _ _ _ _ _ _ _ ((46, .slice aoC156 ((xs).length) cpC156) :: (47, .int .i64 (k : Int)) :: Lr) _
     have D186 := (((hC156.keep u166 (fun _ h => h)).keep u173 (fun _ h => h)).keep hW (fun _ h => h))
     have i187 : k < xs.length := (by omega)
     refine t_index (j := k) Try.underlying24 Try.sizeOf23 rfl rfl rfl rfl (D186.addr (by omega)) rfl i187 ?_
     exact dz rfl hW
    ·
     intro D ρ w188 hcD hnD hdD hW
     have zhW := hW.size
     refine ⟨[(48, .pointer (some ⟨bC156, 0 + k * 3, none⟩))], ⟨fi 2 rfl rfl rfl, trivial⟩, fun Lr => ?_⟩
     show WL _ _ _ _ _ _ _ ((48, .pointer (some ⟨bC156, 0 + k * 3, none⟩)) :: Lr) _
     have D191 := (((hC156.keep u166 (fun _ h => h)).keep u173 (fun _ h => h)).keep hW (fun _ h => h))
     refine t_loadN (vs := [.int .i64 ((nth xs k).len), .int .i64 ((nth xs k).wid), .int .i64 ((nth xs k).mass)]) Try.isAgg23 Try.sizeOf23 rfl rfl rfl ((D191.at_ k (by omega)).sub 0 3) rfl ?_
     exact dz rfl hW
    · exact fun D ρ w _ _ _ hW => ⟨[(1, .slice ao xs.length cap)], ⟨fo rfl rfl, trivial⟩, fun Lr => t_move rfl rfl rfl (dz rfl hW)⟩
    · exact fun D ρ w _ _ _ hW => ⟨[(11, .int .i64 (k : Int))], ⟨fo rfl rfl, trivial⟩, fun Lr => t_move rfl rfl rfl (dz rfl hW)⟩
    ·
     intro D ρ w192 hcD hnD hdD hW
     have zhW := hW.size
     have E194 := E175.next hW (fun _ _ h => h.elim)
     refine ⟨[(50, .slice ao xs.length cap), (51, .int .i64 (k : Int))], ⟨fi 4 rfl rfl rfl, fi 5 rfl rfl rfl, trivial⟩, fun Lr => ?_⟩
     show WL _ _ _ _ _ _ _ ((50, .slice ao xs.length cap) :: (51, .int .i64 (k : Int)) :: Lr) _
     have i195 : k < xs.length := (by omega)
     refine t_index (j := k) Try.underlying24 Try.sizeOf23 rfl rfl rfl rfl ((hs.keep E194 (fun _ h => h)).addr (by omega)) rfl i195 ?_
     exact dz rfl hW
    ·
     intro D ρ w196 hcD hnD hdD hW
     have zhW := hW.size
     have E198 := E175.next hW (fun _ _ h => h.elim)
     refine ⟨[(52, .pointer (some ⟨b, o + k * 3, none⟩))], ⟨fi 6 rfl rfl rfl, trivial⟩, fun Lr => ?_⟩
     show WL _ _ _ _ _ _ _ ((52, .pointer (some ⟨b, o + k * 3, none⟩)) :: Lr) _
     refine t_loadN (vs := [.int .i64 ((nth xs k).len), .int .i64 ((nth xs k).wid), .int .i64 ((nth xs k).mass)]) Try.isAgg23 Try.sizeOf23 rfl rfl rfl (((hs.keep E198 (fun _ h => h)).at_ k (by omega)).sub 0 3) rfl ?_
     exact dz rfl hW
    ·
     intro D ρ w199 hcD hnD hdD hW
     have zhW := hW.size
     refine ⟨[(49, .agg #[.int .i64 ((nth xs k).len), .int .i64 ((nth xs k).wid), .int .i64 ((nth xs k).mass)]), (53, .agg #[.int .i64 ((nth xs k).len), .int .i64 ((nth xs k).wid), .int .i64 ((nth xs k).mass)])], ⟨fi 3 rfl rfl rfl, fi 7 rfl rfl rfl, trivial⟩, fun Lr => ?_⟩
     show WL _ _ _ _ _ _ _ ((49, .agg #[.int .i64 ((nth xs k).len), .int .i64 ((nth xs k).wid), .int .i64 ((nth xs k).mass)]) :: (53, .agg #[.int .i64 ((nth xs k).len), .int .i64 ((nth xs k).wid), .int .i64 ((nth xs k).mass)]) :: Lr) _
     refine t_neS (xs := [.int .i64 ((nth xs k).len), .int .i64 ((nth xs k).wid), .int .i64 ((nth xs k).mass)]) (ys := [.int .i64 ((nth xs k).len), .int .i64 ((nth xs k).wid), .int .i64 ((nth xs k).mass)]) (by kernel_rfl) (eqIn23 9998 ((nth xs k).len) ((nth xs k).wid) ((nth xs k).mass) ((nth xs k).len) ((nth xs k).wid) ((nth xs k).mass)) rfl rfl rfl rfl (t_samehd (v := .bool false) (by simp) ?_)
     exact dz rfl hW
    intro ρ w202 hW
    have u203 : Upd (fun _ => False) w172 w202 := hW
    have zu203 := u203.size
    refine QK.weak [(1, .slice ao xs.length cap), (2, .int .i64 W), (3, .pointer (some ⟨bk2, 0, none⟩)), (7, .slice aoC156 ((xs).length) cpC156), (8, .slice aoS ((StkR boat xs W).length) cpS), (9, .int .i64 (StkN boat xs W)), (10, .int .i64 (StkE boat xs W)), (11, .int .i64 (k : Int)), (40, .int .i64 (k : Int)), (41, .slice ao xs.length cap), (42, .int .i64 (xs.length : Int)), (43, .bool (decide ((k : Int) < (xs.length : Int)))), (46, .slice aoC156 ((xs).length) cpC156), (47, .int .i64 (k : Int)), (48, .pointer (some ⟨bC156, 0 + k * 3, none⟩)), (49, .agg #[.int .i64 ((nth xs k).len), .int .i64 ((nth xs k).wid), .int .i64 ((nth xs k).mass)]), (50, .slice ao xs.length cap), (51, .int .i64 (k : Int)), (52, .pointer (some ⟨b, o + k * 3, none⟩)), (53, .agg #[.int .i64 ((nth xs k).len), .int .i64 ((nth xs k).wid), .int .i64 ((nth xs k).mass)]), (54, .bool false)] ⟨rfl, rfl, rfl, rfl, rfl, rfl, rfl, rfl, rfl, rfl, rfl, rfl, rfl, rfl, rfl, rfl, rfl, rfl, rfl, rfl, rfl, trivial⟩ (hK179 _ _ (c_cond_f rfl (c_skip (hK178 _ _ (c_region (t_move rfl rfl rfl (t_ari rfl rfl rfl rfl rfl (by omega) (t_assign rfl rfl rfl (t_nil' ?_)))))))))
    exact hK171 (k + 1) _ _ (by omega) ⟨rfl, rfl, rfl, rfl, rfl, rfl, rfl, rfl, trivial⟩ ⟨(u173.next u203 (fun _ _ h => h.elim)), (by omega)⟩
   ·
    refine c_exit (hK169 _ _ (c_seq fun K205 hK205 => (c_region (t_assign rfl rfl rfl (t_assign rfl rfl rfl (t_assign rfl rfl rfl (t_nil' (hK205 _ _ (c_seq fun K206 hK206 => (c_seq fun K207 hK207 => (c_region (t_move rfl rfl rfl (t_len Try.underlying24 rfl rfl rfl rfl (t_cmp rfl rfl rfl rfl rfl (t_nil' (hK207 _ _ (c_condp rfl (fun g57 => ?_) (fun g57 => ?_))))))))))))))))))
    ·
     refine c_region ?_
     have B208 := ((B163.keep u166 (fun h => h)).keep u173 (fun h => h))
     refine t_loadN (vs := [.int .i64 boat.len, .int .i64 boat.wid, .int .i64 boat.mass]) Try.isAgg23 Try.sizeOf23 rfl rfl rfl (B208.at.sub 0 3) rfl (t_move rfl rfl rfl (t_move rfl rfl rfl (t_call (vs := [.agg #[.int .i64 boat.len, .int .i64 boat.wid, .int .i64 boat.mass], .slice ao xs.length cap, .int .i64 W]) own19 rfl rfl rfl rfl (rStack_c boat xs W ao b o cap _ (hs.keep E175 (fun _ h => h)) (by omega)) (fun v209 w210 r212 => ?_))))
     obtain ⟨aoR, bR, cpR, rfl, hR, u211⟩ := r212
     have zu211 := u211.size
     have E213 := E175.next u211 (fun _ _ h => h.elim)
     refine t_move rfl rfl rfl (t_extract (vs := [.slice aoR ((StkR boat xs W).length) cpR, .int .i64 (StkN boat xs W), .int .i64 (StkE boat xs W)]) rfl rfl rfl rfl (t_extract (vs := [.slice aoR ((StkR boat xs W).length) cpR, .int .i64 (StkN boat xs W), .int .i64 (StkE boat xs W)]) rfl rfl rfl rfl (t_extract (vs := [.slice aoR ((StkR boat xs W).length) cpR, .int .i64 (StkN boat xs W), .int .i64 (StkE boat xs W)]) rfl rfl rfl rfl (t_assign rfl rfl rfl (t_assign rfl rfl rfl (t_assign rfl rfl rfl (t_nil' (hK206 _ _ (c_seq fun K214 hK214 => (c_seq fun K215 hK215 => (c_region (t_assign rfl rfl rfl (t_nil' (hK215 _ _ (c_block (c_loop (γ := Nat) (fun k => [(1, .slice ao xs.length cap), (3, .pointer (some ⟨bk2, 0, none⟩)), (8, .slice aoS ((StkR boat xs W).length) cpS), (9, .int .i64 (StkN boat xs W)), (10, .int .i64 (StkE boat xs W)), (12, .slice aoR ((StkR boat xs W).length) cpR), (13, .int .i64 (StkN boat xs W)), (14, .int .i64 (StkE boat xs W)), (15, .int .i64 (k : Int))]) (fun k w => Upd (fun _ => False) w210 w ∧ (k ≤ xs.length)) (fun k => xs.length - k) 0 ⟨rfl, rfl, rfl, rfl, rfl, rfl, rfl, rfl, rfl, trivial⟩ ⟨Upd.refl _ _, Nat.zero_le _⟩ ?_))))))))))))))))
     intro k w217 hW K216 hK216
     obtain ⟨u218, I219⟩ := hW
     have zu218 := u218.size
     have E220 := E213.next u218 (fun _ _ h => h.elim)
     have hk := I219; clear I219
     refine c_seq fun K221 hK221 => (c_seq fun K222 hK222 => (c_region (t_move rfl rfl rfl (t_move rfl rfl rfl (t_len Try.underlying24 rfl rfl rfl rfl (t_cmp rfl rfl rfl rfl rfl (t_move rfl rfl rfl (t_splitp 70 rfl (fun g70 => ?_) (fun g70 => ?_)))))))))
     ·
      refine t_move rfl rfl rfl (t_len Try.underlying24 rfl rfl rfl rfl (t_cmp rfl rfl rfl rfl rfl (t_same 73 (v := .bool false) rfl (congrArg Value.bool (decide_eq_false (by omega))) (t_pick_t rfl rfl rfl rfl (t_nil' (hK222 _ _ (c_cond_f rfl (c_exit (hK214 _ _ (c_seq fun K223 hK223 => (c_region (t_move rfl rfl rfl (t_move rfl rfl rfl (t_cmp rfl rfl rfl rfl rfl (t_samehd (v := .bool true) (by simp) (t_move rfl rfl rfl (t_move rfl rfl rfl (t_move rfl rfl rfl ?_))))))))))))))))))
      have D224 := (((hS.keep u173 (fun _ h => h)).keep u211 (fun _ h => h)).keep u218 (fun _ h => h))
      have D225 := (hR.keep u218 (fun _ h => h))
      refine t_call (vs := [.slice aoS ((StkR boat xs W).length) cpS, .slice aoR ((StkR boat xs W).length) cpR]) own21 rfl rfl rfl rfl (equal_c (StkR boat xs W) aoS bS 0 cpS aoR bR 0 cpR _ D224 D225 StkR_len) (fun v226 w227 r229 => ?_)
      obtain ⟨rfl, u228⟩ := r229
      have zu228 := u228.size
      have E230 := E220.next u228 (fun _ _ h => h.elim)
      refine t_pick_t rfl rfl rfl rfl (t_move rfl rfl rfl (t_move rfl rfl rfl (t_move rfl rfl rfl (t_cmp rfl rfl rfl rfl rfl (t_samehd (v := .bool true) (by simp) (t_pick_t rfl rfl rfl rfl (t_move rfl rfl rfl (t_call (vs := []) own16 rfl rfl rfl rfl (known_c _) (fun v231 w232 r234 => ?_)))))))))
      obtain ⟨rfl, u233⟩ := r234
      have zu233 := u233.size
      have E235 := E230.next u233 (fun _ _ h => h.elim)
      refine t_pick_t rfl rfl rfl rfl (t_assign rfl rfl rfl (t_nil' (hK223 _ _ (c_ret (f_ret1 (v := .bool true) Try.results3 rfl ?_)))))
      exact ⟨rfl, E235⟩
     ·
      refine t_skip rfl rfl rfl (t_skip rfl rfl rfl (t_skip rfl rfl rfl (t_pick_f rfl rfl rfl rfl (t_nil' (hK222 _ _ (c_cond_f rfl (c_exit (hK214 _ _ (c_seq fun K236 hK236 => (c_region (t_move rfl rfl rfl (t_move rfl rfl rfl (t_cmp rfl rfl rfl rfl rfl (t_samehd (v := .bool true) (by simp) (t_move rfl rfl rfl (t_move rfl rfl rfl (t_move rfl rfl rfl ?_)))))))))))))))))
      have D237 := (((hS.keep u173 (fun _ h => h)).keep u211 (fun _ h => h)).keep u218 (fun _ h => h))
      have D238 := (hR.keep u218 (fun _ h => h))
      refine t_call (vs := [.slice aoS ((StkR boat xs W).length) cpS, .slice aoR ((StkR boat xs W).length) cpR]) own21 rfl rfl rfl rfl (equal_c (StkR boat xs W) aoS bS 0 cpS aoR bR 0 cpR _ D237 D238 StkR_len) (fun v239 w240 r242 => ?_)
      obtain ⟨rfl, u241⟩ := r242
      have zu241 := u241.size
      have E243 := E220.next u241 (fun _ _ h => h.elim)
      refine t_pick_t rfl rfl rfl rfl (t_move rfl rfl rfl (t_move rfl rfl rfl (t_move rfl rfl rfl (t_cmp rfl rfl rfl rfl rfl (t_samehd (v := .bool true) (by simp) (t_pick_t rfl rfl rfl rfl (t_move rfl rfl rfl (t_call (vs := []) own16 rfl rfl rfl rfl (known_c _) (fun v244 w245 r247 => ?_)))))))))
      obtain ⟨rfl, u246⟩ := r247
      have zu246 := u246.size
      have E248 := E243.next u246 (fun _ _ h => h.elim)
      refine t_pick_t rfl rfl rfl rfl (t_assign rfl rfl rfl (t_nil' (hK236 _ _ (c_ret (f_ret1 (v := .bool true) Try.results3 rfl ?_)))))
      exact ⟨rfl, E248⟩
    ·
     refine c_skip (hK206 _ _ (c_seq fun K249 hK249 => (c_seq fun K250 hK250 => (c_region (t_assign rfl rfl rfl (t_nil' (hK250 _ _ (c_block (c_loop (γ := Nat) (fun k => [(1, .slice ao xs.length cap), (3, .pointer (some ⟨bk2, 0, none⟩)), (8, .slice aoS ((StkR boat xs W).length) cpS), (9, .int .i64 (StkN boat xs W)), (10, .int .i64 (StkE boat xs W)), (12, .slice none 0 0), (13, .int .i64 0), (14, .int .i64 (if ((xs.take k).any fun h => !okHull h || !okHull boat) = true then 2 else 5)), (15, .int .i64 (k : Int))]) (fun k w => Upd (fun _ => False) w172 w ∧ (k ≤ xs.length)) (fun k => xs.length - k) 0 ⟨rfl, rfl, rfl, rfl, rfl, rfl, rfl, rfl, rfl, trivial⟩ ⟨Upd.refl _ _, Nat.zero_le _⟩ ?_)))))))))
     intro k w252 hW K251 hK251
     obtain ⟨u253, I254⟩ := hW
     have zu253 := u253.size
     have E255 := E175.next u253 (fun _ _ h => h.elim)
     have hk := I254; clear I254
     refine c_seq fun K256 hK256 => (c_seq fun K257 hK257 => (c_region (t_move rfl rfl rfl (t_move rfl rfl rfl (t_len Try.underlying24 rfl rfl rfl rfl (t_cmp rfl rfl rfl rfl rfl (t_move rfl rfl rfl (t_splitp 70 rfl (fun g70 => ?_) (fun g70 => ?_)))))))))
     ·
      refine t_move rfl rfl rfl (t_len Try.underlying24 rfl rfl rfl rfl (t_cmp rfl rfl rfl rfl rfl (t_same 73 (v := .bool true) rfl (congrArg Value.bool (decide_eq_true (by omega))) (t_pick_t rfl rfl rfl rfl (t_nil' (hK257 _ _ (c_cond_t rfl (c_skip (hK256 _ _ (c_seq fun K258 hK258 => (c_block (c_seq fun K259 hK259 => (c_region (t_move rfl rfl rfl (t_move rfl rfl rfl ?_)))))))))))))))
      have i260 : k < xs.length := (by omega)
      refine t_index (j := k) Try.underlying24 Try.sizeOf23 rfl rfl rfl rfl ((hs.keep E255 (fun _ h => h)).addr (by omega)) rfl i260 (t_loadN (vs := [.int .i64 ((nth xs k).len), .int .i64 ((nth xs k).wid), .int .i64 ((nth xs k).mass)]) Try.isAgg23 Try.sizeOf23 rfl rfl rfl (((hs.keep E255 (fun _ h => h)).at_ k (by omega)).sub 0 3) rfl (t_call (vs := [.agg #[.int .i64 ((nth xs k).len), .int .i64 ((nth xs k).wid), .int .i64 ((nth xs k).mass)]]) own20 rfl rfl rfl rfl (rHull_c (nth xs k) _) (fun v261 w262 r264 => ?_)))
      obtain ⟨rfl, u263⟩ := r264
      have zu263 := u263.size
      refine t_not rfl rfl rfl (t_move rfl rfl rfl (t_split 83 rfl (fun g83 => ?_) (fun g83 => ?_)))
      ·
       refine t_skip rfl rfl rfl (t_skip rfl rfl rfl (t_skip rfl rfl rfl (t_pick_t rfl rfl rfl rfl (t_nil' (hK259 _ _ (c_cond_t rfl (c_region (t_assign rfl rfl rfl (t_nil' (hK258 _ _ (c_region (t_move rfl rfl rfl (t_ari rfl rfl rfl rfl rfl (by omega) (t_assign rfl rfl rfl (t_nil' ?_)))))))))))))))
       have hbk : (!okHull (nth xs k) || !okHull boat) = true := by simp at g83; simp [g83]
       exact hK251 (k + 1) _ _ (by omega) ⟨rfl, rfl, rfl, rfl, rfl, rfl, rfl, (by exact congrArg some (congrArg (Value.int .i64) (by rw [any_step (by omega), hbk]; simp))), rfl, trivial⟩ ⟨(u253.next u263 (fun _ _ h => h.elim)), (by omega)⟩
      ·
       have B266 := ((((B163.keep u166 (fun h => h)).keep u173 (fun h => h)).keep u253 (fun h => h)).keep u263 (fun h => h))
       refine t_loadN (vs := [.int .i64 boat.len, .int .i64 boat.wid, .int .i64 boat.mass]) Try.isAgg23 Try.sizeOf23 rfl rfl rfl (B266.at.sub 0 3) rfl (t_call (vs := [.agg #[.int .i64 boat.len, .int .i64 boat.wid, .int .i64 boat.mass]]) own20 rfl rfl rfl rfl (rHull_c boat _) (fun v267 w268 r270 => ?_))
       obtain ⟨rfl, u269⟩ := r270
       have zu269 := u269.size
       refine t_not rfl rfl rfl (t_pick_f rfl rfl rfl rfl (t_nil' (hK259 _ _ (c_cond rfl (fun g87 => ?_) (fun g87 => ?_)))))
       ·
        refine c_region (t_assign rfl rfl rfl (t_nil' (hK258 _ _ (c_region (t_move rfl rfl rfl (t_ari rfl rfl rfl rfl rfl (by omega) (t_assign rfl rfl rfl (t_nil' ?_))))))))
        have hbk : (!okHull (nth xs k) || !okHull boat) = true := by simp at g87; simp [g87]
        exact hK251 (k + 1) _ _ (by omega) ⟨rfl, rfl, rfl, rfl, rfl, rfl, rfl, (by exact congrArg some (congrArg (Value.int .i64) (by rw [any_step (by omega), hbk]; simp))), rfl, trivial⟩ ⟨((u253.next u263 (fun _ _ h => h.elim)).next u269 (fun _ _ h => h.elim)), (by omega)⟩
       ·
        refine c_skip (hK258 _ _ (c_region (t_move rfl rfl rfl (t_ari rfl rfl rfl rfl rfl (by omega) (t_assign rfl rfl rfl (t_nil' ?_))))))
        have hbk : (!okHull (nth xs k) || !okHull boat) = false := by simp at g83 g87; simp [g83, g87]
        exact hK251 (k + 1) _ _ (by omega) ⟨rfl, rfl, rfl, rfl, rfl, rfl, rfl, (by exact congrArg some (congrArg (Value.int .i64) (by rw [any_step (by omega), hbk]; simp))), rfl, trivial⟩ ⟨((u253.next u263 (fun _ _ h => h.elim)).next u269 (fun _ _ h => h.elim)), (by omega)⟩
     ·
      have hE : StkE boat xs W = (if ((xs.take k).any fun h => !okHull h || !okHull boat) = true then 2 else 5) := by rw [stk_long (by omega), List.take_of_length_le (by omega)]
      have hne : (if ((xs.take k).any fun h => !okHull h || !okHull boat) = true then 2 else 5) ≠ (0 : Int) := by split <;> decide
      have hnil := (stk_bad hE hne).2
      have hN := (stk_bad hE hne).1
      refine t_same 10 (v := .int .i64 (if ((xs.take k).any fun h => !okHull h || !okHull boat) = true then 2 else 5)) rfl (congrArg (Value.int .i64) hE) (t_same 9 (v := .int .i64 0) rfl (congrArg (Value.int .i64) hN) (t_skip rfl rfl rfl (t_skip rfl rfl rfl (t_skip rfl rfl rfl (t_pick_f rfl rfl rfl rfl (t_nil' (hK257 _ _ (c_cond_f rfl (c_exit (hK249 _ _ (c_seq fun K272 hK272 => (c_region (t_move rfl rfl rfl (t_move rfl rfl rfl (t_cmp rfl rfl rfl rfl rfl (t_samehd (v := .bool true) (by simp) (t_move rfl rfl rfl (t_move rfl rfl rfl (t_move rfl rfl rfl (t_call (vs := [.slice aoS ((StkR boat xs W).length) cpS, .slice none 0 0]) own21 rfl rfl rfl rfl (equalNil_c (StkR boat xs W) aoS bS cpS hnil _) (fun v273 w274 r276 => ?_)))))))))))))))))))))
      obtain ⟨rfl, u275⟩ := r276
      have zu275 := u275.size
      have E277 := E255.next u275 (fun _ _ h => h.elim)
      refine t_pick_t rfl rfl rfl rfl (t_move rfl rfl rfl (t_move rfl rfl rfl (t_move rfl rfl rfl (t_cmp rfl rfl rfl rfl rfl (t_samehd (v := .bool true) rfl (t_pick_t rfl rfl rfl rfl (t_move rfl rfl rfl (t_call (vs := []) own16 rfl rfl rfl rfl (known_c _) (fun v278 w279 r281 => ?_)))))))))
      obtain ⟨rfl, u280⟩ := r281
      have zu280 := u280.size
      have E282 := E277.next u280 (fun _ _ h => h.elim)
      refine t_pick_t rfl rfl rfl rfl (t_assign rfl rfl rfl (t_nil' (hK272 _ _ (c_ret (f_ret1 (v := .bool true) Try.results3 rfl ?_)))))
      exact ⟨rfl, E282⟩

end Go.Proofs.Ytmicjleiheoieaa
