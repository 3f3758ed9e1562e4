/-
  Part 8 of the proof: contracts and plain laws. Conditions: none.
-/
import Derived.Test.YtagmodjadmecdaaGreatJK7
namespace Go.Proofs.YtagmodjadmecdaaGreat
open Go Go.RowKit Tryz

theorem clipI_c (pk : List Int) (ao : Option Addr) (cap : Nat) (w0 : World) (hc : pk.length ≤ cap) :
    CallsV Tryz.prog 112 [.slice ao pk.length cap] w0 (fun v w' => v = .slice (subAddr ao pk.length 0 1) pk.length pk.length ∧ Ext w0 w') := by
 refine f_enter (N := 9) func112 rfl rfl rfl (c_seq fun K1 hK1 => (c_region (t_assign rfl rfl rfl (t_nil' (hK1 _ _ (c_seq fun K2 hK2 => (c_region (t_move rfl rfl rfl (t_move rfl rfl rfl (t_len underlying60 rfl rfl rfl rfl (t_move rfl rfl rfl (t_len underlying60 rfl rfl rfl rfl (t_sliceC underlying60 sizeOf3 rfl rfl rfl rfl rfl rfl rfl hc (t_assign rfl rfl rfl (t_nil' (hK2 _ _ (c_ret (f_ret1 (v := .slice (subAddr ao pk.length 0 1) pk.length pk.length) results112 rfl ?_))))))))))))))))))
 exact ⟨rfl, (Upd.refl (fun _ => False) w0)⟩

theorem teams_c (c : Nat) (x : Leg) (i0 : Int) (nums : List Int) (an : Option Addr) (cn : Nat) (pl : Int) (w0 : World) :
    CallsV Tryz.prog 90 [.pointer (some ⟨c, 0, none⟩), .agg #[.int .i64 x.r, .int .i64 x.t.bl, .int .i64 x.t.bh, .int .i64 x.t.el, .int .i64 x.t.eh, .int .i64 x.h, .int .i64 x.p], .int .i64 i0, .agg #[.slice an nums.length cn, .int .i64 pl]] w0 (fun v w' => (∃ b7 b5 b6 b4, v = .func (.func 111) #[] #[.pointer (some ⟨b7, 0, none⟩), .pointer (some ⟨b5, 0, none⟩), .pointer (some ⟨b6, 0, none⟩), .pointer (some ⟨b4, 0, none⟩)] ∧ Blk w' b7 166 [.slice an nums.length cn, .int .i64 pl] ∧ Blk w' b5 68 (encLeg x) ∧ Blk w' b6 3 [.int .i64 i0] ∧ Blk w' b4 117 [.pointer (some ⟨c, 0, none⟩)] ∧ w0.heap.size ≤ b7 ∧ w0.heap.size ≤ b5 ∧ w0.heap.size ≤ b6 ∧ w0.heap.size ≤ b4) ∧ Ext w0 w') := by
 refine f_enter (N := 10) func90 rfl rfl rfl (c_seq fun K1 hK1 => (c_region (t_box (cs := [.pointer (some ⟨c, 0, none⟩)]) rfl rfl rfl rfl (fun bk2 w3 ebk2 sbk2 B4 u5 => ?_))))
 have zu5 := u5.size
 refine t_box (cs := [.int .i64 x.r, .int .i64 x.t.bl, .int .i64 x.t.bh, .int .i64 x.t.el, .int .i64 x.t.eh, .int .i64 x.h, .int .i64 x.p]) rfl rfl rfl rfl (fun bk7 w8 ebk7 sbk7 B9 u10 => ?_)
 have zu10 := u10.size
 refine t_box (cs := [.int .i64 i0]) rfl rfl rfl rfl (fun bk12 w13 ebk12 sbk12 B14 u15 => ?_)
 have zu15 := u15.size
 refine t_box (cs := [.slice an nums.length cn, .int .i64 pl]) rfl rfl rfl rfl (fun bk17 w18 ebk17 sbk17 B19 u20 => ?_)
 have zu20 := u20.size
 refine t_assign rfl rfl rfl (t_nil' (hK1 _ _ (c_seq fun K22 hK22 => (c_region (t_mkfunc (vs := []) (us := [.pointer (some ⟨bk17, 0, none⟩), .pointer (some ⟨bk7, 0, none⟩), .pointer (some ⟨bk12, 0, none⟩), .pointer (some ⟨bk2, 0, none⟩)]) rfl rfl rfl rfl (t_assign rfl rfl rfl (t_nil' (hK22 _ _ (c_ret (f_ret1 (v := .func (.func 111) #[] #[.pointer (some ⟨bk17, 0, none⟩), .pointer (some ⟨bk7, 0, none⟩), .pointer (some ⟨bk12, 0, none⟩), .pointer (some ⟨bk2, 0, none⟩)]) results90 rfl ?_))))))))))
 have B23 := ((B9.kx u15).kx u20)
 have B24 := (B14.kx u20)
 have B25 := (((B4.kx u10).kx u15).kx u20)
 exact ⟨⟨bk17, bk7, bk12, bk2, rfl, B19, B23, B24, B25, by omega, by omega, by omega, by omega⟩, (((((Upd.refl (fun _ => False) w0).nx u5).nx u10).nx u15).nx u20)⟩

set_option maxHeartbeats 400000 in
theorem teams1_s (r : Rul) (x : Leg) (pb c : Nat) (am : Option Addr) (mb cm n B need : Nat) (F : Nat → Prop) (l D : Nat) (C : List Tm → World → Prop) (Cf : List Tm × Tm → World → Prop) (R Rf : World → Prop) (φ : List HM → List HM) (b7 b5 b6 b4 i0 : Nat) (nums : List Int) (an : Option Addr) (gn cn : Nat) (pl : Int) (ms : List HM) (w0 : World) (hp : TmP Tryz.prog r x pb c am mb cm n B F l D C Cf R Rf φ b7 b5 b6 b4 need i0 nums an gn cn pl ms w0) (ih : ∀ q, q < need → TeamsQ Tryz.prog r x pb c am mb cm n B q) :
    CallsV Tryz.prog 111 [.func (.yield l) #[] #[], .pointer (some ⟨b7, 0, none⟩), .pointer (some ⟨b5, 0, none⟩), .pointer (some ⟨b6, 0, none⟩), .pointer (some ⟨b4, 0, none⟩)] w0 (fun _ w' => TmQ r x pb c am mb cm n F C Cf R Rf φ need i0 nums pl ms w0 w') := by
 have hpb := hp.hpb
 have hD := hp.hD
 have hl := hp.hl
 have hnd := hp.hnd
 have hh3 := (okLeg_ok hp.hx).2
 have hpl := hp.hpl
 have hlen := hp.row.len
 have hn6 := hp.hn
 have l7 := hp.h7.lt
 have l5 := hp.h5.lt
 have l4 := hp.h4.lt
 have l6 := hp.h6.lt
 have lc := hp.row.blk.lt
 have lgn := hp.num.lt
 have hcapn := hp.num.cap_le
 have hbR := bentR hp.hH (B := w0.heap.size) (by omega) (by omega)
 have hml : pb ≤ mb → mb ≠ l ∧ mb ≠ D := fun hb => by
   rcases hp.row.row.acc.at_ with ⟨_, _, _, h1⟩ | ⟨_, _, cur, h1, _⟩
   · omega
   · exact hp.hH.cell (cs := cur.toList) hp.r0 (by simpa [Blk] using h1)
 have hR2 : ∀ W W', R W → Upd (MB mb pb) W W' → R W' := fun W W' h u => hp.hH.keep h u (fun q => (hml (q.1 ▸ q.2)).1 q.1.symm) (fun q => (hml (q.1 ▸ q.2)).2 q.1.symm)
 have hRf2 : ∀ W W', Rf W → Upd (MB mb pb) W W' → Rf W' := fun W W' h u => hp.hH.keepf h u (fun q => (hml (q.1 ▸ q.2)).1 q.1.symm) (fun q => (hml (q.1 ▸ q.2)).2 q.1.symm)
 refine f_enterM (N := 104) func111 rfl rfl rfl (c_seq fun K1 hK1 => (c_region (t_box (cs := [.func (.yield l) #[] #[]]) rfl rfl rfl rfl (fun bk2 w3 ebk2 sbk2 B4 u5 => ?_))))
 have zu5 := u5.size
 have E6 := (Upd.refl (fun i => TP F pb w0 i) w0).nx u5
 refine t_nil' (hK1 _ _ (c_seq fun K7 hK7 => (c_seq fun K8 hK8 => (c_region (t_field underlying166 rfl sizeOf60 (0) rfl rfl rfl rfl ?_)))))
 have B9 := (hp.h7.kx u5)
 refine t_load isAgg60 rfl rfl rfl (B9.get rfl) (t_len underlying60 rfl rfl rfl rfl (t_field underlying68 rfl sizeOf3 (5) rfl rfl rfl rfl ?_))
 have B10 := (hp.h5.kx u5)
 refine t_load isAgg3 rfl rfl rfl (B10.get rfl) (t_cmp rfl rfl rfl rfl rfl (t_nil' (hK8 _ _ (c_condp rfl (fun g17 => ?_) (fun g17 => ?_)))))
 ·
  have hn0 : need = 0 := by omega
  refine c_seq fun K11 hK11 => (c_seq fun K12 hK12 => (c_region (t_field underlying166 rfl sizeOf3 (1) rfl rfl rfl rfl (t_load isAgg3 rfl rfl rfl (B9.get rfl) (t_field underlying68 rfl sizeOf3 (6) rfl rfl rfl rfl (t_load isAgg3 rfl rfl rfl (B10.get rfl) (t_cmp rfl rfl rfl rfl rfl (t_nil' (hK12 _ _ (c_condp rfl (fun g22 => ?_) (fun g22 => ?_)))))))))))
  ·
   refine c_region (t_load isAgg185 rfl rfl rfl (B4.get rfl) (t_loadN (vs := [.slice an nums.length cn, .int .i64 pl]) isAgg166 sizeOf166 rfl rfl rfl (B9.at.sub 0 2) rfl ?_))
   have nTb13 : ¬ TP F pb w3 b7 := TP.not hp.n7 B9 (by decide)
   have nTb14 : ¬ TP F pb w3 b5 := TP.not hp.n5 B10 (by decide)
   have B16 := (hp.h4.kx u5)
   have nTb15 : ¬ TP F pb w3 b4 := TP.not hp.n4 B16 (by decide)
   have B18 := (hp.row.blk.kx u5)
   have nTb17 : ¬ TP F pb w3 c := TP.not hp.nc B18 (by decide)
   have D19 := (hp.num.kE u5)
   refine t_yield (vs := [.agg #[.slice an nums.length cn, .int .i64 pl]]) rfl rfl rfl rfl (hp.hH.hand ⟨[], nums, an, gn, cn, pl, ms, w3⟩ _ ⟨(hp.hC _ _ _ hp.c0 ((Upd.refl (fun i => MB mb pb i) _).nx u5)), (hp.row.ext ((Upd.refl (fun _ => False) _).nx u5)), D19, hp.hng, fun m hm => by have := hp.hB m hm; omega, by show nums.length ≤ 3; omega, by have := hp.hD; omega, Upd.refl _ _⟩ (hR2 _ _ hp.r0 ((Upd.refl (fun i => MB mb pb i) _).nx u5))) (by rintro e w' (⟨rfl, _⟩ | ⟨rfl, _⟩) <;> exact ⟨_, rfl⟩) (fun v20 w21 r22 => ?_)
   rcases r22 with ⟨hvr22, hrr22⟩ | ⟨hvr22, hrr22⟩ <;> injection hvr22 with hvr22 <;> subst hvr22
   ·
    obtain ⟨⟨hzC, hzW, u23⟩, hzR⟩ := hrr22
    have zu23 := u23.size
    refine t_nil' (hK11 _ _ (c_ret ?_))
    have D27 := (((show Marks w0.heap.size [] w0 from trivial).keepB u5 (CellsB.of (CellsIn.none _))).keepB u23 (TP.cellsB (fun i h => (hp.hF i h).2)))
    have hmkE := D27
    refine f_retMc0  results111  D27 (fun w25 u26 omw25 => ?_)
    have zu26 := u26.size
    unfold TmQ
    have e9 : teamsP r x need i0 nums pl (ms.map HM.mb) = [⟨nums, pl, (ms.map HM.mb)⟩] := by rw [hn0, teamsP, if_pos (by omega)]
    exact ⟨.inl ⟨by rw [e9]; exact hp.hCt _ _ _ _ hzC omw25 hmkE.bent, hbR.1 () _ _ _ hzR omw25 hmkE.bent, (RowC.bent (B := w0.heap.size) (by omega) _ _ _ _ hzW omw25 hmkE.bent)⟩, ((E6.next u23 (fun i hi (h : TP F pb w3 i) => show TP F pb w0 i by first | omega | assumption | exact TP.back (by assumption) hi h | exact Or.inl (by rw [h]; assumption))).next u26 (fun i hi (h : w0.heap.size ≤ i) => show TP F pb w0 i by first | omega | assumption | exact TP.back (by assumption) hi h | exact Or.inl (by rw [h]; assumption)))⟩
   obtain ⟨⟨hzC, hzW, u23⟩, hzR⟩ := hrr22
   have zu23 := u23.size
   refine t_nil' (hK11 _ _ (c_ret ?_))
   have D32 := (((show Marks w0.heap.size [] w0 from trivial).keepB u5 (CellsB.of (CellsIn.none _))).keepB u23 (TP.cellsB (fun i h => (hp.hF i h).2)))
   have hmkE := D32
   refine f_retMc0  results111  D32 (fun w30 u31 omw30 => ?_)
   have zu31 := u31.size
   unfold TmQ
   have e9 : teamsP r x need i0 nums pl (ms.map HM.mb) = [⟨nums, pl, (ms.map HM.mb)⟩] := by rw [hn0, teamsP, if_pos (by omega)]
   exact ⟨.inr ⟨⟨[], ⟨nums, pl, (ms.map HM.mb)⟩, [], by rw [e9]; rfl, hp.hCft _ _ _ _ hzC omw30 hmkE.bent⟩, hbR.2 () _ _ _ hzR omw30 hmkE.bent, (RowC.bent (B := w0.heap.size) (by omega) _ _ _ _ hzW omw30 hmkE.bent)⟩, ((E6.next u23 (fun i hi (h : TP F pb w3 i) => show TP F pb w0 i by first | omega | assumption | exact TP.back (by assumption) hi h | exact Or.inl (by rw [h]; assumption))).next u31 (fun i hi (h : w0.heap.size ≤ i) => show TP F pb w0 i by first | omega | assumption | exact TP.back (by assumption) hi h | exact Or.inl (by rw [h]; assumption)))⟩
  refine c_skip (hK11 _ _ (c_ret ?_))
  have hCe := (hp.hC _ _ _ hp.c0 ((Upd.refl (fun i => MB mb pb i) _).nx u5))
  have hRe := (hR2 _ _ hp.r0 ((Upd.refl (fun i => MB mb pb i) _).nx u5))
  have hWe := (hp.row.ext ((Upd.refl (fun _ => False) _).nx u5))
  have hmkE := ((show Marks w0.heap.size [] w0 from trivial).keep ((Upd.refl (fun _ => False) _).nx u5) (CellsIn.none _))
  refine f_retMc0  results111  ((show Marks w0.heap.size [] w0 from trivial).keep ((Upd.refl (fun _ => False) _).nx u5) (CellsIn.none _)) (fun w34 u35 omw34 => ?_)
  have zu35 := u35.size
  unfold TmQ
  have e9 : teamsP r x need i0 nums pl (ms.map HM.mb) = [] := by rw [hn0, teamsP, if_neg (by omega)]
  exact ⟨.inl ⟨by rw [e9]; exact hp.hCt _ _ _ _ hCe omw34 hmkE.bent, hbR.1 () _ _ _ hRe omw34 hmkE.bent, (RowC.bent (B := w0.heap.size) (by omega) _ _ _ _ hWe omw34 hmkE.bent)⟩, (E6.next u35 (fun i hi (h : w0.heap.size ≤ i) => show TP F pb w0 i by first | omega | assumption | exact TP.back (by assumption) hi h | exact Or.inl (by rw [h]; assumption)))⟩
 have hn1 : 0 < need := by omega
 refine c_skip (hK7 _ _ (c_seq fun K37 hK37 => (c_region ?_)))
 have B38 := (hp.h6.kx u5)
 refine t_load isAgg3 rfl rfl rfl (B38.get rfl) (t_alloc (cs := [.int .i64 0]) zeroValue3 rfl rfl rfl (fun bk39 w40 ebk39 sbk39 B41 u42 => ?_))
 have zu42 := u42.size
 refine t_st (vs := [.int .i64 (i0 : Int)]) sizeOf3 rfl rfl rfl B41 rfl rfl rfl rfl (fun w44 sw44 B46 u45 => ?_)
 have zu45 := u45.size
 have E47 := (E6.nx u42).next u45 (fun i hi (h : i = bk39) => show TP F pb w0 i by first | omega | assumption | exact TP.back (by assumption) hi h | exact Or.inl (by rw [h]; assumption))
 have B46 : Blk w44 bk39 3 [.int .i64 (i0 : Int)] := B46
 refine t_nil' (hK37 _ _ (c_block ?_))
 have hP0 : Upd (TP F pb w0) w0 w44 := E47
 have B49 := ((B9.kx u42).keep u45 (by omega))
 have nTb48 : ¬ TP F pb w44 b7 := TP.not hp.n7 B49 (by decide)
 have B51 := ((B10.kx u42).keep u45 (by omega))
 have nTb50 : ¬ TP F pb w44 b5 := TP.not hp.n5 B51 (by decide)
 have B53 := (((hp.h4.kx u5).kx u42).keep u45 (by omega))
 have nTb52 : ¬ TP F pb w44 b4 := TP.not hp.n4 B53 (by decide)
 have B55 := (((hp.row.blk.kx u5).kx u42).keep u45 (by omega))
 have nTb54 : ¬ TP F pb w44 c := TP.not hp.nc B55 (by decide)
 have B57 := ((B4.kx u42).keep u45 (by omega))
 have nTb56 : ¬ TP F pb w44 bk2 := TP.not (fun h => by have := (hp.hF _ h).2; omega) B57 (by decide)
 have D58 := (((hp.num.kE u5).kE u42).keep u45 (fun hb => show ¬ (gn = bk39) by first | omega | exact hgm hb | (revert hb; assumption)))
 have hnk : need = (need - 1) + 1 := by omega
 have hnT : pb ≤ gn → ¬ TP F pb w44 gn := (D58).notTP hp.hng (by decide)
 have hwp0 : w0.heap.size ≤ w44.heap.size := (E47).size
 refine c_loopm (γ := Nat × Nat × List Tm × List Deferred) (fun gg => [(1, .pointer (some ⟨b7, 0, none⟩)), (2, .pointer (some ⟨b5, 0, none⟩)), (4, .pointer (some ⟨b4, 0, none⟩)), (5, .pointer (some ⟨bk2, 0, none⟩)), (6, .pointer (some ⟨gg.2.1, 0, none⟩))]) (fun gg => gg.2.2.2) (fun gg w => Upd (fun i => TP F pb w44 i) w44 w ∧ (i0 ≤ gg.1) ∧ (Blk w gg.2.1 3 [.int .i64 (gg.1 : Int)]) ∧ (w0.heap.size ≤ gg.2.1) ∧ (teamsP r x need i0 nums pl (ms.map HM.mb) = gg.2.2.1 ++ teamsP r x need gg.1 nums pl (ms.map HM.mb)) ∧ (C gg.2.2.1 w) ∧ (R w) ∧ (RowC F pb c r am mb cm n ms w) ∧ (Marks w0.heap.size gg.2.2.2 w)) (fun gg => n - gg.1) (i0, bk39, [], []) rfl ⟨rfl, rfl, rfl, rfl, rfl, trivial⟩ ⟨Upd.refl _ _, (Nat.le_refl _), B46, (by show w0.heap.size ≤ bk39; omega), rfl, (hp.hC _ _ _ hp.c0 ((((Upd.refl (fun i => MB mb pb i) _).nx u5).nx u42).next u45 (fun i hi (h : i = bk39) => show MB mb pb i by first | omega | assumption))), (hR2 _ _ hp.r0 ((((Upd.refl (fun i => MB mb pb i) _).nx u5).nx u42).next u45 (fun i hi (h : i = bk39) => show MB mb pb i by first | omega | assumption))), (hp.row.ext ((((Upd.refl (fun _ => False) _).nx u5).nx u42).next u45 (fun i hi (h : i = bk39) => show False by first | omega | assumption))), trivial⟩ ?_
 intro gg w60 hW K59 hK59
 obtain ⟨k, bq, ts, dl⟩ := gg
 change WC _ _ _ _ _ _ [(1, .pointer (some ⟨b7, 0, none⟩)), (2, .pointer (some ⟨b5, 0, none⟩)), (4, .pointer (some ⟨b4, 0, none⟩)), (5, .pointer (some ⟨bk2, 0, none⟩)), (6, .pointer (some ⟨bq, 0, none⟩))] _
 change Upd (fun i => TP F pb w44 i) w44 w60 ∧ (i0 ≤ k) ∧ (Blk w60 bq 3 [.int .i64 (k : Int)]) ∧ (w0.heap.size ≤ bq) ∧ (teamsP r x need i0 nums pl (ms.map HM.mb) = ts ++ teamsP r x need k nums pl (ms.map HM.mb)) ∧ (C ts w60) ∧ (R w60) ∧ (RowC F pb c r am mb cm n ms w60) ∧ (Marks w0.heap.size dl w60) at hW
 obtain ⟨u61, I62, I63, I64, I65, I66, I67, I68, I69⟩ := hW
 have zu61 := u61.size
 have E70 := E47.next u61 (fun i hi (h : TP F pb w44 i) => show TP F pb w0 i by first | omega | assumption | exact TP.back (by assumption) hi h | exact Or.inl (by rw [h]; assumption))
 have hi0 := I62; clear I62
 have hbq := I63; clear I63
 have hbq0 := I64; clear I64
 have htk := I65; clear I65
 have hCk := I66; clear I66
 have hRk := I67; clear I67
 have hrowk := I68; clear I68
 have hmkl := I69; clear I69
 have lt_mb := hrowk.row.acc.lt
 have hbql := hbq.lt
 have hPl : Upd (TP F pb w0) w0 w60 := E70
 refine c_seq fun K71 hK71 => (c_seq fun K72 hK72 => (c_drawnM follows (fun _ => False) (.look 0 (.look 1 (.look 2 (.look 3 (.look 4 (.look 5 (.look 6 .done))))))) (by kernel_rfl) fun w73 u74 => ?_))
 have zu74 := u74.size
 have E75 := E70.nx u74
 have B76 := (hbq.kx u74)
 refine y_load isAgg3 rfl rfl rfl (B76.get rfl) (fun h => h) ?_
 have B77 := ((B53.keep u61 (show ¬ (TP F pb w44 b4) by first | omega | assumption)).kx u74)
 refine y_load isAgg117 rfl rfl rfl (B77.get rfl) (fun h => h) (y_nilchk rfl rfl rfl (y_field underlying144 rfl sizeOf142 (5) rfl rfl rfl rfl ?_))
 have B78 := (hrowk.blk.kx u74)
 refine y_load isAgg142 rfl rfl rfl (B78.get rfl) (fun h => h) (y_len underlying142 rfl rfl rfl rfl (y_cmp rfl rfl rfl rfl rfl (s_nil (hK72 _ _ (c_condp rfl (fun g33 => ?_) (fun g33 => ?_))))))
 ·
  have hil : k < n := by omega
  have him : k < ms.length := by omega
  have hmm := hrowk.row.mem (nth ms k) (nth_mem him)
  have hpm := hrowk.row.pos (by omega)
  have hFmb := hp.hFm hpm
  have hmbl := (hp.hF _ hFmb).2
  have hgm : pb ≤ gn → ¬ gn = mb := fun h e => hp.hng h (e ▸ hFmb)
  have hb7m : b7 ≠ mb := fun e => hp.n7 (e ▸ hFmb)
  have hb5m : b5 ≠ mb := fun e => hp.n5 (e ▸ hFmb)
  have hb4m : b4 ≠ mb := fun e => hp.n4 (e ▸ hFmb)
  have hcm : c ≠ mb := fun e => hp.nc (e ▸ hFmb)
  have lt__nth_ms_k_gt := hmm.ht.lt
  refine c_skip (hK71 _ _ (c_seq fun K79 hK79 => (c_block (c_seq fun K80 hK80 => (c_drawnM follows (fun _ => False) (.look 0 (.look 1 (.look 2 (.look 3 (.look 4 (.look 5 (.look 6 (.act 7 (.act 8 .done .stop) .stop)))))))) (by kernel_rfl) fun w81 u82 => ?_)))))
  have zu82 := u82.size
  have B84 := (((B53.keep u61 (show ¬ (TP F pb w44 b4) by first | omega | assumption)).kx u74).kx u82)
  refine y_load isAgg117 rfl rfl rfl (B84.get rfl) (fun h => h) (y_nilchk rfl rfl rfl (y_field underlying144 rfl sizeOf142 (5) rfl rfl rfl rfl ?_))
  have B85 := ((hrowk.blk.kx u74).kx u82)
  refine y_load isAgg142 rfl rfl rfl (B85.get rfl) (fun h => h) ?_
  have B86 := ((hbq.kx u74).kx u82)
  refine y_load isAgg3 rfl rfl rfl (B86.get rfl) (fun h => h) ?_
  have D87 := ((hrowk.row.acc.kE u74).kE u82)
  have i88 : k < ms.length := (by omega)
  refine y_index (j := k) underlying142 sizeOf131 rfl rfl rfl rfl ((D87.sl (fun _ => rfl)).addr (by omega)) rfl (by omega) ?_
  have D89 := ((hrowk.row.acc.kE u74).kE u82)
  refine y_loadN (vs := [.int .i64 ((nth ms k).f), .int .i64 ((nth ms k).u), .slice ((nth ms k).ap) ((nth ms k).ps.length) ((nth ms k).cp), .slice ((nth ms k).ad) ((nth ms k).nd) ((nth ms k).cd), .slice ((nth ms k).at_) ((nth ms k).ts.length) ((nth ms k).ct)]) isAgg131 sizeOf131 rfl rfl rfl (((D89.sl (fun _ => rfl)).at_ k (by omega)).sub 0 5) rfl (fun h => h) (s_do (t_alloc (cs := [.int .i64 0, .int .i64 0, .slice none 0 0, .slice none 0 0, .slice none 0 0]) zeroValue131 rfl rfl rfl (fun bk90 w91 ebk90 sbk90 B92 u93 => ?_)))
  have zu93 := u93.size
  refine s_next ((Upd.refl _ _).nx u93) (s_do (t_st (vs := [.int .i64 ((nth ms k).f), .int .i64 ((nth ms k).u), .slice ((nth ms k).ap) ((nth ms k).ps.length) ((nth ms k).cp), .slice ((nth ms k).ad) ((nth ms k).nd) ((nth ms k).cd), .slice ((nth ms k).at_) ((nth ms k).ts.length) ((nth ms k).ct)]) sizeOf131 rfl rfl rfl B92 rfl rfl rfl rfl (fun w95 sw95 B97 u96 => ?_)))
  have zu96 := u96.size
  have B97 : Blk w95 bk90 131 [.int .i64 ((nth ms k).f), .int .i64 ((nth ms k).u), .slice ((nth ms k).ap) ((nth ms k).ps.length) ((nth ms k).cp), .slice ((nth ms k).ad) ((nth ms k).nd) ((nth ms k).cd), .slice ((nth ms k).at_) ((nth ms k).ts.length) ((nth ms k).ct)] := B97
  refine s_next ((Upd.refl _ _).next u96 (fun i hi (h : i = bk90) => show w81.heap.size ≤ i ∨ (False) by first | omega | exact .inr h)) (s_nil (hK80 _ _ (c_cut (γ := Nat × Option Addr × Nat × Nat) (fun gg => [(1, .pointer (some ⟨b7, 0, none⟩)), (2, .pointer (some ⟨b5, 0, none⟩)), (4, .pointer (some ⟨b4, 0, none⟩)), (5, .pointer (some ⟨bk2, 0, none⟩)), (6, .pointer (some ⟨bq, 0, none⟩)), (7, .pointer (some ⟨bk90, 0, none⟩)), (8, .pointer (some ⟨gg.1, 0, none⟩)), (9, .bool (canB r (nth ms k).f (nth ms k).u (nth ms k).ts x))]) (fun gg w => Upd (fun _ => False) w95 w ∧ (Blk w gg.1 131 [.int .i64 ((nth ms k).f), .int .i64 ((nth ms k).u), .slice ((nth ms k).ap) ((nth ms k).ps.length) ((nth ms k).cp), .slice ((nth ms k).ad) ((nth ms k).nd) ((nth ms k).cd), .slice gg.2.1 ((canT (nth ms k).f (nth ms k).u (nth ms k).ts x).length) gg.2.2.2]) ∧ (Acc encSp 2 109 pb w gg.2.1 gg.2.2.1 gg.2.2.2 (canT (nth ms k).f (nth ms k).u (nth ms k).ts x)) ∧ (winM (nth ms k).f (nth ms k).u x = true → pb ≤ gg.2.2.1 → w95.heap.size ≤ gg.2.2.1) ∧ (w95.heap.size ≤ gg.1)) (fun K100 hK100 => ?_) ?_)))
  ·
   refine c_drawnM follows (fun _ => False) (.look 0 (.look 1 (.look 2 (.look 3 (.look 4 (.look 5 (.act 6 (.look 7 (.look 8 (.look 9 (.act 10 (.act 11 (.look 12 .done) .stop) .stop)))) (.act 10 (.act 6 (.look 7 (.look 8 (.look 9 (.act 11 (.look 12 .done) .stop)))) .stop) .stop)))))))) (by kernel_rfl) fun w103 u104 => ?_
   have zu104 := u104.size
   have B106 := ((((((B53.keep u61 (show ¬ (TP F pb w44 b4) by first | omega | assumption)).kx u74).kx u82).kx u93).keep u96 (by omega)).kx u104)
   refine y_load isAgg117 rfl rfl rfl (B106.get rfl) (fun h => h) (y_nilchk rfl rfl rfl (y_field underlying144 rfl sizeOf100 (0) rfl rfl rfl rfl ?_))
   have B107 := (((((hrowk.blk.kx u74).kx u82).kx u93).keep u96 (by omega)).kx u104)
   refine y_loadN (vs := [.int .i64 r.rest, .int .i64 r.span, .int .i64 r.work, .int .i64 r.week, .int .i64 r.ww]) isAgg100 sizeOf100 rfl rfl rfl (B107.at.sub 0 5) rfl (fun h => h) ?_
   have B108 := (B97.kx u104)
   refine y_loadN (vs := [.int .i64 ((nth ms k).f), .int .i64 ((nth ms k).u), .slice ((nth ms k).ap) ((nth ms k).ps.length) ((nth ms k).cp), .slice ((nth ms k).ad) ((nth ms k).nd) ((nth ms k).cd), .slice ((nth ms k).at_) ((nth ms k).ts.length) ((nth ms k).ct)]) isAgg131 sizeOf131 rfl rfl rfl (B108.at.sub 0 5) rfl (fun h => h) ?_
   have B109 := ((((((B51.keep u61 (show ¬ (TP F pb w44 b5) by first | omega | assumption)).kx u74).kx u82).kx u93).keep u96 (by omega)).kx u104)
   refine y_loadN (vs := [.int .i64 x.r, .int .i64 x.t.bl, .int .i64 x.t.bh, .int .i64 x.t.el, .int .i64 x.t.eh, .int .i64 x.h, .int .i64 x.p]) isAgg68 sizeOf68 rfl rfl rfl (B109.at.sub 0 7) rfl (fun h => h) (s_or ?_ ?_)
   ·
    refine s_do ?_
    have D110 := (((((hmm.ht.kE u74).kE u82).kE u93).keep u96 (fun hb => show ¬ ((nth ms k).gt = bk90) by first | omega | assumption)).kE u104)
    refine t_call own67 rfl rfl rfl rfl (can_c r ((nth ms k).f) ((nth ms k).u) ((nth ms k).ap) ((nth ms k).ps.length) ((nth ms k).cp) ((nth ms k).ad) ((nth ms k).nd) ((nth ms k).cd) ((nth ms k).ts) ((nth ms k).at_) (nth ms k).gt ((nth ms k).ct) pb x _ D110 (by have := hp.hB _ (nth_mem (xs := ms) (i := k) (by omega)); have := hp.hB9; omega) hmm.srt hmm.ok hp.hr hp.hx hpb.1 (by omega)) (fun v112 w113 r115 => ?_)
    obtain ⟨⟨aoN111, gN111, cN111, _, rfl, rfl, haN111, hfrN111⟩, u114⟩ := r115
    have zu114 := u114.size
    have lt_gN111 := haN111.lt
    refine s_next ((Upd.refl _ _).nx u114) (y_move rfl rfl rfl (y_extract rfl rfl rfl rfl (y_extract rfl rfl rfl rfl (s_do (t_alloc (cs := [.int .i64 0, .int .i64 0, .slice none 0 0, .slice none 0 0, .slice none 0 0]) zeroValue131 rfl rfl rfl (fun bk117 w118 ebk117 sbk117 B119 u120 => ?_))))))
    have zu120 := u120.size
    refine s_next ((Upd.refl _ _).nx u120) (s_do (t_st (vs := [.int .i64 ((nth ms k).f), .int .i64 ((nth ms k).u), .slice ((nth ms k).ap) ((nth ms k).ps.length) ((nth ms k).cp), .slice ((nth ms k).ad) ((nth ms k).nd) ((nth ms k).cd), .slice aoN111 ((canT ((nth ms k).f) ((nth ms k).u) ((nth ms k).ts) x).length) cN111]) sizeOf131 rfl rfl rfl B119 rfl rfl rfl rfl (fun w122 sw122 B124 u123 => ?_)))
    have zu123 := u123.size
    have B124 : Blk w122 bk117 131 [.int .i64 ((nth ms k).f), .int .i64 ((nth ms k).u), .slice ((nth ms k).ap) ((nth ms k).ps.length) ((nth ms k).cp), .slice ((nth ms k).ad) ((nth ms k).nd) ((nth ms k).cd), .slice aoN111 ((canT ((nth ms k).f) ((nth ms k).u) ((nth ms k).ts) x).length) cN111] := B124
    refine s_next ((Upd.refl _ _).next u123 (fun i hi (h : i = bk117) => show w103.heap.size ≤ i ∨ (False) by first | omega | exact .inr h)) (y_assign rfl rfl rfl (s_nil ?_))
    have D126 := ((haN111.kE u120).keep u123 (fun hb => show ¬ (gN111 = bk117) by first | omega | assumption))
    exact hK100 (bk117, aoN111, gN111, cN111) _ _ ⟨rfl, rfl, rfl, rfl, rfl, rfl, rfl, rfl, trivial⟩ ⟨(((((Upd.refl _ _).nx u104).nx u114).nx u120).next u123 (fun i hi h => by omega)), B124, D126, (fun h9 h8 => by have := hfrN111 h9 h8; show w95.heap.size ≤ gN111; omega), (by show w95.heap.size ≤ bk117; omega)⟩
   refine s_do (t_alloc (cs := [.int .i64 0, .int .i64 0, .slice none 0 0, .slice none 0 0, .slice none 0 0]) zeroValue131 rfl rfl rfl (fun bk127 w128 ebk127 sbk127 B129 u130 => ?_))
   have zu130 := u130.size
   refine s_next ((Upd.refl _ _).nx u130) (s_do ?_)
   have D132 := ((((((hmm.ht.kE u74).kE u82).kE u93).keep u96 (fun hb => show ¬ ((nth ms k).gt = bk90) by first | omega | assumption)).kE u104).kE u130)
   refine t_call own67 rfl rfl rfl rfl (can_c r ((nth ms k).f) ((nth ms k).u) ((nth ms k).ap) ((nth ms k).ps.length) ((nth ms k).cp) ((nth ms k).ad) ((nth ms k).nd) ((nth ms k).cd) ((nth ms k).ts) ((nth ms k).at_) (nth ms k).gt ((nth ms k).ct) pb x _ D132 (by have := hp.hB _ (nth_mem (xs := ms) (i := k) (by omega)); have := hp.hB9; omega) hmm.srt hmm.ok hp.hr hp.hx hpb.1 (by omega)) (fun v134 w135 r137 => ?_)
   obtain ⟨⟨aoN133, gN133, cN133, _, rfl, rfl, haN133, hfrN133⟩, u136⟩ := r137
   have zu136 := u136.size
   have lt_gN133 := haN133.lt
   have B139 := (B129.kx u136)
   have hne8 : pb ≤ gN133 → gN133 ≠ bk127 := (haN133).neBlk B139 (by decide)
   refine s_next ((Upd.refl _ _).nx u136) (y_move rfl rfl rfl (y_extract rfl rfl rfl rfl (y_extract rfl rfl rfl rfl (s_do (t_st (vs := [.int .i64 ((nth ms k).f), .int .i64 ((nth ms k).u), .slice ((nth ms k).ap) ((nth ms k).ps.length) ((nth ms k).cp), .slice ((nth ms k).ad) ((nth ms k).nd) ((nth ms k).cd), .slice aoN133 ((canT ((nth ms k).f) ((nth ms k).u) ((nth ms k).ts) x).length) cN133]) sizeOf131 rfl rfl rfl B139 rfl rfl rfl rfl (fun w140 sw140 B142 u141 => ?_))))))
   have zu141 := u141.size
   have B142 : Blk w140 bk127 131 [.int .i64 ((nth ms k).f), .int .i64 ((nth ms k).u), .slice ((nth ms k).ap) ((nth ms k).ps.length) ((nth ms k).cp), .slice ((nth ms k).ad) ((nth ms k).nd) ((nth ms k).cd), .slice aoN133 ((canT ((nth ms k).f) ((nth ms k).u) ((nth ms k).ts) x).length) cN133] := B142
   refine s_next ((Upd.refl _ _).next u141 (fun i hi (h : i = bk127) => show w103.heap.size ≤ i ∨ (False) by first | omega | exact .inr h)) (y_assign rfl rfl rfl (s_nil ?_))
   have D144 := (haN133.keep u141 (fun hb => show ¬ (gN133 = bk127) by first | omega | assumption))
   exact hK100 (bk127, aoN133, gN133, cN133) _ _ ⟨rfl, rfl, rfl, rfl, rfl, rfl, rfl, rfl, trivial⟩ ⟨(((((Upd.refl _ _).nx u104).nx u130).nx u136).next u141 (fun i hi h => by omega)), B142, D144, (fun h9 h8 => by have := hfrN133 h9 h8; show w95.heap.size ≤ gN133; omega), (by show w95.heap.size ≤ bk127; omega)⟩
  intro gg w101 hW
  obtain ⟨t8, ta, tg, tc⟩ := gg
  change WC _ _ _ _ _ _ [(1, .pointer (some ⟨b7, 0, none⟩)), (2, .pointer (some ⟨b5, 0, none⟩)), (4, .pointer (some ⟨b4, 0, none⟩)), (5, .pointer (some ⟨bk2, 0, none⟩)), (6, .pointer (some ⟨bq, 0, none⟩)), (7, .pointer (some ⟨bk90, 0, none⟩)), (8, .pointer (some ⟨t8, 0, none⟩)), (9, .bool (canB r (nth ms k).f (nth ms k).u (nth ms k).ts x))] _
  change Upd (fun _ => False) w95 w101 ∧ (Blk w101 t8 131 [.int .i64 ((nth ms k).f), .int .i64 ((nth ms k).u), .slice ((nth ms k).ap) ((nth ms k).ps.length) ((nth ms k).cp), .slice ((nth ms k).ad) ((nth ms k).nd) ((nth ms k).cd), .slice ta ((canT (nth ms k).f (nth ms k).u (nth ms k).ts x).length) tc]) ∧ (Acc encSp 2 109 pb w101 ta tg tc (canT (nth ms k).f (nth ms k).u (nth ms k).ts x)) ∧ (winM (nth ms k).f (nth ms k).u x = true → pb ≤ tg → w95.heap.size ≤ tg) ∧ (w95.heap.size ≤ t8) at hW
  obtain ⟨u102, I145, I146, I147, I148⟩ := hW
  have zu102 := u102.size
  have ht8 := I145; clear I145
  have htn := I146; clear I146
  have hfrs0 := I147; clear I147
  have hg8 := I148; clear I148
  have lt_tg := htn.lt
  have lt8 := ht8.lt
  refine c_seq fun K150 hK150 => (c_seq fun K151 hK151 => (c_region (t_move rfl rfl rfl (t_not rfl rfl rfl (t_nil' (hK151 _ _ (c_cond rfl (fun g54 => ?_) (fun g54 => ?_))))))))
  ·
   have hmay : ¬ canM r x (nth ms k).mb = true := by show ¬ canB r (nth ms k).f (nth ms k).u (nth ms k).ts x = true; simpa using g54
   refine c_exit (hK79 _ _ (c_seq fun K152 hK152 => (c_seq fun K153 hK153 => (c_region ?_))))
   have B154 := (((((hbq.kx u74).kx u82).kx u93).keep u96 (by omega)).kx u102)
   refine t_load isAgg3 rfl rfl rfl (B154.get rfl) (t_nil' (hK153 _ _ (c_region (t_alloc (cs := [.int .i64 0]) zeroValue3 rfl rfl rfl (fun bk155 w156 ebk155 sbk155 B157 u158 => ?_)))))
   have zu158 := u158.size
   refine t_st (vs := [.int .i64 (k : Int)]) sizeOf3 rfl rfl rfl B157 rfl rfl rfl rfl (fun w160 sw160 B162 u161 => ?_)
   have zu161 := u161.size
   have B162 : Blk w160 bk155 3 [.int .i64 (k : Int)] := B162
   refine t_nil' (hK152 _ _ (c_region (t_load isAgg3 rfl rfl rfl (B162.get rfl) (t_ari rfl rfl rfl rfl rfl (by omega) (t_st (vs := [.int .i64 ((k : Int) + 1)]) sizeOf3 rfl rfl rfl B162 rfl rfl rfl rfl (fun w164 sw164 B166 u165 => ?_))))))
   have zu165 := u165.size
   have B166 : Blk w164 bk155 3 [.int .i64 ((k : Int) + 1)] := B166
   refine t_nil' ?_
   have D168 := ((((((((hmkl.keepB u74 (CellsB.of (CellsIn.none _))).keepB u82 (CellsB.of (CellsIn.none _))).keepB u93 (CellsB.of (CellsIn.none _))).keepB u96 (CellsB.of (B92).cellsIn)).keepB u102 (CellsB.of (CellsIn.none _))).keepB u158 (CellsB.of (CellsIn.none _))).keepB u161 (CellsB.of (B157).cellsIn)).keepB u165 (CellsB.of (B162).cellsIn))
   exact hK59 (k + 1, bk155, ts, dl) _ _ (by show n - (k + 1) < n - k; omega) ⟨rfl, rfl, rfl, rfl, rfl, trivial⟩ ⟨((((((((u61.nx u74).nx u82).nx u93).next u96 (fun i hi (h : i = bk90) => show TP F pb w44 i by first | omega | assumption | exact TP.back (by assumption) hi h | exact Or.inl (by rw [h]; assumption))).nx u102).nx u158).next u161 (fun i hi (h : i = bk155) => show TP F pb w44 i by first | omega | assumption | exact TP.back (by assumption) hi h | exact Or.inl (by rw [h]; assumption))).next u165 (fun i hi (h : i = bk155) => show TP F pb w44 i by first | omega | assumption | exact TP.back (by assumption) hi h | exact Or.inl (by rw [h]; assumption))), (by omega), B166, (by show w0.heap.size ≤ bk155; omega), (by rw [htk, teams_step' hn1 (by rw [List.length_map]; exact him), if_neg (by rw [nth_map' _ him]; exact hmay), List.nil_append]), (hp.hC _ _ _ hCk (((((((((Upd.refl (fun i => MB mb pb i) _).nx u74).nx u82).nx u93).next u96 (fun i hi (h : i = bk90) => show MB mb pb i by first | omega | assumption)).nx u102).nx u158).next u161 (fun i hi (h : i = bk155) => show MB mb pb i by first | omega | assumption)).next u165 (fun i hi (h : i = bk155) => show MB mb pb i by first | omega | assumption))), (hR2 _ _ hRk (((((((((Upd.refl (fun i => MB mb pb i) _).nx u74).nx u82).nx u93).next u96 (fun i hi (h : i = bk90) => show MB mb pb i by first | omega | assumption)).nx u102).nx u158).next u161 (fun i hi (h : i = bk155) => show MB mb pb i by first | omega | assumption)).next u165 (fun i hi (h : i = bk155) => show MB mb pb i by first | omega | assumption))), (hrowk.ext (((((((((Upd.refl (fun _ => False) _).nx u74).nx u82).nx u93).next u96 (fun i hi (h : i = bk90) => show False by first | omega | assumption)).nx u102).nx u158).next u161 (fun i hi (h : i = bk155) => show False by first | omega | assumption)).next u165 (fun i hi (h : i = bk155) => show False by first | omega | assumption))), D168⟩
  have hmay : canM r x (nth ms k).mb = true := by show canB r (nth ms k).f (nth ms k).u (nth ms k).ts x = true; simpa using g54
  have hfrs := hfrs0 (canB_win hmay)
  refine c_skip (hK150 _ _ (c_cut (γ := Nat × Nat × Nat) (fun gg => [(1, .pointer (some ⟨b7, 0, none⟩)), (2, .pointer (some ⟨b5, 0, none⟩)), (4, .pointer (some ⟨b4, 0, none⟩)), (5, .pointer (some ⟨bk2, 0, none⟩)), (6, .pointer (some ⟨bq, 0, none⟩)), (7, .pointer (some ⟨bk90, 0, none⟩)), (8, .pointer (some ⟨t8, 0, none⟩)), (10, .pointer (some ⟨gg.1, 0, none⟩))]) (fun gg w => Upd (fun _ => False) w101 w ∧ (Blk w gg.1 166 [.slice (some ⟨gg.2.1, 0, none⟩) ((nums ++ [(k : Int)]).length) gg.2.2, .int .i64 pl]) ∧ (Acc encI 1 3 w101.heap.size w (some ⟨gg.2.1, 0, none⟩) gg.2.1 gg.2.2 (nums ++ [(k : Int)])) ∧ (w101.heap.size ≤ gg.1)) (fun K170 hK170 => ?_) ?_))
  ·
   refine c_drawnM follows (fun _ => False) (.look 0 (.look 1 (.look 3 (.look 6 (.look 7 (.act 2 (.act 4 (.act 5 (.look 8 (.act 9 (.act 10 .done .stop) .stop)) (.act 9 (.act 5 (.look 8 (.act 10 .done .stop)) .stop) .stop)) (.act 9 (.act 4 (.act 5 (.look 8 (.act 10 .done .stop)) .stop) .stop) .stop)) (.act 4 (.act 2 (.act 5 (.look 8 (.act 9 (.act 10 .done .stop) .stop)) (.act 9 (.act 5 (.look 8 (.act 10 .done .stop)) .stop) .stop)) (.act 9 (.act 2 (.act 5 (.look 8 (.act 10 .done .stop)) .stop) .stop) .stop)) (.act 9 (.act 2 (.act 4 (.act 5 (.look 8 (.act 10 .done .stop)) .stop) .stop) (.act 4 (.act 2 (.act 5 (.look 8 (.act 10 .done .stop)) .stop) .stop) .stop)) .stop)))))))) (by kernel_rfl) fun w173 u174 => ?_
   have zu174 := u174.size
   refine y_field underlying166 rfl sizeOf60 (0) rfl rfl rfl rfl ?_
   have B176 := (((((((B49.keep u61 (show ¬ (TP F pb w44 b7) by first | omega | assumption)).kx u74).kx u82).kx u93).keep u96 (by omega)).kx u102).kx u174)
   refine y_load isAgg60 rfl rfl rfl (B176.get rfl) (fun h => h) ?_
   have B177 := ((((((hbq.kx u74).kx u82).kx u93).keep u96 (by omega)).kx u102).kx u174)
   refine y_load isAgg3 rfl rfl rfl (B177.get rfl) (fun h => h) (y_field underlying166 rfl sizeOf3 (1) rfl rfl rfl rfl (y_load isAgg3 rfl rfl rfl (B176.get rfl) (fun h => h) (s_or ?_ ?_)))
   ·
    refine s_do (t_call own112 rfl rfl rfl rfl (clipI_c nums an cn _ hcapn) (fun v178 w179 r181 => ?_))
    obtain ⟨rfl, u180⟩ := r181
    have zu180 := u180.size
    refine s_next ((Upd.refl _ _).nx u180) (s_or ?_ ?_)
    ·
     refine s_do (t_bslice (ps := [(0, .int .i64 (k : Int))]) (cs := [.int .i64 (k : Int)]) (e := 3) rfl rfl ⟨rfl, rfl⟩ (fun w => by kernel_rfl) (fun bk183 w184 ebk183 sbk183 B185 u186 => ?_))
     have zu186 := u186.size
     refine s_next ((Upd.refl _ _).nx u186) (s_or ?_ ?_)
     ·
      refine s_do ?_
      have D188 := (((((((((D58.keep u61 (fun hb => show ¬ (TP F pb w44 gn) by first | omega | exact hgm hb | (revert hb; assumption))).kE u74).kE u82).kE u93).keep u96 (fun hb => show ¬ (gn = bk90) by first | omega | exact hgm hb | (revert hb; assumption))).kE u102).kE u174).kE u180).kE u186)
      refine t_appClip (z := .int .i64 0) (bytes := 8) (k := 1) (enc := encI) (k : Int) underlying60 (by kernel_rfl) rfl (by decide) (fun _ => rfl) (by intro x; simp [encI, Value.oneCell']) rfl rfl rfl rfl rfl ((D188).sl (fun _ => rfl)).clip B185 (by omega) (by decide) (fun gA192 cA193 w189 A191 u190 gegA192 => ?_)
      have zu190 := u190.size
      have lt_gA192 := A191.lt
      refine s_next ((Upd.refl _ _).nx u190) (y_build (ps := [(0, .slice (some ⟨gA192, 0, none⟩) (((nums ++ [(k : Int)])).length) cA193), (1, .int .i64 pl)]) (v := .agg #[.slice (some ⟨gA192, 0, none⟩) (((nums ++ [(k : Int)])).length) cA193, .int .i64 pl]) rfl rfl ⟨rfl, rfl⟩ (fun w => by kernel_rfl) (s_do (t_alloc (cs := [.slice none 0 0, .int .i64 0]) zeroValue166 rfl rfl rfl (fun bk195 w196 ebk195 sbk195 B197 u198 => ?_))))
      have zu198 := u198.size
      refine s_next ((Upd.refl _ _).nx u198) (s_do (t_st (vs := [.slice (some ⟨gA192, 0, none⟩) (((nums ++ [(k : Int)])).length) cA193, .int .i64 pl]) sizeOf166 rfl rfl rfl B197 rfl rfl rfl rfl (fun w200 sw200 B202 u201 => ?_)))
      have zu201 := u201.size
      have B202 : Blk w200 bk195 166 [.slice (some ⟨gA192, 0, none⟩) (((nums ++ [(k : Int)])).length) cA193, .int .i64 pl] := B202
      refine s_next ((Upd.refl _ _).next u201 (fun i hi (h : i = bk195) => show w173.heap.size ≤ i ∨ (False) by first | omega | exact .inr h)) (s_nil ?_)
      have D204 := ((A191.kE u198).keep u201 (fun hb => show ¬ (gA192 = bk195) by first | omega | assumption))
      exact hK170 (bk195, gA192, cA193) _ _ ⟨rfl, rfl, rfl, rfl, rfl, rfl, rfl, rfl, trivial⟩ ⟨(((((((Upd.refl _ _).nx u174).nx u180).nx u186).nx u190).nx u198).next u201 (fun i hi h => by omega)), B202, (D204.someL (by omega)), (by show w101.heap.size ≤ bk195; omega)⟩
     refine s_do (t_alloc (cs := [.slice none 0 0, .int .i64 0]) zeroValue166 rfl rfl rfl (fun bk205 w206 ebk205 sbk205 B207 u208 => ?_))
     have zu208 := u208.size
     refine s_next ((Upd.refl _ _).nx u208) (s_do ?_)
     have B210 := (B185.kx u208)
     have D211 := ((((((((((D58.keep u61 (fun hb => show ¬ (TP F pb w44 gn) by first | omega | exact hgm hb | (revert hb; assumption))).kE u74).kE u82).kE u93).keep u96 (fun hb => show ¬ (gn = bk90) by first | omega | exact hgm hb | (revert hb; assumption))).kE u102).kE u174).kE u180).kE u186).kE u208)
     refine t_appClip (z := .int .i64 0) (bytes := 8) (k := 1) (enc := encI) (k : Int) underlying60 (by kernel_rfl) rfl (by decide) (fun _ => rfl) (by intro x; simp [encI, Value.oneCell']) rfl rfl rfl rfl rfl ((D211).sl (fun _ => rfl)).clip B210 (by omega) (by decide) (fun gA215 cA216 w212 A214 u213 gegA215 => ?_)
     have zu213 := u213.size
     have lt_gA215 := A214.lt
     refine s_next ((Upd.refl _ _).nx u213) (y_build (ps := [(0, .slice (some ⟨gA215, 0, none⟩) (((nums ++ [(k : Int)])).length) cA216), (1, .int .i64 pl)]) (v := .agg #[.slice (some ⟨gA215, 0, none⟩) (((nums ++ [(k : Int)])).length) cA216, .int .i64 pl]) rfl rfl ⟨rfl, rfl⟩ (fun w => by kernel_rfl) (s_do ?_))
     have B218 := (B207.kx u213)
     refine t_st (vs := [.slice (some ⟨gA215, 0, none⟩) (((nums ++ [(k : Int)])).length) cA216, .int .i64 pl]) sizeOf166 rfl rfl rfl B218 rfl rfl rfl rfl (fun w219 sw219 B221 u220 => ?_)
     have zu220 := u220.size
     have B221 : Blk w219 bk205 166 [.slice (some ⟨gA215, 0, none⟩) (((nums ++ [(k : Int)])).length) cA216, .int .i64 pl] := B221
     refine s_next ((Upd.refl _ _).next u220 (fun i hi (h : i = bk205) => show w173.heap.size ≤ i ∨ (False) by first | omega | exact .inr h)) (s_nil ?_)
     have D223 := (A214.keep u220 (fun hb => show ¬ (gA215 = bk205) by first | omega | assumption))
     exact hK170 (bk205, gA215, cA216) _ _ ⟨rfl, rfl, rfl, rfl, rfl, rfl, rfl, rfl, trivial⟩ ⟨(((((((Upd.refl _ _).nx u174).nx u180).nx u186).nx u208).nx u213).next u220 (fun i hi h => by omega)), B221, (D223.someL (by omega)), (by show w101.heap.size ≤ bk205; omega)⟩
    refine s_do (t_alloc (cs := [.slice none 0 0, .int .i64 0]) zeroValue166 rfl rfl rfl (fun bk224 w225 ebk224 sbk224 B226 u227 => ?_))
    have zu227 := u227.size
    refine s_next ((Upd.refl _ _).nx u227) (s_do (t_bslice (ps := [(0, .int .i64 (k : Int))]) (cs := [.int .i64 (k : Int)]) (e := 3) rfl rfl ⟨rfl, rfl⟩ (fun w => by kernel_rfl) (fun bk229 w230 ebk229 sbk229 B231 u232 => ?_)))
    have zu232 := u232.size
    refine s_next ((Upd.refl _ _).nx u232) (s_do ?_)
    have D234 := ((((((((((D58.keep u61 (fun hb => show ¬ (TP F pb w44 gn) by first | omega | exact hgm hb | (revert hb; assumption))).kE u74).kE u82).kE u93).keep u96 (fun hb => show ¬ (gn = bk90) by first | omega | exact hgm hb | (revert hb; assumption))).kE u102).kE u174).kE u180).kE u227).kE u232)
    refine t_appClip (z := .int .i64 0) (bytes := 8) (k := 1) (enc := encI) (k : Int) underlying60 (by kernel_rfl) rfl (by decide) (fun _ => rfl) (by intro x; simp [encI, Value.oneCell']) rfl rfl rfl rfl rfl ((D234).sl (fun _ => rfl)).clip B231 (by omega) (by decide) (fun gA238 cA239 w235 A237 u236 gegA238 => ?_)
    have zu236 := u236.size
    have lt_gA238 := A237.lt
    refine s_next ((Upd.refl _ _).nx u236) (y_build (ps := [(0, .slice (some ⟨gA238, 0, none⟩) (((nums ++ [(k : Int)])).length) cA239), (1, .int .i64 pl)]) (v := .agg #[.slice (some ⟨gA238, 0, none⟩) (((nums ++ [(k : Int)])).length) cA239, .int .i64 pl]) rfl rfl ⟨rfl, rfl⟩ (fun w => by kernel_rfl) (s_do ?_))
    have B241 := ((B226.kx u232).kx u236)
    refine t_st (vs := [.slice (some ⟨gA238, 0, none⟩) (((nums ++ [(k : Int)])).length) cA239, .int .i64 pl]) sizeOf166 rfl rfl rfl B241 rfl rfl rfl rfl (fun w242 sw242 B244 u243 => ?_)
    have zu243 := u243.size
    have B244 : Blk w242 bk224 166 [.slice (some ⟨gA238, 0, none⟩) (((nums ++ [(k : Int)])).length) cA239, .int .i64 pl] := B244
    refine s_next ((Upd.refl _ _).next u243 (fun i hi (h : i = bk224) => show w173.heap.size ≤ i ∨ (False) by first | omega | exact .inr h)) (s_nil ?_)
    have D246 := (A237.keep u243 (fun hb => show ¬ (gA238 = bk224) by first | omega | assumption))
    exact hK170 (bk224, gA238, cA239) _ _ ⟨rfl, rfl, rfl, rfl, rfl, rfl, rfl, rfl, trivial⟩ ⟨(((((((Upd.refl _ _).nx u174).nx u180).nx u227).nx u232).nx u236).next u243 (fun i hi h => by omega)), B244, (D246.someL (by omega)), (by show w101.heap.size ≤ bk224; omega)⟩
   refine s_or ?_ ?_
   ·
    refine s_do (t_bslice (ps := [(0, .int .i64 (k : Int))]) (cs := [.int .i64 (k : Int)]) (e := 3) rfl rfl ⟨rfl, rfl⟩ (fun w => by kernel_rfl) (fun bk247 w248 ebk247 sbk247 B249 u250 => ?_))
    have zu250 := u250.size
    refine s_next ((Upd.refl _ _).nx u250) (s_or ?_ ?_)
    ·
     refine s_do (t_call own112 rfl rfl rfl rfl (clipI_c nums an cn _ hcapn) (fun v252 w253 r255 => ?_))
     obtain ⟨rfl, u254⟩ := r255
     have zu254 := u254.size
     refine s_next ((Upd.refl _ _).nx u254) (s_or ?_ ?_)
     ·
      refine s_do ?_
      have B257 := (B249.kx u254)
      have D258 := (((((((((D58.keep u61 (fun hb => show ¬ (TP F pb w44 gn) by first | omega | exact hgm hb | (revert hb; assumption))).kE u74).kE u82).kE u93).keep u96 (fun hb => show ¬ (gn = bk90) by first | omega | exact hgm hb | (revert hb; assumption))).kE u102).kE u174).kE u250).kE u254)
      refine t_appClip (z := .int .i64 0) (bytes := 8) (k := 1) (enc := encI) (k : Int) underlying60 (by kernel_rfl) rfl (by decide) (fun _ => rfl) (by intro x; simp [encI, Value.oneCell']) rfl rfl rfl rfl rfl ((D258).sl (fun _ => rfl)).clip B257 (by omega) (by decide) (fun gA262 cA263 w259 A261 u260 gegA262 => ?_)
      have zu260 := u260.size
      have lt_gA262 := A261.lt
      refine s_next ((Upd.refl _ _).nx u260) (y_build (ps := [(0, .slice (some ⟨gA262, 0, none⟩) (((nums ++ [(k : Int)])).length) cA263), (1, .int .i64 pl)]) (v := .agg #[.slice (some ⟨gA262, 0, none⟩) (((nums ++ [(k : Int)])).length) cA263, .int .i64 pl]) rfl rfl ⟨rfl, rfl⟩ (fun w => by kernel_rfl) (s_do (t_alloc (cs := [.slice none 0 0, .int .i64 0]) zeroValue166 rfl rfl rfl (fun bk265 w266 ebk265 sbk265 B267 u268 => ?_))))
      have zu268 := u268.size
      refine s_next ((Upd.refl _ _).nx u268) (s_do (t_st (vs := [.slice (some ⟨gA262, 0, none⟩) (((nums ++ [(k : Int)])).length) cA263, .int .i64 pl]) sizeOf166 rfl rfl rfl B267 rfl rfl rfl rfl (fun w270 sw270 B272 u271 => ?_)))
      have zu271 := u271.size
      have B272 : Blk w270 bk265 166 [.slice (some ⟨gA262, 0, none⟩) (((nums ++ [(k : Int)])).length) cA263, .int .i64 pl] := B272
      refine s_next ((Upd.refl _ _).next u271 (fun i hi (h : i = bk265) => show w173.heap.size ≤ i ∨ (False) by first | omega | exact .inr h)) (s_nil ?_)
      have D274 := ((A261.kE u268).keep u271 (fun hb => show ¬ (gA262 = bk265) by first | omega | assumption))
      exact hK170 (bk265, gA262, cA263) _ _ ⟨rfl, rfl, rfl, rfl, rfl, rfl, rfl, rfl, trivial⟩ ⟨(((((((Upd.refl _ _).nx u174).nx u250).nx u254).nx u260).nx u268).next u271 (fun i hi h => by omega)), B272, (D274.someL (by omega)), (by show w101.heap.size ≤ bk265; omega)⟩
     refine s_do (t_alloc (cs := [.slice none 0 0, .int .i64 0]) zeroValue166 rfl rfl rfl (fun bk275 w276 ebk275 sbk275 B277 u278 => ?_))
     have zu278 := u278.size
     refine s_next ((Upd.refl _ _).nx u278) (s_do ?_)
     have B280 := ((B249.kx u254).kx u278)
     have D281 := ((((((((((D58.keep u61 (fun hb => show ¬ (TP F pb w44 gn) by first | omega | exact hgm hb | (revert hb; assumption))).kE u74).kE u82).kE u93).keep u96 (fun hb => show ¬ (gn = bk90) by first | omega | exact hgm hb | (revert hb; assumption))).kE u102).kE u174).kE u250).kE u254).kE u278)
     refine t_appClip (z := .int .i64 0) (bytes := 8) (k := 1) (enc := encI) (k : Int) underlying60 (by kernel_rfl) rfl (by decide) (fun _ => rfl) (by intro x; simp [encI, Value.oneCell']) rfl rfl rfl rfl rfl ((D281).sl (fun _ => rfl)).clip B280 (by omega) (by decide) (fun gA285 cA286 w282 A284 u283 gegA285 => ?_)
     have zu283 := u283.size
     have lt_gA285 := A284.lt
     refine s_next ((Upd.refl _ _).nx u283) (y_build (ps := [(0, .slice (some ⟨gA285, 0, none⟩) (((nums ++ [(k : Int)])).length) cA286), (1, .int .i64 pl)]) (v := .agg #[.slice (some ⟨gA285, 0, none⟩) (((nums ++ [(k : Int)])).length) cA286, .int .i64 pl]) rfl rfl ⟨rfl, rfl⟩ (fun w => by kernel_rfl) (s_do ?_))
     have B288 := (B277.kx u283)
     refine t_st (vs := [.slice (some ⟨gA285, 0, none⟩) (((nums ++ [(k : Int)])).length) cA286, .int .i64 pl]) sizeOf166 rfl rfl rfl B288 rfl rfl rfl rfl (fun w289 sw289 B291 u290 => ?_)
     have zu290 := u290.size
     have B291 : Blk w289 bk275 166 [.slice (some ⟨gA285, 0, none⟩) (((nums ++ [(k : Int)])).length) cA286, .int .i64 pl] := B291
     refine s_next ((Upd.refl _ _).next u290 (fun i hi (h : i = bk275) => show w173.heap.size ≤ i ∨ (False) by first | omega | exact .inr h)) (s_nil ?_)
     have D293 := (A284.keep u290 (fun hb => show ¬ (gA285 = bk275) by first | omega | assumption))
     exact hK170 (bk275, gA285, cA286) _ _ ⟨rfl, rfl, rfl, rfl, rfl, rfl, rfl, rfl, trivial⟩ ⟨(((((((Upd.refl _ _).nx u174).nx u250).nx u254).nx u278).nx u283).next u290 (fun i hi h => by omega)), B291, (D293.someL (by omega)), (by show w101.heap.size ≤ bk275; omega)⟩
    refine s_do (t_alloc (cs := [.slice none 0 0, .int .i64 0]) zeroValue166 rfl rfl rfl (fun bk294 w295 ebk294 sbk294 B296 u297 => ?_))
    have zu297 := u297.size
    refine s_next ((Upd.refl _ _).nx u297) (s_do (t_call own112 rfl rfl rfl rfl (clipI_c nums an cn _ hcapn) (fun v299 w300 r302 => ?_)))
    obtain ⟨rfl, u301⟩ := r302
    have zu301 := u301.size
    refine s_next ((Upd.refl _ _).nx u301) (s_do ?_)
    have B304 := ((B249.kx u297).kx u301)
    have D305 := ((((((((((D58.keep u61 (fun hb => show ¬ (TP F pb w44 gn) by first | omega | exact hgm hb | (revert hb; assumption))).kE u74).kE u82).kE u93).keep u96 (fun hb => show ¬ (gn = bk90) by first | omega | exact hgm hb | (revert hb; assumption))).kE u102).kE u174).kE u250).kE u297).kE u301)
    refine t_appClip (z := .int .i64 0) (bytes := 8) (k := 1) (enc := encI) (k : Int) underlying60 (by kernel_rfl) rfl (by decide) (fun _ => rfl) (by intro x; simp [encI, Value.oneCell']) rfl rfl rfl rfl rfl ((D305).sl (fun _ => rfl)).clip B304 (by omega) (by decide) (fun gA309 cA310 w306 A308 u307 gegA309 => ?_)
    have zu307 := u307.size
    have lt_gA309 := A308.lt
    refine s_next ((Upd.refl _ _).nx u307) (y_build (ps := [(0, .slice (some ⟨gA309, 0, none⟩) (((nums ++ [(k : Int)])).length) cA310), (1, .int .i64 pl)]) (v := .agg #[.slice (some ⟨gA309, 0, none⟩) (((nums ++ [(k : Int)])).length) cA310, .int .i64 pl]) rfl rfl ⟨rfl, rfl⟩ (fun w => by kernel_rfl) (s_do ?_))
    have B312 := ((B296.kx u301).kx u307)
    refine t_st (vs := [.slice (some ⟨gA309, 0, none⟩) (((nums ++ [(k : Int)])).length) cA310, .int .i64 pl]) sizeOf166 rfl rfl rfl B312 rfl rfl rfl rfl (fun w313 sw313 B315 u314 => ?_)
    have zu314 := u314.size
    have B315 : Blk w313 bk294 166 [.slice (some ⟨gA309, 0, none⟩) (((nums ++ [(k : Int)])).length) cA310, .int .i64 pl] := B315
    refine s_next ((Upd.refl _ _).next u314 (fun i hi (h : i = bk294) => show w173.heap.size ≤ i ∨ (False) by first | omega | exact .inr h)) (s_nil ?_)
    have D317 := (A308.keep u314 (fun hb => show ¬ (gA309 = bk294) by first | omega | assumption))
    exact hK170 (bk294, gA309, cA310) _ _ ⟨rfl, rfl, rfl, rfl, rfl, rfl, rfl, rfl, trivial⟩ ⟨(((((((Upd.refl _ _).nx u174).nx u250).nx u297).nx u301).nx u307).next u314 (fun i hi h => by omega)), B315, (D317.someL (by omega)), (by show w101.heap.size ≤ bk294; omega)⟩
   refine s_do (t_alloc (cs := [.slice none 0 0, .int .i64 0]) zeroValue166 rfl rfl rfl (fun bk318 w319 ebk318 sbk318 B320 u321 => ?_))
   have zu321 := u321.size
   refine s_next ((Upd.refl _ _).nx u321) (s_or ?_ ?_)
   ·
    refine s_do (t_call own112 rfl rfl rfl rfl (clipI_c nums an cn _ hcapn) (fun v323 w324 r326 => ?_))
    obtain ⟨rfl, u325⟩ := r326
    have zu325 := u325.size
    refine s_next ((Upd.refl _ _).nx u325) (s_do (t_bslice (ps := [(0, .int .i64 (k : Int))]) (cs := [.int .i64 (k : Int)]) (e := 3) rfl rfl ⟨rfl, rfl⟩ (fun w => by kernel_rfl) (fun bk328 w329 ebk328 sbk328 B330 u331 => ?_)))
    have zu331 := u331.size
    refine s_next ((Upd.refl _ _).nx u331) (s_do ?_)
    have D333 := ((((((((((D58.keep u61 (fun hb => show ¬ (TP F pb w44 gn) by first | omega | exact hgm hb | (revert hb; assumption))).kE u74).kE u82).kE u93).keep u96 (fun hb => show ¬ (gn = bk90) by first | omega | exact hgm hb | (revert hb; assumption))).kE u102).kE u174).kE u321).kE u325).kE u331)
    refine t_appClip (z := .int .i64 0) (bytes := 8) (k := 1) (enc := encI) (k : Int) underlying60 (by kernel_rfl) rfl (by decide) (fun _ => rfl) (by intro x; simp [encI, Value.oneCell']) rfl rfl rfl rfl rfl ((D333).sl (fun _ => rfl)).clip B330 (by omega) (by decide) (fun gA337 cA338 w334 A336 u335 gegA337 => ?_)
    have zu335 := u335.size
    have lt_gA337 := A336.lt
    refine s_next ((Upd.refl _ _).nx u335) (y_build (ps := [(0, .slice (some ⟨gA337, 0, none⟩) (((nums ++ [(k : Int)])).length) cA338), (1, .int .i64 pl)]) (v := .agg #[.slice (some ⟨gA337, 0, none⟩) (((nums ++ [(k : Int)])).length) cA338, .int .i64 pl]) rfl rfl ⟨rfl, rfl⟩ (fun w => by kernel_rfl) (s_do ?_))
    have B340 := (((B320.kx u325).kx u331).kx u335)
    refine t_st (vs := [.slice (some ⟨gA337, 0, none⟩) (((nums ++ [(k : Int)])).length) cA338, .int .i64 pl]) sizeOf166 rfl rfl rfl B340 rfl rfl rfl rfl (fun w341 sw341 B343 u342 => ?_)
    have zu342 := u342.size
    have B343 : Blk w341 bk318 166 [.slice (some ⟨gA337, 0, none⟩) (((nums ++ [(k : Int)])).length) cA338, .int .i64 pl] := B343
    refine s_next ((Upd.refl _ _).next u342 (fun i hi (h : i = bk318) => show w173.heap.size ≤ i ∨ (False) by first | omega | exact .inr h)) (s_nil ?_)
    have D345 := (A336.keep u342 (fun hb => show ¬ (gA337 = bk318) by first | omega | assumption))
    exact hK170 (bk318, gA337, cA338) _ _ ⟨rfl, rfl, rfl, rfl, rfl, rfl, rfl, rfl, trivial⟩ ⟨(((((((Upd.refl _ _).nx u174).nx u321).nx u325).nx u331).nx u335).next u342 (fun i hi h => by omega)), B343, (D345.someL (by omega)), (by show w101.heap.size ≤ bk318; omega)⟩
   refine s_do (t_bslice (ps := [(0, .int .i64 (k : Int))]) (cs := [.int .i64 (k : Int)]) (e := 3) rfl rfl ⟨rfl, rfl⟩ (fun w => by kernel_rfl) (fun bk346 w347 ebk346 sbk346 B348 u349 => ?_))
   have zu349 := u349.size
   refine s_next ((Upd.refl _ _).nx u349) (s_do (t_call own112 rfl rfl rfl rfl (clipI_c nums an cn _ hcapn) (fun v351 w352 r354 => ?_)))
   obtain ⟨rfl, u353⟩ := r354
   have zu353 := u353.size
   refine s_next ((Upd.refl _ _).nx u353) (s_do ?_)
   have B356 := (B348.kx u353)
   have D357 := ((((((((((D58.keep u61 (fun hb => show ¬ (TP F pb w44 gn) by first | omega | exact hgm hb | (revert hb; assumption))).kE u74).kE u82).kE u93).keep u96 (fun hb => show ¬ (gn = bk90) by first | omega | exact hgm hb | (revert hb; assumption))).kE u102).kE u174).kE u321).kE u349).kE u353)
   refine t_appClip (z := .int .i64 0) (bytes := 8) (k := 1) (enc := encI) (k : Int) underlying60 (by kernel_rfl) rfl (by decide) (fun _ => rfl) (by intro x; simp [encI, Value.oneCell']) rfl rfl rfl rfl rfl ((D357).sl (fun _ => rfl)).clip B356 (by omega) (by decide) (fun gA361 cA362 w358 A360 u359 gegA361 => ?_)
   have zu359 := u359.size
   have lt_gA361 := A360.lt
   refine s_next ((Upd.refl _ _).nx u359) (y_build (ps := [(0, .slice (some ⟨gA361, 0, none⟩) (((nums ++ [(k : Int)])).length) cA362), (1, .int .i64 pl)]) (v := .agg #[.slice (some ⟨gA361, 0, none⟩) (((nums ++ [(k : Int)])).length) cA362, .int .i64 pl]) rfl rfl ⟨rfl, rfl⟩ (fun w => by kernel_rfl) (s_do ?_))
   have B364 := (((B320.kx u349).kx u353).kx u359)
   refine t_st (vs := [.slice (some ⟨gA361, 0, none⟩) (((nums ++ [(k : Int)])).length) cA362, .int .i64 pl]) sizeOf166 rfl rfl rfl B364 rfl rfl rfl rfl (fun w365 sw365 B367 u366 => ?_)
   have zu366 := u366.size
   have B367 : Blk w365 bk318 166 [.slice (some ⟨gA361, 0, none⟩) (((nums ++ [(k : Int)])).length) cA362, .int .i64 pl] := B367
   refine s_next ((Upd.refl _ _).next u366 (fun i hi (h : i = bk318) => show w173.heap.size ≤ i ∨ (False) by first | omega | exact .inr h)) (s_nil ?_)
   have D369 := (A360.keep u366 (fun hb => show ¬ (gA361 = bk318) by first | omega | assumption))
   exact hK170 (bk318, gA361, cA362) _ _ ⟨rfl, rfl, rfl, rfl, rfl, rfl, rfl, rfl, trivial⟩ ⟨(((((((Upd.refl _ _).nx u174).nx u321).nx u349).nx u353).nx u359).next u366 (fun i hi h => by omega)), B367, (D369.someL (by omega)), (by show w101.heap.size ≤ bk318; omega)⟩
  intro gg w171 hW
  obtain ⟨t10, gA, cA⟩ := gg
  change WC _ _ _ _ _ _ [(1, .pointer (some ⟨b7, 0, none⟩)), (2, .pointer (some ⟨b5, 0, none⟩)), (4, .pointer (some ⟨b4, 0, none⟩)), (5, .pointer (some ⟨bk2, 0, none⟩)), (6, .pointer (some ⟨bq, 0, none⟩)), (7, .pointer (some ⟨bk90, 0, none⟩)), (8, .pointer (some ⟨t8, 0, none⟩)), (10, .pointer (some ⟨t10, 0, none⟩))] _
  change Upd (fun _ => False) w101 w171 ∧ (Blk w171 t10 166 [.slice (some ⟨gA, 0, none⟩) ((nums ++ [(k : Int)]).length) cA, .int .i64 pl]) ∧ (Acc encI 1 3 w101.heap.size w171 (some ⟨gA, 0, none⟩) gA cA (nums ++ [(k : Int)])) ∧ (w101.heap.size ≤ t10) at hW
  obtain ⟨u172, I370, I371, I372⟩ := hW
  have zu172 := u172.size
  have ht10 := I370; clear I370
  have hnx := I371; clear I371
  have hg10 := I372; clear I372
  have lt_gA := hnx.lt
  have lt10 := ht10.lt
  have hgt10 : w101.heap.size ≤ gA → gA ≠ t10 := hnx.neBlk ht10 (by decide)
  have hgAb : w101.heap.size ≤ gA := hnx.at_.elim (fun q9 => by cases q9.1) (fun q9 => q9.2.1)
  have hcb10 := ht10
  refine c_cut (γ := Int) (fun q => [(1, .pointer (some ⟨b7, 0, none⟩)), (2, .pointer (some ⟨b5, 0, none⟩)), (4, .pointer (some ⟨b4, 0, none⟩)), (5, .pointer (some ⟨bk2, 0, none⟩)), (6, .pointer (some ⟨bq, 0, none⟩)), (7, .pointer (some ⟨bk90, 0, none⟩)), (8, .pointer (some ⟨t8, 0, none⟩)), (10, .pointer (some ⟨t10, 0, none⟩))]) (fun q w => Upd (fun i => i = t10) w171 w ∧ Blk w t10 166 [.slice (some ⟨gA, 0, none⟩) ((nums ++ [(k : Int)]).length) cA, .int .i64 q] ∧ (q = pl + pltI (nth ms k).mb x)) (fun K375 hK375 => ?_) ?_
  ·
   refine c_seq fun K378 hK378 => (c_region ?_)
   have B379 := ((B97.kx u102).kx u172)
   refine t_loadN (vs := [.int .i64 ((nth ms k).f), .int .i64 ((nth ms k).u), .slice ((nth ms k).ap) ((nth ms k).ps.length) ((nth ms k).cp), .slice ((nth ms k).ad) ((nth ms k).nd) ((nth ms k).cd), .slice ((nth ms k).at_) ((nth ms k).ts.length) ((nth ms k).ct)]) isAgg131 sizeOf131 rfl rfl rfl (B379.at.sub 0 5) rfl ?_
   have B380 := (((((((B51.keep u61 (show ¬ (TP F pb w44 b5) by first | omega | assumption)).kx u74).kx u82).kx u93).keep u96 (by omega)).kx u102).kx u172)
   refine t_loadN (vs := [.int .i64 x.r, .int .i64 x.t.bl, .int .i64 x.t.bh, .int .i64 x.t.el, .int .i64 x.t.eh, .int .i64 x.h, .int .i64 x.p]) isAgg68 sizeOf68 rfl rfl rfl (B380.at.sub 0 7) rfl ?_
   have D381 := ((((((hmm.hp.kE u74).kE u82).kE u93).keep u96 (fun h9 => by have := hmm.hb h9; show ¬ ((nth ms k).bp = bk90); omega)).kE u102).kE u172)
   refine t_call own68 rfl rfl rfl rfl (pilots_c ((nth ms k).f) ((nth ms k).u) ((nth ms k).ps) ((nth ms k).ap) (nth ms k).bp ((nth ms k).op) ((nth ms k).cp) ((nth ms k).ad) ((nth ms k).nd) ((nth ms k).cd) ((nth ms k).at_) ((nth ms k).ts.length) ((nth ms k).ct) x _ D381 (by have := hmm.hpl; omega)) (fun v382 w383 r385 => ?_)
   obtain ⟨rfl, u384⟩ := r385
   have zu384 := u384.size
   refine t_nil' (hK378 _ _ (c_cond rfl (fun g66 => ?_) (fun g66 => ?_)))
   ·
    refine c_region (t_field underlying166 rfl sizeOf3 (1) rfl rfl rfl rfl ?_)
    have B387 := (ht10.kx u384)
    refine t_load isAgg3 rfl rfl rfl (B387.get rfl) (t_ari rfl rfl rfl rfl rfl (by omega) (t_field underlying166 rfl sizeOf3 (1) rfl rfl rfl rfl (t_st (vs := [.int .i64 (pl + 1)]) sizeOf3 rfl rfl rfl B387 rfl rfl rfl rfl (fun w388 sw388 B390 u389 => ?_))))
    have zu389 := u389.size
    have B390 : Blk w388 t10 166 [.slice (some ⟨gA, 0, none⟩) ((nums ++ [(k : Int)]).length) cA, .int .i64 (pl + 1)] := B390
    refine t_nil' ?_
    exact hK375 (pl + 1) _ _ ⟨rfl, rfl, rfl, rfl, rfl, rfl, rfl, rfl, trivial⟩ ⟨(((Upd.refl _ _).nx u384).next u389 (fun i hi h => by omega)), B390, (by show _ = pl + (if pltP (nth ms k).ps x = true then 1 else 0); rw [if_pos g66])⟩
   refine c_skip ?_
   have B392 := (ht10.kx u384)
   exact hK375 pl _ _ ⟨rfl, rfl, rfl, rfl, rfl, rfl, rfl, rfl, trivial⟩ ⟨((Upd.refl _ _).nx u384), B392, (by show _ = pl + (if pltP (nth ms k).ps x = true then 1 else 0); rw [if_neg (by simp [g66])]; omega)⟩
  intro q w376 hW
  obtain ⟨u377, I393, I394⟩ := hW
  have zu377 := u377.size
  have hq := I394; clear I394
  refine c_seq fun K396 hK396 => (c_drawnM follows (fun i => i = mb) (.look 0 (.look 1 (.look 2 (.look 3 (.look 4 (.look 5 (.look 6 (.act 7 .done .stop)))))))) (by kernel_rfl) fun w397 u398 => ?_)
  have zu398 := u398.size
  have B400 := (((((((((B53.keep u61 (show ¬ (TP F pb w44 b4) by first | omega | assumption)).kx u74).kx u82).kx u93).keep u96 (by omega)).kx u102).kx u172).keep u377 (by omega)).kx u398)
  refine y_load isAgg117 rfl rfl rfl (B400.get rfl) (by show ¬ (b4 = mb); first | omega | assumption) (y_nilchk rfl rfl rfl (y_field underlying144 rfl sizeOf142 (5) rfl rfl rfl rfl ?_))
  have B401 := ((((((((hrowk.blk.kx u74).kx u82).kx u93).keep u96 (by omega)).kx u102).kx u172).keep u377 (by omega)).kx u398)
  refine y_load isAgg142 rfl rfl rfl (B401.get rfl) (by show ¬ (c = mb); first | omega | assumption) ?_
  have B402 := ((((((((hbq.kx u74).kx u82).kx u93).keep u96 (by omega)).kx u102).kx u172).keep u377 (by omega)).kx u398)
  refine y_load isAgg3 rfl rfl rfl (B402.get rfl) (by show ¬ (bq = mb); first | omega | assumption) ?_
  have B403 := (((ht8.kx u172).keep u377 (by omega)).kx u398)
  refine y_loadN (vs := [.int .i64 ((nth ms k).f), .int .i64 ((nth ms k).u), .slice ((nth ms k).ap) ((nth ms k).ps.length) ((nth ms k).cp), .slice ((nth ms k).ad) ((nth ms k).nd) ((nth ms k).cd), .slice ta ((canT (nth ms k).f (nth ms k).u (nth ms k).ts x).length) tc]) isAgg131 sizeOf131 rfl rfl rfl (B403.at.sub 0 5) rfl (by show ¬ (t8 = mb); first | omega | assumption) ?_
  have D404 := ((((((D87.kE u93).keep u96 (fun hb => show ¬ (mb = bk90) by first | omega | assumption)).kE u102).kE u172).keep u377 (fun hb => show ¬ (mb = t10) by first | omega | assumption)).kE u398)
  have i405 : k < ms.length := (by omega)
  refine y_index (j := k) underlying142 sizeOf131 rfl rfl rfl rfl ((D404.sl (fun _ => rfl)).addr (by omega)) rfl (by omega) (s_do (t_storeA (vs := [.int .i64 ((nth ms k).f), .int .i64 ((nth ms k).u), .slice ((nth ms k).ap) ((nth ms k).ps.length) ((nth ms k).cp), .slice ((nth ms k).ad) ((nth ms k).nd) ((nth ms k).cd), .slice ta ((canT (nth ms k).f (nth ms k).u (nth ms k).ts x).length) tc]) (j := k) (o' := 0) (k := 5) ((nth ms k).put x ta tg tc) (fun _ => rfl) sizeOf131 rfl rfl (by omega) rfl D404 (by first | omega | (simp only [List.length_set]; omega)) rfl rfl (by decide) (by simp [Value.oneCell']) rfl (fun w406 R408 u407 => ?_)))
  have zu407 := u407.size
  refine s_next ((Upd.refl _ _).next u407 (fun i hi (h : i = mb) => show w397.heap.size ≤ i ∨ (i = mb) by first | omega | exact .inr h)) (s_nil (hK396 _ _ (c_seq fun K410 hK410 => (c_seq fun K411 hK411 => (c_region ?_)))))
  have B412 := ((((((((((B53.keep u61 (show ¬ (TP F pb w44 b4) by first | omega | assumption)).kx u74).kx u82).kx u93).keep u96 (by omega)).kx u102).kx u172).keep u377 (by omega)).kx u398).keep u407 (by omega))
  refine t_load isAgg117 rfl rfl rfl (B412.get rfl) ?_
  have B413 := ((((((((((B51.keep u61 (show ¬ (TP F pb w44 b5) by first | omega | assumption)).kx u74).kx u82).kx u93).keep u96 (by omega)).kx u102).kx u172).keep u377 (by omega)).kx u398).keep u407 (by omega))
  refine t_loadN (vs := [.int .i64 x.r, .int .i64 x.t.bl, .int .i64 x.t.bh, .int .i64 x.t.el, .int .i64 x.t.eh, .int .i64 x.h, .int .i64 x.p]) isAgg68 sizeOf68 rfl rfl rfl (B413.at.sub 0 7) rfl ?_
  have B414 := (((((((((hbq.kx u74).kx u82).kx u93).keep u96 (by omega)).kx u102).kx u172).keep u377 (by omega)).kx u398).keep u407 (by omega))
  refine t_load isAgg3 rfl rfl rfl (B414.get rfl) (t_ari rfl rfl rfl rfl rfl (by omega) ?_)
  have B415 := ((I393.kx u398).keep u407 (by omega))
  refine t_loadN (vs := [.slice (some ⟨gA, 0, none⟩) ((nums ++ [(k : Int)]).length) cA, .int .i64 q]) isAgg166 sizeOf166 rfl rfl rfl (B415.at.sub 0 2) rfl (t_call own90 rfl rfl rfl rfl (teams_c c x ((k : Int) + 1) (nums ++ [(k : Int)]) (some ⟨gA, 0, none⟩) cA q _) (fun v416 w417 r419 => ?_))
  obtain ⟨⟨bT7, bT5, bT6, bT4, rfl, hT7, hT5, hT6, hT4, gT7, gT5, gT6, gT4⟩, u418⟩ := r419
  have zu418 := u418.size
  have E420 := ((((((((E75.nx u82).nx u93).next u96 (fun i hi (h : i = bk90) => show TP F pb w0 i by first | omega | assumption | exact TP.back (by assumption) hi h | exact Or.inl (by rw [h]; assumption))).nx u102).nx u172).next u377 (fun i hi (h : i = t10) => show TP F pb w0 i by first | omega | assumption | exact TP.back (by assumption) hi h | exact Or.inl (by rw [h]; assumption))).nx u398).next u407 (fun i hi (h : i = mb) => show TP F pb w0 i by first | omega | assumption | exact TP.back (by assumption) hi h | exact Or.inl (by rw [h]; assumption))).nx u418
  refine t_nil' (hK411 _ _ (c_block ?_))
  have hPR : Upd (TP F pb w44) w44 w417 := (((((((((((u61).nx u74).nx u82).nx u93).next u96 (fun i hi (h : i = bk90) => show TP F pb w44 i by first | omega | assumption | exact TP.back (by assumption) hi h | exact Or.inl (by rw [h]; assumption))).nx u102).nx u172).next u377 (fun i hi (h : i = t10) => show TP F pb w44 i by first | omega | assumption | exact TP.back (by assumption) hi h | exact Or.inl (by rw [h]; assumption))).nx u398).next u407 (fun i hi (h : i = mb) => show TP F pb w44 i by first | omega | assumption | exact TP.back (by assumption) hi h | exact Or.inl (by rw [h]; assumption))).nx u418)
  have hPR0 : Upd (TP F pb w0) w0 w417 := E420
  have hCR := (hp.hC _ _ _ hCk (((((((((((Upd.refl (fun i => MB mb pb i) _).nx u74).nx u82).nx u93).next u96 (fun i hi (h : i = bk90) => show MB mb pb i by first | omega | assumption)).nx u102).nx u172).next u377 (fun i hi (h : i = t10) => show MB mb pb i by first | omega | assumption)).nx u398).next u407 (fun i hi (h : i = mb) => show MB mb pb i by first | omega | assumption)).nx u418))
  have hRR := (hR2 _ _ hRk (((((((((((Upd.refl (fun i => MB mb pb i) _).nx u74).nx u82).nx u93).next u96 (fun i hi (h : i = bk90) => show MB mb pb i by first | omega | assumption)).nx u102).nx u172).next u377 (fun i hi (h : i = t10) => show MB mb pb i by first | omega | assumption)).nx u398).next u407 (fun i hi (h : i = mb) => show MB mb pb i by first | omega | assumption)).nx u418))
  have D421 := (((((htn.kE u172).keep u377 (fun hb => show ¬ (tg = t10) by first | omega | assumption)).kE u398).keep u407 (fun hb => show ¬ (tg = mb) by first | omega | assumption)).kE u418)
  have D422 := (R408.kE u418)
  have B423 := ((((((((((hrowk.blk.kx u74).kx u82).kx u93).keep u96 (by omega)).kx u102).kx u172).keep u377 (by omega)).kx u398).keep u407 (by omega)).kx u418)
  have D424 := ((((((((((hmm.hp.kE u74).kE u82).kE u93).keep u96 (fun h9 => by have := hmm.hb h9; show ¬ ((nth ms k).bp = bk90); omega)).kE u102).kE u172).keep u377 (fun h9 => by have := hmm.hb h9; show ¬ ((nth ms k).bp = t10); omega)).kE u398).keep u407 (fun h9 => by have := hmm.hb h9; show ¬ ((nth ms k).bp = mb); omega)).kE u418)
  have uMB : Upd (MB mb pb) w60 w417 := (((((((((((Upd.refl (MB mb pb) _).nx u74).nx u82).nx u93).next u96 (fun i hi (h : i = bk90) => show MB mb pb i by first | omega | assumption)).nx u102).nx u172).next u377 (fun i hi (h : i = t10) => show MB mb pb i by first | omega | assumption)).nx u398).next u407 (fun i hi (h : i = mb) => show MB mb pb i by first | omega | assumption)).nx u418)
  have hmemN : MbM F pb w417 ((nth ms k).put x ta tg tc) := ⟨D424, hmm.hb, hmm.hpl, D421, fun h hf => by have h7 := hfrs h; have h8 : tg < w0.heap.size := (hp.hF _ hf).2; omega, by show Srt (canT _ _ _ _); unfold canT; split <;> first | exact ins_srt hmm.srt | exact hmm.srt, by show ∀ s ∈ canT _ _ _ _, OkSp s; unfold canT; split <;> first | exact ins_ok (leg_sp hp.hx) hmm.ok | exact hmm.ok⟩
  have hrowR : RowC F pb c r am mb cm n (ms.set k ((nth ms k).put x ta tg tc)) w417 := ⟨⟨D422, fun m hm => by
    rcases List.mem_or_eq_of_mem_set hm with q9 | q9
    · exact (hrowk.row.mem m q9).row hp.hFm uMB
    · rw [q9]; exact hmemN⟩, B423, by rw [List.length_set]; exact hrowk.len⟩
  have hmm0 : MbM F pb w417 (nth ms k) := hmm.row hp.hFm uMB
  have B426 := (((((((((((B49.keep u61 (show ¬ (TP F pb w44 b7) by first | omega | assumption)).kx u74).kx u82).kx u93).keep u96 (by omega)).kx u102).kx u172).keep u377 (by omega)).kx u398).keep u407 (by omega)).kx u418)
  have nTb425 : ¬ TP (FX F (w417.heap.size + 1)) pb w417 b7 := TP.not (fun h => h.elim (hp.n7) (by omega)) B426 (by decide)
  have B428 := (B413.kx u418)
  have nTb427 : ¬ TP (FX F (w417.heap.size + 1)) pb w417 b5 := TP.not (fun h => h.elim (hp.n5) (by omega)) B428 (by decide)
  have B430 := (B412.kx u418)
  have nTb429 : ¬ TP (FX F (w417.heap.size + 1)) pb w417 b4 := TP.not (fun h => h.elim (hp.n4) (by omega)) B430 (by decide)
  have nTb431 : ¬ TP (FX F (w417.heap.size + 1)) pb w417 c := TP.not (fun h => h.elim (hp.nc) (by omega)) B423 (by decide)
  have B433 := (((((((((((B57.keep u61 (show ¬ (TP F pb w44 bk2) by first | omega | assumption)).kx u74).kx u82).kx u93).keep u96 (by omega)).kx u102).kx u172).keep u377 (by omega)).kx u398).keep u407 (by omega)).kx u418)
  have nTb432 : ¬ TP (FX F (w417.heap.size + 1)) pb w417 bk2 := TP.not (fun h => h.elim ((fun h => by have := (hp.hF _ h).2; omega)) (by omega)) B433 (by decide)
  have B435 := (B414.kx u418)
  have nTb434 : ¬ TP (FX F (w417.heap.size + 1)) pb w417 bq := TP.not (fun h => h.elim ((fun h => by have := (hp.hF _ h).2; omega)) (by omega)) B435 (by decide)
  have B437 := ((((((B97.kx u102).kx u172).keep u377 (by omega)).kx u398).keep u407 (by omega)).kx u418)
  have nTb436 : ¬ TP (FX F (w417.heap.size + 1)) pb w417 bk90 := TP.not (fun h => h.elim ((fun h => by have := (hp.hF _ h).2; omega)) (by omega)) B437 (by decide)
  have nTb438 : ¬ TP F pb w417 b7 := TP.not hp.n7 B426 (by decide)
  have nTb439 : ¬ TP F pb w417 b5 := TP.not hp.n5 B428 (by decide)
  have nTb440 : ¬ TP F pb w417 b4 := TP.not hp.n4 B430 (by decide)
  have nTb441 : ¬ TP F pb w417 c := TP.not hp.nc B423 (by decide)
  have nTb442 : ¬ TP F pb w417 bk2 := TP.not (fun h => by have := (hp.hF _ h).2; omega) B433 (by decide)
  have nTb443 : ¬ TP F pb w417 bq := TP.not (fun h => by have := (hp.hF _ h).2; omega) B435 (by decide)
  have nTb444 : ¬ TP F pb w417 bk90 := TP.not (fun h => by have := (hp.hF _ h).2; omega) B437 (by decide)
  have D445 := (((((((((((D58.keep u61 (fun hb => show ¬ (TP F pb w44 gn) by first | omega | exact hgm hb | (revert hb; assumption))).kE u74).kE u82).kE u93).keep u96 (fun hb => show ¬ (gn = bk90) by first | omega | exact hgm hb | (revert hb; assumption))).kE u102).kE u172).keep u377 (fun hb => show ¬ (gn = t10) by first | omega | exact hgm hb | (revert hb; assumption))).kE u398).keep u407 (fun hb => show ¬ (gn = mb) by first | omega | exact hgm hb | (revert hb; assumption))).kE u418)
  have hnR : pb ≤ gn → ¬ TP F pb w417 gn := (D445).notTP hp.hng (by decide)
  have D446 := ((((hnx.keep u377 (fun hb => show ¬ (gA = t10) by first | omega | assumption)).kE u398).keep u407 (fun hb => show ¬ (gA = mb) by first | omega | assumption)).kE u418)
  have lT7 := hT7.lt
  have lT5 := hT5.lt
  have lT6 := hT6.lt
  have lT4 := hT4.lt
  have lxg := D446.lt
  have hcl := B423.lt
  have hBC := CX.bent (F := (FX F (w417.heap.size + 1))) (pb := pb) (B' := (w417.heap.size + 1)) (wR := w417) (ts := ts) hp.hCt hbR.1 (by omega) (Nat.le_succ _)
  have hBF := CfX.bent (F := (FX F (w417.heap.size + 1))) (pb := pb) (B' := (w417.heap.size + 1)) (wR := w417) (ts := ts) hp.hCft hbR.2 (by omega) (Nat.le_succ _)
  have hFx : ∀ i, FX F (w417.heap.size + 1) i → pb ≤ i ∧ i < w417.heap.size + 2 := fun i h => h.elim (fun h => ⟨(hp.hF _ h).1, by have := (hp.hF _ h).2; omega⟩) (fun h => ⟨by omega, by omega⟩)
  refine WC.weak [(1, .pointer (some ⟨b7, 0, none⟩)), (2, .pointer (some ⟨b5, 0, none⟩)), (4, .pointer (some ⟨b4, 0, none⟩)), (5, .pointer (some ⟨bk2, 0, none⟩)), (6, .pointer (some ⟨bq, 0, none⟩)), (7, .pointer (some ⟨bk90, 0, none⟩)), (83, .func (.func 111) #[] #[.pointer (some ⟨bT7, 0, none⟩), .pointer (some ⟨bT5, 0, none⟩), .pointer (some ⟨bT6, 0, none⟩), .pointer (some ⟨bT4, 0, none⟩)])] ⟨rfl, rfl, rfl, rfl, rfl, rfl, rfl, trivial⟩ (c_rangeL (γ := HT) (δ := Nat) (lb := [.pointer (some ⟨bT7, 0, none⟩), .pointer (some ⟨bT5, 0, none⟩), .pointer (some ⟨bT6, 0, none⟩), .pointer (some ⟨bT4, 0, none⟩)]) (enc := encHT) own111 rfl rfl (YT (FX F (w417.heap.size + 1)) pb c r am mb cm n B w417.heap.size (CX (FX F (w417.heap.size + 1)) pb w417 C R ts)) (ZT (FX F (w417.heap.size + 1)) pb c r am mb cm n (CX (FX F (w417.heap.size + 1)) pb w417 C R ts)) (FT (FX F (w417.heap.size + 1)) pb c r am mb cm n (CfX (FX F (w417.heap.size + 1)) pb w417 Cf Rf ts) (PX φ k (nth ms k))) (EX (FX F (w417.heap.size + 1)) (FX F (w417.heap.size + 1)) pb c r am mb cm n w417 (fun W => CX (FX F (w417.heap.size + 1)) pb w417 C R ts (teamsP r x (need - 1) (k + 1) (nums ++ [(k : Int)]) q ((ms.set k ((nth ms k).put x ta tg tc)).map HM.mb)) W) (ms.set k ((nth ms k).put x ta tg tc))) (EX (FX F (w417.heap.size + 1)) F0 pb c r am mb cm n w417 (EndT (teamsP r x (need - 1) (k + 1) (nums ++ [(k : Int)]) q ((ms.set k ((nth ms k).put x ta tg tc)).map HM.mb)) (CfX (FX F (w417.heap.size + 1)) pb w417 Cf Rf ts)) (PX φ k (nth ms k) (ms.set k ((nth ms k).put x ta tg tc)))) (ZT.turned (hBC.turned (Nat.le_refl _)) (.inr rfl)) (FT.turned (hBF.turned (Nat.le_refl _)) (.inr rfl)) (EX.turned (fun _ => (hBC.turned (Nat.le_refl _)) _) (.inr rfl)) (EX.turned (EndT.turned (hBF.turned (Nat.le_refl _))) (.inr rfl)) ?_ (fun x d => [(1, .pointer (some ⟨b7, 0, none⟩)), (2, .pointer (some ⟨b5, 0, none⟩)), (4, .pointer (some ⟨b4, 0, none⟩)), (5, .pointer (some ⟨bk2, 0, none⟩)), (6, .pointer (some ⟨bq, 0, none⟩)), (7, .pointer (some ⟨bk90, 0, none⟩)), (11, .pointer (some ⟨d, 0, none⟩))]) (fun x d W => (Blk W d 166 [.slice x.ao x.nums.length x.cap, .int .i64 x.pl] ∧ w417.heap.size + 1 < d) ∧ YT (FX F (w417.heap.size + 1)) pb c r am mb cm n B w417.heap.size (CX (FX F (w417.heap.size + 1)) pb w417 C R ts) x W) (fun d x W W' h hl u => ⟨⟨h.1.1.keep u (h.1.1.notLoop hl), h.1.2⟩, YT.turned (hBC.turned (Nat.le_refl _)) _ _ _ h.2 hl u⟩) ?_ ?_ ?_ ?_)
  ·
   intro l_ D_ R_ Rf_ W hD_ hl_ hsz hE1 hH_ hR_
   subst hD_ hl_
   have hxW := D446.keep hE1 (fun _ h => h)
   refine (ih (need - 1) (by omega) (FX F (w417.heap.size + 1)) (w417.heap.size + 1) w417.heap.size (CX (FX F (w417.heap.size + 1)) pb w417 C R ts) (CfX (FX F (w417.heap.size + 1)) pb w417 Cf Rf ts) R_ Rf_ (PX φ k (nth ms k)) bT7 bT5 bT6 bT4 (k + 1) (nums ++ [(k : Int)]) _ gA _ q (ms.set k ((nth ms k).put x ta tg tc)) W ⟨hp.hr, hp.hx, ?_, ?_, hBC.mono (by omega), hBF.mono (by omega), hH_, hT7.kx hE1, hT5.kx hE1, hT6.kx hE1, hT4.kx hE1, ?_, ?_, ?_, fun i h => ⟨(hFx i h).1, by have := (hFx i h).2; omega⟩, fun h => h.elim ((fun h => by have := (hp.hF _ h).2; omega)) (by omega), fun h => h.elim ((fun h => by have := (hp.hF _ h).2; omega)) (by omega), fun h => h.elim ((fun h => by have := (hp.hF _ h).2; omega)) (by omega), fun h => h.elim hp.nc (by omega), .inr rfl, fun h => .inl (hp.hFm h), rfl, by omega, ⟨hpb.1, by omega⟩, by rw [List.length_append, List.length_singleton]; omega, ?_, hp.hB9, hp.hn, ?_, ⟨by rw [List.append_nil]; exact hp.hC _ _ _ hCR hE1.to, hR2 _ _ hRR hE1.to, hE1.to⟩, hR_, PX.len hp.hφl, PX.comm hp.hφ hi0⟩).mono fun _ w9 h9 => ?_
   · exact fun p W W' h u => ⟨hp.hC _ _ _ h.hc u, hR2 _ _ h.hr u, h.hu.next u (fun i _ h => .inl (.inl (h.1 ▸ hFmb)))⟩
   · exact fun p W W' h u => ⟨hp.hCf _ _ _ h.hc u, hRf2 _ _ h.hr u, h.hu.next u (fun i _ h => .inl (.inl (h.1 ▸ hFmb)))⟩
   · exact (hrowR.ext hE1).mono fun m hm hb hg => hg.elim id (fun e => by
       have := (hrowR.row.mem m hm).ht.lt; omega)
   · exact hxW.someL (by omega)
   · exact fun _ h => h.elim (fun h => by have := (hp.hF _ h).2; omega) (fun h => by omega)
   · exact fun m hm => by
       rcases List.mem_or_eq_of_mem_set hm with q9 | q9
       · have := hp.hB m q9; omega
       · have h8 := hp.hB _ (nth_mem (xs := ms) (i := k) him)
         have h7 : (canT (nth ms k).f (nth ms k).u (nth ms k).ts x).length ≤ (nth ms k).ts.length + 1 := by unfold canT; split <;> simp [ins_len]
         rw [q9]; show (canT _ _ _ _).length + _ ≤ B; omega
   · rw [List.length_append, List.length_singleton]; have h8 := hp.hpl; have h9 := pltI_rng (nth ms k).mb x; omega
   have h8 := (hE1.to (S := TP (FX F (w417.heap.size + 1)) pb w417)).next h9.2 (fun i hi h => TP.backE hE1 hi h)
   exact h9.1.elim (fun q => .inl ⟨⟨q.1, q.2.2, h8⟩, q.2.1⟩) (fun q => .inr ⟨⟨q.1, q.2.2, h8⟩, q.2.1⟩)
  ·
   intro lq x W K447 hI hK447
   change WC _ _ _ _ _ _ [(84, .agg #[.slice x.ao x.nums.length x.cap, .int .i64 x.pl]), (1, .pointer (some ⟨b7, 0, none⟩)), (2, .pointer (some ⟨b5, 0, none⟩)), (4, .pointer (some ⟨b4, 0, none⟩)), (5, .pointer (some ⟨bk2, 0, none⟩)), (6, .pointer (some ⟨bq, 0, none⟩)), (7, .pointer (some ⟨bk90, 0, none⟩)), (83, .func (.func 111) #[] #[.pointer (some ⟨bT7, 0, none⟩), .pointer (some ⟨bT5, 0, none⟩), .pointer (some ⟨bT6, 0, none⟩), .pointer (some ⟨bT4, 0, none⟩)])] _
   refine c_region (t_alloc (cs := [.slice none 0 0, .int .i64 0]) zeroValue166 rfl rfl rfl (fun bk448 w449 ebk448 sbk448 B450 u451 => ?_))
   have zu451 := u451.size
   refine t_st (vs := [.slice x.ao x.nums.length x.cap, .int .i64 x.pl]) sizeOf166 rfl rfl rfl B450 rfl rfl rfl rfl (fun w453 sw453 B455 u454 => ?_)
   have zu454 := u454.size
   have E456 := ((Upd.refl (fun _ => False) W).nx u451).next u454 (fun i hi h => by omega)
   have B455 : Blk w453 bk448 166 [.slice x.ao x.nums.length x.cap, .int .i64 x.pl] := B455
   refine t_nil' ?_
   exact hK447 bk448 _ _ ⟨rfl, rfl, rfl, rfl, rfl, rfl, rfl, trivial⟩ E456 ⟨⟨B455, by have := hI.hD; omega⟩, ⟨⟨hp.hC _ _ _ hI.hc.hc (Ext.to E456), hR2 _ _ hI.hc.hr (Ext.to E456), hI.hc.hu.nx E456⟩, hI.row.ext E456, hI.num.keep E456 (fun _ h => h), hI.nf, hI.len, hI.n3, by have := hI.hD; have := (E456).size; omega, hI.upd.nx E456⟩⟩
  ·
   intro lq x d w457 hY
   obtain ⟨⟨hbd, hdg⟩, hY⟩ := hY
   have huR := hY.hc.hu
   have hdl := hbd.lt
   have zhuR := huR.size
   have hPw := hY.upd
   have B460 := (B426.keep huR (show ¬ (TP (FX F (w417.heap.size + 1)) pb w417 b7) by first | omega | assumption))
   have nTb459 : ¬ TP F pb w457 b7 := TP.not hp.n7 B460 (by decide)
   have B462 := (B428.keep huR (show ¬ (TP (FX F (w417.heap.size + 1)) pb w417 b5) by first | omega | assumption))
   have nTb461 : ¬ TP F pb w457 b5 := TP.not hp.n5 B462 (by decide)
   have B464 := (B430.keep huR (show ¬ (TP (FX F (w417.heap.size + 1)) pb w417 b4) by first | omega | assumption))
   have nTb463 : ¬ TP F pb w457 b4 := TP.not hp.n4 B464 (by decide)
   have nTb465 : ¬ TP F pb w457 c := TP.not hp.nc hY.row.blk (by decide)
   have B467 := (B433.keep huR (show ¬ (TP (FX F (w417.heap.size + 1)) pb w417 bk2) by first | omega | assumption))
   have nTb466 : ¬ TP F pb w457 bk2 := TP.not (fun h => by have := (hp.hF _ h).2; omega) B467 (by decide)
   have B469 := (B435.keep huR (show ¬ (TP (FX F (w417.heap.size + 1)) pb w417 bq) by first | omega | assumption))
   have nTb468 : ¬ TP F pb w457 bq := TP.not (fun h => by have := (hp.hF _ h).2; omega) B469 (by decide)
   have B471 := (B437.keep huR (show ¬ (TP (FX F (w417.heap.size + 1)) pb w417 bk90) by first | omega | assumption))
   have nTb470 : ¬ TP F pb w457 bk90 := TP.not (fun h => by have := (hp.hF _ h).2; omega) B471 (by decide)
   change WC _ _ _ _ _ _ [(1, .pointer (some ⟨b7, 0, none⟩)), (2, .pointer (some ⟨b5, 0, none⟩)), (4, .pointer (some ⟨b4, 0, none⟩)), (5, .pointer (some ⟨bk2, 0, none⟩)), (6, .pointer (some ⟨bq, 0, none⟩)), (7, .pointer (some ⟨bk90, 0, none⟩)), (11, .pointer (some ⟨d, 0, none⟩))] _
   have hcellsR := (TP.cellsB (F := F) (pb := pb) (B := w417.heap.size) (w := w457) (fun i h => by have := (hp.hF i h).2; omega))
   refine c_block (c_seq fun K472 hK472 => (c_region (t_load isAgg185 rfl rfl rfl (B467.get rfl) (t_loadN (vs := [.slice x.ao x.nums.length x.cap, .int .i64 x.pl]) isAgg166 sizeOf166 rfl rfl rfl (hbd.at.sub 0 2) rfl (t_yield (vs := [.agg #[.slice x.ao x.nums.length x.cap, .int .i64 x.pl]]) rfl rfl rfl rfl (hp.hH.hand ⟨ts ++ x.pre, x.nums, x.ao, x.g, x.cap, x.pl, x.hm, w457⟩ _ ⟨hY.hc.hc, (hY.row.mono fun m hm hb hf => .inl hf), hY.num, fun h hf => hY.nf h (.inl hf), hY.len, hY.n3, by have := hp.hD; omega, Upd.refl _ _⟩ hY.hc.hr) (by rintro e w' (⟨rfl, _⟩ | ⟨rfl, _⟩) <;> exact ⟨_, rfl⟩) (fun v473 w474 r475 => ?_))))))
   rcases r475 with ⟨hvr475, hrr475⟩ | ⟨hvr475, hrr475⟩ <;> injection hvr475 with hvr475 <;> subst hvr475
   ·
    obtain ⟨⟨hzC, hzW, u476⟩, hzR⟩ := hrr475
    have zu476 := u476.size
    refine t_not rfl rfl rfl (t_nil' (hK472 _ _ (c_cond_f rfl (c_skip ?_))))
    have hUr := ((Upd.refl (fun i => TP F pb w457 i) w457).next u476 (fun i hi (h : TP F pb w457 i) => show TP F pb w457 i by first | omega | assumption | exact TP.back (by assumption) hi h | exact Or.inl (by rw [h]; assumption)))
    exact fun a ha => ⟨KeepsFrom.of_updB hUr hcellsR, (⟨⟨by rw [← List.append_assoc]; exact hzC, hzR, hY.hc.hu.next u476 (fun i hi h => TP.back hY.hc.hu hi h.fx)⟩, hzW.mono (fun m hm hb hg => hg.elim id (fun e => absurd (.inr e) ((hY.row.row.mem m hm).hn hb))), ((hY.upd.mono fun i e => .inl (.inr e)).next u476 (fun i hi h => TP.back (hY.upd.mono fun i e => .inl (.inr e)) hi h.fx))⟩ : ZT (FX F (w417.heap.size + 1)) pb c r am mb cm n (CX (FX F (w417.heap.size + 1)) pb w417 C R ts) x _)⟩
   obtain ⟨⟨hzC, hzW, u476⟩, hzR⟩ := hrr475
   have zu476 := u476.size
   have hzW : RowC F0 pb c r am mb cm n (φ x.hm) w474 := hzW
   have lt_mb := hzW.row.acc.lt
   have hphl : (φ x.hm).length = n := hzW.len
   refine t_not rfl rfl rfl (t_nil' (hK472 _ _ (c_cond_t rfl (c_seq fun K479 hK479 => (c_drawnM follows (fun i => i = mb) (.look 0 (.look 1 (.look 2 (.look 3 (.look 4 (.look 5 (.look 6 (.act 7 .done .stop)))))))) (by kernel_rfl) fun w480 u481 => ?_)))))
   have zu481 := u481.size
   have B483 := ((B464.keep u476 (show ¬ (TP F pb w457 b4) by first | omega | assumption)).kx u481)
   refine y_load isAgg117 rfl rfl rfl (B483.get rfl) (by show ¬ (b4 = mb); first | omega | assumption) (y_nilchk rfl rfl rfl (y_field underlying144 rfl sizeOf142 (5) rfl rfl rfl rfl ?_))
   have B484 := (hzW.blk.kx u481)
   refine y_load isAgg142 rfl rfl rfl (B484.get rfl) (by show ¬ (c = mb); first | omega | assumption) ?_
   have B485 := ((B469.keep u476 (show ¬ (TP F pb w457 bq) by first | omega | assumption)).kx u481)
   refine y_load isAgg3 rfl rfl rfl (B485.get rfl) (by show ¬ (bq = mb); first | omega | assumption) ?_
   have B486 := ((B471.keep u476 (show ¬ (TP F pb w457 bk90) by first | omega | assumption)).kx u481)
   refine y_loadN (vs := [.int .i64 ((nth ms k).f), .int .i64 ((nth ms k).u), .slice ((nth ms k).ap) ((nth ms k).ps.length) ((nth ms k).cp), .slice ((nth ms k).ad) ((nth ms k).nd) ((nth ms k).cd), .slice ((nth ms k).at_) ((nth ms k).ts.length) ((nth ms k).ct)]) isAgg131 sizeOf131 rfl rfl rfl (B486.at.sub 0 5) rfl (by show ¬ (bk90 = mb); first | omega | assumption) ?_
   have D487 := (hzW.row.acc.kE u481)
   have i488 : k < (φ x.hm).length := (by omega)
   refine y_index (j := k) underlying142 sizeOf131 rfl rfl rfl rfl ((D487.sl (fun _ => rfl)).addr (by omega)) rfl (by omega) (s_do (t_storeA (vs := [.int .i64 ((nth ms k).f), .int .i64 ((nth ms k).u), .slice ((nth ms k).ap) ((nth ms k).ps.length) ((nth ms k).cp), .slice ((nth ms k).ad) ((nth ms k).nd) ((nth ms k).cd), .slice ((nth ms k).at_) ((nth ms k).ts.length) ((nth ms k).ct)]) (j := k) (o' := 0) (k := 5) (nth ms k) (fun _ => rfl) sizeOf131 rfl rfl (by omega) rfl D487 (by first | omega | (simp only [List.length_set]; omega)) rfl rfl (by decide) (by simp [Value.oneCell']) rfl (fun w489 R491 u490 => ?_)))
   have zu490 := u490.size
   refine s_next ((Upd.refl _ _).next u490 (fun i hi (h : i = mb) => show w480.heap.size ≤ i ∨ (i = mb) by first | omega | exact .inr h)) (s_nil (hK479 _ _ (c_ret ?_)))
   have hUr := ((((Upd.refl (fun i => TP F pb w457 i) w457).next u476 (fun i hi (h : TP F pb w457 i) => show TP F pb w457 i by first | omega | assumption | exact TP.back (by assumption) hi h | exact Or.inl (by rw [h]; assumption))).nx u481).next u490 (fun i hi (h : i = mb) => show TP F pb w457 i by first | omega | assumption | exact TP.back (by assumption) hi h | exact Or.inl (by rw [h]; assumption)))
   have B493 := ((hzW.blk.kx u481).keep u490 (by omega))
   have uM : Upd (MB mb pb) _ _ := (((Upd.refl (MB mb pb) _).nx u481).next u490 (fun i hi h => ⟨h, by omega⟩))
   have uTP : Upd (TP F pb _) _ _ := u476.next uM (fun i _ h => .inl (h.1 ▸ hFmb))
   have hmm8 := (hmm0.fx (l := (w417.heap.size + 1)) (fun _ => by have := hmm0.ht.lt; omega)).tp (fun i h => (hFx i h).1) huR
   have hmm9 := (hmm8.unfx.tp (fun i h => (hp.hF i h).1) u476).row hp.hFm uM
   have hrow9 : RowC F0 pb c r am mb cm n (PX φ k (nth ms k) x.hm) _ := ⟨⟨R491, fun m hm => by
     rcases List.mem_or_eq_of_mem_set hm with q9 | q9
     · exact (hzW.row.mem m q9).rowT hzW.row.acc uM
     · rw [q9]; exact hmm9.f0⟩, B493, by unfold PX; rw [List.length_set]; exact hzW.len⟩
   exact fun a ha => ⟨KeepsFrom.of_updB hUr hcellsR, (⟨⟨hp.hCf _ _ _ hzC uM, hRf2 _ _ hzR uM, hY.hc.hu.next uTP (fun i hi h => TP.back hY.hc.hu hi h.fx)⟩, hrow9, ((hY.upd.mono fun i e => .inl (.inr e)).next uTP (fun i hi h => TP.back (hY.upd.mono fun i e => .inl (.inr e)) hi h.fx))⟩ : FT (FX F (w417.heap.size + 1)) pb c r am mb cm n (CfX (FX F (w417.heap.size + 1)) pb w417 Cf Rf ts) (PX φ k (nth ms k)) x _)⟩
  ·
   have D496 := ((((((((((hmkl.keepB u74 (CellsB.of (CellsIn.none _))).keepB u82 (CellsB.of (CellsIn.none _))).keepB u93 (CellsB.of (CellsIn.none _))).keepB u96 (CellsB.of (B92).cellsIn)).keepB u102 (CellsB.of (CellsIn.none _))).keepB u172 (CellsB.of (CellsIn.none _))).keepB u377 (CellsB.of hcb10.cellsIn)).keepB u398 (CellsB.of (CellsIn.none _))).keepB u407 (CellsB.of (fun i hi e => (D404).cellsIn i hi ⟨e, by omega⟩))).keepB u418 (CellsB.of (CellsIn.none _)))
   have hmk0 := D496
   have hmc0 := (TP.cellsB (F := F) (pb := pb) (B := w0.heap.size) (w := w417) (fun i h => (hp.hF i h).2))
   intro D495 w494 hD495 hE hdD495
   have hu9 : Upd (TP F pb w417) w417 w494 := ⟨hE.hu.os, hE.hu.tape, hE.hu.output, hE.hu.size, fun k hk hn => hE.hu.block k hk (fun h => hn (h.unfx (by omega)))⟩
   have zhu9 := hu9.size
   have hstep : teamsP r x need i0 nums pl (ms.map HM.mb) = (ts ++ (teamsP r x (need - 1) (k + 1) (nums ++ [(k : Int)]) q ((ms.set k ((nth ms k).put x ta tg tc)).map HM.mb))) ++ teamsP r x need (k + 1) nums pl (ms.map HM.mb) := by rw [htk, teams_step' hn1 (by rw [List.length_map]; exact him), if_pos (by rw [nth_map' _ him]; exact hmay), map_put him, hq, nth_map' _ him, List.append_assoc]
   have mk498 := (hmk0.keepB hu9 hmc0).push (D := D495) (by omega) hdD495 (fun d hd D' e => Nat.lt_of_lt_of_le (hmk0.lt d hd D' e) hD495)
   obtain ⟨pr9, v9, po9, e9, hcf9⟩ := hE.hi
   have rB : RowC F0 pb c r am mb cm n (φ ms) w494 := by have h9 := hE.row; rwa [PX.back hp.hφl hp.hφ him hi0] at h9
   have hmkE := mk498
   refine f_retMc0  results111  mk498 (fun w499 u500 omw499 => ?_)
   have zu500 := u500.size
   unfold TmQ
   exact ⟨.inr ⟨⟨ts ++ pr9, v9, po9 ++ teamsP r x need (k + 1) nums pl (ms.map HM.mb), by rw [hstep, e9]; simp, hp.hCft _ _ _ _ hcf9.hc omw499 hmkE.bent⟩, hbR.2 () _ _ _ hcf9.hr omw499 hmkE.bent, (RowC.bent (B := w0.heap.size) (by omega) _ _ _ _ rB omw499 hmkE.bent)⟩, ((E420.next hu9 (fun i hi (h : TP F pb w417 i) => show TP F pb w0 i by first | omega | assumption | exact TP.back (by assumption) hi h | exact Or.inl (by rw [h]; assumption))).next u500 (fun i hi (h : w0.heap.size ≤ i) => show TP F pb w0 i by first | omega | assumption | exact TP.back (by assumption) hi h | exact Or.inl (by rw [h]; assumption)))⟩
  ·
   have D504 := ((((((((((hmkl.keepB u74 (CellsB.of (CellsIn.none _))).keepB u82 (CellsB.of (CellsIn.none _))).keepB u93 (CellsB.of (CellsIn.none _))).keepB u96 (CellsB.of (B92).cellsIn)).keepB u102 (CellsB.of (CellsIn.none _))).keepB u172 (CellsB.of (CellsIn.none _))).keepB u377 (CellsB.of hcb10.cellsIn)).keepB u398 (CellsB.of (CellsIn.none _))).keepB u407 (CellsB.of (fun i hi e => (D404).cellsIn i hi ⟨e, by omega⟩))).keepB u418 (CellsB.of (CellsIn.none _)))
   have hmk0 := D504
   have hmc0 := (TP.cellsB (F := F) (pb := pb) (B := w0.heap.size) (w := w417) (fun i h => (hp.hF i h).2))
   intro D503 w502 hD503 hE hdD503
   have hu9 : Upd (TP F pb w417) w417 w502 := hE.hu.next (Upd.refl (fun _ => False) _) (fun _ _ h => h.elim) |>.next (Upd.refl (fun _ => False) _) (fun _ _ h => h.elim) |> fun q => ⟨q.os, q.tape, q.output, q.size, fun k hk hn => q.block k hk (fun h => hn (h.unfx (by omega)))⟩
   have zhu9 := hu9.size
   have lt_mb := hE.row.row.acc.lt
   have hsl : (ms.set k ((nth ms k).put x ta tg tc)).length = n := hE.row.len
   have hstep : teamsP r x need i0 nums pl (ms.map HM.mb) = (ts ++ (teamsP r x (need - 1) (k + 1) (nums ++ [(k : Int)]) q ((ms.set k ((nth ms k).put x ta tg tc)).map HM.mb))) ++ teamsP r x need (k + 1) nums pl (ms.map HM.mb) := by rw [htk, teams_step' hn1 (by rw [List.length_map]; exact him), if_pos (by rw [nth_map' _ him]; exact hmay), map_put him, hq, nth_map' _ him, List.append_assoc]
   have mk506 := (hmk0.keepB hu9 hmc0).push (D := D503) (by omega) hdD503 (fun d hd D' e => Nat.lt_of_lt_of_le (hmk0.lt d hd D' e) hD503)
   refine hK410 _ _ (c_drawnM follows (fun i => i = mb) (.look 0 (.look 1 (.look 2 (.look 3 (.look 4 (.look 5 (.look 6 (.act 7 .done .stop)))))))) (by kernel_rfl) fun w507 u508 => ?_)
   have zu508 := u508.size
   have B510 := ((B430.keep hu9 (show ¬ (TP F pb w417 b4) by first | omega | assumption)).kx u508)
   refine y_load isAgg117 rfl rfl rfl (B510.get rfl) (by show ¬ (b4 = mb); first | omega | assumption) (y_nilchk rfl rfl rfl (y_field underlying144 rfl sizeOf142 (5) rfl rfl rfl rfl ?_))
   have B511 := (hE.row.blk.kx u508)
   refine y_load isAgg142 rfl rfl rfl (B511.get rfl) (by show ¬ (c = mb); first | omega | assumption) ?_
   have B512 := ((B435.keep hu9 (show ¬ (TP F pb w417 bq) by first | omega | assumption)).kx u508)
   refine y_load isAgg3 rfl rfl rfl (B512.get rfl) (by show ¬ (bq = mb); first | omega | assumption) ?_
   have B513 := ((B437.keep hu9 (show ¬ (TP F pb w417 bk90) by first | omega | assumption)).kx u508)
   refine y_loadN (vs := [.int .i64 ((nth ms k).f), .int .i64 ((nth ms k).u), .slice ((nth ms k).ap) ((nth ms k).ps.length) ((nth ms k).cp), .slice ((nth ms k).ad) ((nth ms k).nd) ((nth ms k).cd), .slice ((nth ms k).at_) ((nth ms k).ts.length) ((nth ms k).ct)]) isAgg131 sizeOf131 rfl rfl rfl (B513.at.sub 0 5) rfl (by show ¬ (bk90 = mb); first | omega | assumption) ?_
   have D514 := (hE.row.row.acc.kE u508)
   have i515 : k < (ms.set k ((nth ms k).put x ta tg tc)).length := (by omega)
   refine y_index (j := k) underlying142 sizeOf131 rfl rfl rfl rfl ((D514.sl (fun _ => rfl)).addr (by omega)) rfl (by omega) (s_do (t_storeA (vs := [.int .i64 ((nth ms k).f), .int .i64 ((nth ms k).u), .slice ((nth ms k).ap) ((nth ms k).ps.length) ((nth ms k).cp), .slice ((nth ms k).ad) ((nth ms k).nd) ((nth ms k).cd), .slice ((nth ms k).at_) ((nth ms k).ts.length) ((nth ms k).ct)]) (j := k) (o' := 0) (k := 5) (nth ms k) (fun _ => rfl) sizeOf131 rfl rfl (by omega) rfl D514 (by first | omega | (simp only [List.length_set]; omega)) rfl rfl (by decide) (by simp [Value.oneCell']) rfl (fun w516 R518 u517 => ?_)))
   have zu517 := u517.size
   refine s_next ((Upd.refl _ _).next u517 (fun i hi (h : i = mb) => show w507.heap.size ≤ i ∨ (i = mb) by first | omega | exact .inr h)) (s_nil (hK79 _ _ (c_seq fun K520 hK520 => (c_seq fun K521 hK521 => (c_region ?_)))))
   have B522 := (((B435.keep hu9 (show ¬ (TP F pb w417 bq) by first | omega | assumption)).kx u508).keep u517 (by omega))
   refine t_load isAgg3 rfl rfl rfl (B522.get rfl) (t_nil' (hK521 _ _ (c_region (t_alloc (cs := [.int .i64 0]) zeroValue3 rfl rfl rfl (fun bk523 w524 ebk523 sbk523 B525 u526 => ?_)))))
   have zu526 := u526.size
   refine t_st (vs := [.int .i64 (k : Int)]) sizeOf3 rfl rfl rfl B525 rfl rfl rfl rfl (fun w528 sw528 B530 u529 => ?_)
   have zu529 := u529.size
   have B530 : Blk w528 bk523 3 [.int .i64 (k : Int)] := B530
   refine t_nil' (hK520 _ _ (c_region (t_load isAgg3 rfl rfl rfl (B530.get rfl) (t_ari rfl rfl rfl rfl rfl (by omega) (t_st (vs := [.int .i64 ((k : Int) + 1)]) sizeOf3 rfl rfl rfl B530 rfl rfl rfl rfl (fun w532 sw532 B534 u533 => ?_))))))
   have zu533 := u533.size
   have B534 : Blk w532 bk523 3 [.int .i64 ((k : Int) + 1)] := B534
   refine t_nil' ?_
   have D536 := (((R518.kE u526).keep u529 (fun hb => show ¬ (mb = bk523) by first | omega | assumption)).keep u533 (fun hb => show ¬ (mb = bk523) by first | omega | assumption))
   have B537 := (((((hE.row.blk.kx u508).keep u517 (by omega)).kx u526).keep u529 (by omega)).keep u533 (by omega))
   have uB : Upd (MB mb pb) _ _ := ((((((Upd.refl (MB mb pb) _).nx u508).next u517 (fun i hi (h : i = mb) => show MB mb pb i by first | omega | assumption)).nx u526).next u529 (fun i hi (h : i = bk523) => show MB mb pb i by first | omega | assumption)).next u533 (fun i hi (h : i = bk523) => show MB mb pb i by first | omega | assumption))
   have hset : ((ms.set k ((nth ms k).put x ta tg tc)).set k (nth ms k)) = ms := by rw [List.set_set, set_self him]
   rw [hset] at D536
   have hrow8 : RowC F pb c r am mb cm n ms _ := ⟨⟨D536, fun m hm => by
     have hq7 := (((hrowk.row.mem m hm).row hp.hFm uMB).tp (fun i h => (hp.hF i h).1) hu9).row hp.hFm uB
     exact hq7⟩, B537, hrowk.len⟩
   have D538 := (((((mk506.keepB u508 (CellsB.of (CellsIn.none _))).keepB u517 (CellsB.of (fun i hi e => (D514).cellsIn i hi ⟨e, by omega⟩))).keepB u526 (CellsB.of (CellsIn.none _))).keepB u529 (CellsB.of (B525).cellsIn)).keepB u533 (CellsB.of (B530).cellsIn))
   exact hK59 (k + 1, bk523, (ts ++ (teamsP r x (need - 1) (k + 1) (nums ++ [(k : Int)]) q ((ms.set k ((nth ms k).put x ta tg tc)).map HM.mb))), (mark D503 :: dl)) _ _ (by show n - (k + 1) < n - k; omega) ⟨rfl, rfl, rfl, rfl, rfl, trivial⟩ ⟨((((((((((((((((u61.nx u74).nx u82).nx u93).next u96 (fun i hi (h : i = bk90) => show TP F pb w44 i by first | omega | assumption | exact TP.back (by assumption) hi h | exact Or.inl (by rw [h]; assumption))).nx u102).nx u172).next u377 (fun i hi (h : i = t10) => show TP F pb w44 i by first | omega | assumption | exact TP.back (by assumption) hi h | exact Or.inl (by rw [h]; assumption))).nx u398).next u407 (fun i hi (h : i = mb) => show TP F pb w44 i by first | omega | assumption | exact TP.back (by assumption) hi h | exact Or.inl (by rw [h]; assumption))).nx u418).next hu9 (fun i hi (h : TP F pb w417 i) => show TP F pb w44 i by first | omega | assumption | exact TP.back (by assumption) hi h | exact Or.inl (by rw [h]; assumption))).nx u508).next u517 (fun i hi (h : i = mb) => show TP F pb w44 i by first | omega | assumption | exact TP.back (by assumption) hi h | exact Or.inl (by rw [h]; assumption))).nx u526).next u529 (fun i hi (h : i = bk523) => show TP F pb w44 i by first | omega | assumption | exact TP.back (by assumption) hi h | exact Or.inl (by rw [h]; assumption))).next u533 (fun i hi (h : i = bk523) => show TP F pb w44 i by first | omega | assumption | exact TP.back (by assumption) hi h | exact Or.inl (by rw [h]; assumption))), (by omega), B534, (by show w0.heap.size ≤ bk523; omega), (hstep), (hp.hC _ _ _ hE.hi.hc ((((((Upd.refl (fun i => MB mb pb i) _).nx u508).next u517 (fun i hi (h : i = mb) => show MB mb pb i by first | omega | assumption)).nx u526).next u529 (fun i hi (h : i = bk523) => show MB mb pb i by first | omega | assumption)).next u533 (fun i hi (h : i = bk523) => show MB mb pb i by first | omega | assumption))), (hR2 _ _ hE.hi.hr ((((((Upd.refl (fun i => MB mb pb i) _).nx u508).next u517 (fun i hi (h : i = mb) => show MB mb pb i by first | omega | assumption)).nx u526).next u529 (fun i hi (h : i = bk523) => show MB mb pb i by first | omega | assumption)).next u533 (fun i hi (h : i = bk523) => show MB mb pb i by first | omega | assumption))), hrow8, D538⟩
 refine c_exit ?_
 have hCe := (hp.hC _ _ _ hCk ((Upd.refl (fun i => MB mb pb i) _).nx u74))
 have hRe := (hR2 _ _ hRk ((Upd.refl (fun i => MB mb pb i) _).nx u74))
 have hWe := (hrowk.ext ((Upd.refl (fun _ => False) _).nx u74))
 have hmkE := (hmkl.keep ((Upd.refl (fun _ => False) _).nx u74) (CellsIn.none _))
 refine f_retMc0  results111  (hmkl.keep ((Upd.refl (fun _ => False) _).nx u74) (CellsIn.none _)) (fun w539 u540 omw539 => ?_)
 have zu540 := u540.size
 unfold TmQ
 have e9 : teamsP r x need i0 nums pl (ms.map HM.mb) = ts := by rw [htk, teams_end' hn1 (by rw [List.length_map]; omega), List.append_nil]
 exact ⟨.inl ⟨by rw [e9]; exact hp.hCt _ _ _ _ hCe omw539 hmkE.bent, hbR.1 () _ _ _ hRe omw539 hmkE.bent, (RowC.bent (B := w0.heap.size) (by omega) _ _ _ _ hWe omw539 hmkE.bent)⟩, (E75.next u540 (fun i hi (h : w0.heap.size ≤ i) => show TP F pb w0 i by first | omega | assumption | exact TP.back (by assumption) hi h | exact Or.inl (by rw [h]; assumption)))⟩

end Go.Proofs.YtagmodjadmecdaaGreat
