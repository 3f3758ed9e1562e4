/-
  Part 12 of the proof: contracts and plain laws. Conditions: none.
-/
import Derived.Test.YtclinbbghnebaaaGreatCK11
namespace Go.Proofs.YtclinbbghnebaaaGreat
open Go Go.RowKit Go.Proofs.Tryz
set_option maxRecDepth 10000
theorem clipI_c (pk : List Int) (ao : Option Addr) (cap : Nat) (w0 : World) (hc : pk.length ≤ cap) :
    CallsV Tryz.prog 187 [.slice ao pk.length cap] w0 (fun v w' => v = .slice (subAddr ao pk.length 0 1) pk.length pk.length ∧ Ext w0 w') := by
 have Y0 := Sc.mk (Upd.refl (fun _ => False) w0)
 refine f_n func187 ?_
 refine go ?_
 refine t_sliceC underlying38 sizeOf3 rfl rfl rfl rfl rfl rfl rfl hc ?_
 refine go ?_
 refine f_1 results187 ?_
 exact ⟨rfl, Y0.u⟩
theorem teams_c (c : Nat) (x : Leg) (i0 : Int) (nums : List Int) (an : Option Addr) (cn : Nat) (pl : Int) (w0 : World) :
    CallsV Tryz.prog 124 [.pointer (some ⟨c, 0, none⟩), .agg #[.int .i64 x.r, .int .i64 x.t.bl, .int .i64 x.t.bh, .int .i64 x.t.el, .int .i64 x.t.eh, .int .i64 x.h, .int .i64 x.p], .int .i64 i0, .agg #[.slice an nums.length cn, .int .i64 pl]] w0 (fun v w' => (∃ b7 b5 b6 b4, v = .func (.func 186) #[] #[.pointer (some ⟨b7, 0, none⟩), .pointer (some ⟨b5, 0, none⟩), .pointer (some ⟨b6, 0, none⟩), .pointer (some ⟨b4, 0, none⟩)] ∧ Blk w' b7 275 [.slice an nums.length cn, .int .i64 pl] ∧ Blk w' b5 79 (encLeg x) ∧ Blk w' b6 3 [.int .i64 i0] ∧ Blk w' b4 159 [.pointer (some ⟨c, 0, none⟩)] ∧ w0.heap.size ≤ b7 ∧ w0.heap.size ≤ b5 ∧ w0.heap.size ≤ b6 ∧ w0.heap.size ≤ b4) ∧ Ext w0 w') := by
 have Y0 := Sc.mk (Upd.refl (fun _ => False) w0)
 refine f_n func124 ?_
 refine go ?_
 refine x_b fun bk2 w3 ebk2 sbk2 B4 u5 => ?_
 try have Y6 := Sc.mk (Y0.u.nx u5)
 refine x_b fun bk7 w8 ebk7 sbk7 B9 u10 => ?_
 try have Y11 := Sc.mk (Y6.u.nx u10)
 refine x_b fun bk12 w13 ebk12 sbk12 B14 u15 => ?_
 try have Y16 := Sc.mk (Y11.u.nx u15)
 refine x_b fun bk17 w18 ebk17 sbk17 B19 u20 => ?_
 try have Y21 := Sc.mk (Y16.u.nx u20)
 refine go ?_
 refine t_mkfunc (vs := []) (us := [.pointer (some ⟨bk17, 0, none⟩), .pointer (some ⟨bk7, 0, none⟩), .pointer (some ⟨bk12, 0, none⟩), .pointer (some ⟨bk2, 0, none⟩)]) rfl rfl rfl rfl ?_
 refine go ?_
 refine f_1 results124 ?_
 have B23 := ((B9.kx u15).kx u20)
 have B24 := (B14.kx u20)
 have B25 := (((B4.kx u10).kx u15).kx u20)
 exact ⟨⟨bk17, bk7, bk12, bk2, rfl, B19, B23, B24, B25, by omega, by omega, by omega, by omega⟩, Y21.u⟩
set_option maxHeartbeats 4000000 in
theorem teams1_s (r : Rul) (x : Leg) (pb c : Nat) (am : Option Addr) (mb cm n B need : Nat) (F : Nat → Prop) (l D : Nat) (C : List Tm → World → Prop) (Cf : List Tm × Tm → World → Prop) (R Rf : World → Prop) (φ : List HM → List HM) (b7 b5 b6 b4 i0 : Nat) (nums : List Int) (an : Option Addr) (gn cn : Nat) (pl : Int) (ms : List HM) (w0 : World) (hp : TmP Tryz.prog r x pb c am mb cm n B F l D C Cf R Rf φ b7 b5 b6 b4 need i0 nums an gn cn pl ms w0) (ih : ∀ q, q < need → TeamsQ Tryz.prog r x pb c am mb cm n B q) :
    CallsV Tryz.prog 186 [.func (.yield l) #[] #[], .pointer (some ⟨b7, 0, none⟩), .pointer (some ⟨b5, 0, none⟩), .pointer (some ⟨b6, 0, none⟩), .pointer (some ⟨b4, 0, none⟩)] w0 (fun _ w' => TmQ r x pb c am mb cm n F C Cf R Rf φ need i0 nums pl ms w0 w') := by
 have hpb := hp.hpb
 have hD := hp.hD
 have hl := hp.hl
 have hnd := hp.hnd
 have hh3 := (okLeg_ok hp.hx).2
 have hpl := hp.hpl
 have hlen := hp.row.len
 have hn6 := hp.hn
 have l7 := hp.h7.lt
 have l5 := hp.h5.lt
 have l4 := hp.h4.lt
 have l6 := hp.h6.lt
 have lc := hp.row.blk.lt
 have lgn := hp.num.lt
 have hcapn := hp.num.cap_le
 have hbR := bentR hp.hH (B := w0.heap.size) (by omega) (by omega)
 have hml : pb ≤ mb → mb ≠ l ∧ mb ≠ D := fun hb => by
   rcases hp.row.row.acc.at_ with ⟨_, _, _, h1⟩ | ⟨_, _, cur, h1, _⟩
   · omega
   · exact hp.hH.cell (cs := cur.toList) hp.r0 (by simpa [Blk] using h1)
 have hR2 : ∀ W W', R W → Upd (MB mb pb) W W' → R W' := fun W W' h u => hp.hH.keep h u (fun q => (hml (q.1 ▸ q.2)).1 q.1.symm) (fun q => (hml (q.1 ▸ q.2)).2 q.1.symm)
 have hRf2 : ∀ W W', Rf W → Upd (MB mb pb) W W' → Rf W' := fun W W' h u => hp.hH.keepf h u (fun q => (hml (q.1 ▸ q.2)).1 q.1.symm) (fun q => (hml (q.1 ▸ q.2)).2 q.1.symm)
 have k1 := hp.h7
 have k2 := hp.h5
 have k3 := hp.h6
 have k4 := hp.h4
 have k5 := hp.row.blk
 have Y0 := Sc.mk (Upd.refl (fun i => TP F pb w0 i) w0)
 refine f_enterM (N := 104) func186 rfl rfl rfl (q_of ?_)
 refine go ?_
 refine x_b fun bk7 w8 ebk7 sbk7 B9 u10 => ?_
 try have Y11 := Sc.mk (Y0.u.nx u10)
 refine go ?_
 refine q_p (fun g17 => ?_) fun g17 => ?_
 ·
  have hn0 : need = 0 := by omega
  refine go ?_
  refine q_p (fun g22 => ?_) fun g22 => ?_
  ·
   refine go ?_
   have B17 := (k1.kx u10)
   have nTb16 : ¬ TP F pb w8 b7 := TP.not hp.n7 B17 (by decide)
   have B19 := (k2.kx u10)
   have nTb18 : ¬ TP F pb w8 b5 := TP.not hp.n5 B19 (by decide)
   have B21 := (k4.kx u10)
   have nTb20 : ¬ TP F pb w8 b4 := TP.not hp.n4 B21 (by decide)
   have B23 := (k5.kx u10)
   have nTb22 : ¬ TP F pb w8 c := TP.not hp.nc B23 (by decide)
   have D24 := (hp.num.keep u10 (fun _ h => h))
   refine t_yield (vs := [.agg #[.slice an nums.length cn, .int .i64 pl]]) rfl rfl rfl rfl (hp.hH.hand ⟨[], nums, an, gn, cn, pl, ms, w8⟩ _ ⟨(hp.hC _ _ _ hp.c0 ((Upd.refl (fun i => MB mb pb i) _).nx u10)), (hp.row.ext ((Upd.refl (fun _ => False) _).nx u10)), D24, hp.hng, fun m hm => by have := hp.hB m hm; omega, by show nums.length ≤ 3; omega, by have := hp.hD; omega, Upd.refl _ _⟩ (hR2 _ _ hp.r0 ((Upd.refl (fun i => MB mb pb i) _).nx u10))) (by rintro e w' (⟨rfl, _⟩ | ⟨rfl, _⟩) <;> exact ⟨_, rfl⟩) (fun v25 w26 r27 => ?_)
   rcases r27 with ⟨hvr27, hrr27⟩ | ⟨hvr27, hrr27⟩ <;> injection hvr27 with hvr27 <;> subst hvr27
   ·
    obtain ⟨⟨hzC, hzW, u28⟩, hzR⟩ := hrr27
    have zu28 := u28.size
    try have Y29 := Sc.mk (Y11.u.next u28 (fun i hi (h : TP F pb w8 i) => show TP F pb w0 i by first | omega | assumption | exact TP.back (Sc.u (by assumption)) hi h | exact TP.back (Sc.u (by assumption)) hi (TP.unfx h (by omega)) | exact Or.inl (by rw [h]; assumption)))
    refine go ?_
    have D32 := (((show Marks w0.heap.size [] w0 from trivial).keepB u10 (CellsB.of (CellsIn.none _))).keepB u28 (TP.cellsB (fun i h => (hp.hF i h).2)))
    have hmkE := D32
    refine f_retMc0  results186  D32 (fun w30 u31 omw30 => ?_)
    have zu31 := u31.size
    try have Y33 := Sc.mk (Y29.u.next u31 (fun i hi (h : w0.heap.size ≤ i) => show TP F pb w0 i by first | omega | assumption | exact TP.back (Sc.u (by assumption)) hi h | exact TP.back (Sc.u (by assumption)) hi (TP.unfx h (by omega)) | exact Or.inl (by rw [h]; assumption)))
    unfold TmQ
    have e9 : teamsP r x need i0 nums pl (ms.map HM.mb) = [⟨nums, pl, (ms.map HM.mb)⟩] := by rw [hn0, teamsP, if_pos (by omega)]
    exact ⟨.inl ⟨by rw [e9]; exact hp.hCt _ _ _ _ hzC omw30 hmkE.bent, hbR.1 () _ _ _ hzR omw30 hmkE.bent, (RowC.bent (B := w0.heap.size) (by omega) _ _ _ _ hzW omw30 hmkE.bent)⟩, Y33.u⟩
   obtain ⟨⟨hzC, hzW, u28⟩, hzR⟩ := hrr27
   have zu28 := u28.size
   try have Y34 := Sc.mk (Y11.u.next u28 (fun i hi (h : TP F pb w8 i) => show TP F pb w0 i by first | omega | assumption | exact TP.back (Sc.u (by assumption)) hi h | exact TP.back (Sc.u (by assumption)) hi (TP.unfx h (by omega)) | exact Or.inl (by rw [h]; assumption)))
   refine go ?_
   have D37 := (((show Marks w0.heap.size [] w0 from trivial).keepB u10 (CellsB.of (CellsIn.none _))).keepB u28 (TP.cellsB (fun i h => (hp.hF i h).2)))
   have hmkE := D37
   refine f_retMc0  results186  D37 (fun w35 u36 omw35 => ?_)
   have zu36 := u36.size
   try have Y38 := Sc.mk (Y34.u.next u36 (fun i hi (h : w0.heap.size ≤ i) => show TP F pb w0 i by first | omega | assumption | exact TP.back (Sc.u (by assumption)) hi h | exact TP.back (Sc.u (by assumption)) hi (TP.unfx h (by omega)) | exact Or.inl (by rw [h]; assumption)))
   unfold TmQ
   have e9 : teamsP r x need i0 nums pl (ms.map HM.mb) = [⟨nums, pl, (ms.map HM.mb)⟩] := by rw [hn0, teamsP, if_pos (by omega)]
   exact ⟨.inr ⟨⟨[], ⟨nums, pl, (ms.map HM.mb)⟩, [], by rw [e9]; rfl, hp.hCft _ _ _ _ hzC omw35 hmkE.bent⟩, hbR.2 () _ _ _ hzR omw35 hmkE.bent, (RowC.bent (B := w0.heap.size) (by omega) _ _ _ _ hzW omw35 hmkE.bent)⟩, Y38.u⟩
  refine go ?_
  have hCe := (hp.hC _ _ _ hp.c0 ((Upd.refl (fun i => MB mb pb i) _).nx u10))
  have hRe := (hR2 _ _ hp.r0 ((Upd.refl (fun i => MB mb pb i) _).nx u10))
  have hWe := (hp.row.ext ((Upd.refl (fun _ => False) _).nx u10))
  have hmkE := ((show Marks w0.heap.size [] w0 from trivial).keep ((Upd.refl (fun _ => False) _).nx u10) (CellsIn.none _))
  refine f_retMc0  results186  ((show Marks w0.heap.size [] w0 from trivial).keep ((Upd.refl (fun _ => False) _).nx u10) (CellsIn.none _)) (fun w39 u40 omw39 => ?_)
  have zu40 := u40.size
  try have Y41 := Sc.mk (Y11.u.next u40 (fun i hi (h : w0.heap.size ≤ i) => show TP F pb w0 i by first | omega | assumption | exact TP.back (Sc.u (by assumption)) hi h | exact TP.back (Sc.u (by assumption)) hi (TP.unfx h (by omega)) | exact Or.inl (by rw [h]; assumption)))
  unfold TmQ
  have e9 : teamsP r x need i0 nums pl (ms.map HM.mb) = [] := by rw [hn0, teamsP, if_neg (by omega)]
  exact ⟨.inl ⟨by rw [e9]; exact hp.hCt _ _ _ _ hCe omw39 hmkE.bent, hbR.1 () _ _ _ hRe omw39 hmkE.bent, (RowC.bent (B := w0.heap.size) (by omega) _ _ _ _ hWe omw39 hmkE.bent)⟩, Y41.u⟩
 have hn1 : 0 < need := by omega
 refine go ?_
 refine x_n fun bk43 w44 ebk43 sbk43 B45 u46 => ?_
 try have Y47 := Sc.mk (Y11.u.nx u46)
 refine x_s fun w48 sw48 B50 u49 => ?_
 try have Y51 := Sc.mk (Y47.u.next u49 (fun i hi (h : i = bk43) => show TP F pb w0 i by first | omega | assumption | exact TP.back (Sc.u (by assumption)) hi h | exact TP.back (Sc.u (by assumption)) hi (TP.unfx h (by omega)) | exact Or.inl (by rw [h]; assumption)))
 refine go ?_
 have hP0 : Sc (TP F pb w0) w0 w48 := ⟨Y51.u⟩
 have B53 := (((k1.kx u10).kx u46).keep u49 (by omega))
 have nTb52 : ¬ TP F pb w48 b7 := TP.not hp.n7 B53 (by decide)
 have B55 := (((k2.kx u10).kx u46).keep u49 (by omega))
 have nTb54 : ¬ TP F pb w48 b5 := TP.not hp.n5 B55 (by decide)
 have B57 := (((k4.kx u10).kx u46).keep u49 (by omega))
 have nTb56 : ¬ TP F pb w48 b4 := TP.not hp.n4 B57 (by decide)
 have B59 := (((k5.kx u10).kx u46).keep u49 (by omega))
 have nTb58 : ¬ TP F pb w48 c := TP.not hp.nc B59 (by decide)
 have B61 := ((B9.kx u46).keep u49 (by omega))
 have nTb60 : ¬ TP F pb w48 bk7 := TP.not (fun h => by have := (hp.hF _ h).2; omega) B61 (by decide)
 have D62 := (((hp.num.keep u10 (fun _ h => h)).keep u46 (fun _ h => h)).keep u49 (fun hb => show ¬ (gn = bk43) by first | omega | exact hgm hb | (revert hb; assumption)))
 have hnk : need = (need - 1) + 1 := by omega
 have hnT : pb ≤ gn → ¬ TP F pb w48 gn := (D62).notTP hp.hng (by decide)
 have hwp0 : w0.heap.size ≤ w48.heap.size := (Y51.u).size
 refine q_loopm (γ := Nat × Nat × List Tm × List Deferred) (fun gg => [(1, .pointer (some ⟨b7, 0, none⟩)), (2, .pointer (some ⟨b5, 0, none⟩)), (4, .pointer (some ⟨b4, 0, none⟩)), (5, .pointer (some ⟨bk7, 0, none⟩)), (6, .pointer (some ⟨gg.2.1, 0, none⟩))]) (fun gg => gg.2.2.2) (fun gg w => Upd (fun i => TP F pb w48 i) w48 w ∧ (i0 ≤ gg.1) ∧ (Blk w gg.2.1 3 [.int .i64 (gg.1 : Int)]) ∧ (w0.heap.size ≤ gg.2.1) ∧ (teamsP r x need i0 nums pl (ms.map HM.mb) = gg.2.2.1 ++ teamsP r x need gg.1 nums pl (ms.map HM.mb)) ∧ (C gg.2.2.1 w) ∧ (R w) ∧ (RowC F pb c r am mb cm n ms w) ∧ (Marks w0.heap.size gg.2.2.2 w)) (fun gg => n - gg.1) (i0, bk43, [], []) rfl ⟨rfl, rfl, rfl, rfl, rfl, trivial⟩ ⟨Upd.refl _ _, (Nat.le_refl _), B50, (by show w0.heap.size ≤ bk43; omega), rfl, (hp.hC _ _ _ hp.c0 ((((Upd.refl (fun i => MB mb pb i) _).nx u10).nx u46).next u49 (fun i hi (h : i = bk43) => show MB mb pb i by first | omega | assumption))), (hR2 _ _ hp.r0 ((((Upd.refl (fun i => MB mb pb i) _).nx u10).nx u46).next u49 (fun i hi (h : i = bk43) => show MB mb pb i by first | omega | assumption))), (hp.row.ext ((((Upd.refl (fun _ => False) _).nx u10).nx u46).next u49 (fun i hi (h : i = bk43) => show False by first | omega | assumption))), trivial⟩ ?_
 intro gg w64 hW K63 hK63
 obtain ⟨k, bq, ts, dl⟩ := gg
 change WC _ _ _ _ _ _ [(1, .pointer (some ⟨b7, 0, none⟩)), (2, .pointer (some ⟨b5, 0, none⟩)), (4, .pointer (some ⟨b4, 0, none⟩)), (5, .pointer (some ⟨bk7, 0, none⟩)), (6, .pointer (some ⟨bq, 0, none⟩))] _
 change Upd (fun i => TP F pb w48 i) w48 w64 ∧ (i0 ≤ k) ∧ (Blk w64 bq 3 [.int .i64 (k : Int)]) ∧ (w0.heap.size ≤ bq) ∧ (teamsP r x need i0 nums pl (ms.map HM.mb) = ts ++ teamsP r x need k nums pl (ms.map HM.mb)) ∧ (C ts w64) ∧ (R w64) ∧ (RowC F pb c r am mb cm n ms w64) ∧ (Marks w0.heap.size dl w64) at hW
 obtain ⟨u65, I66, I67, I68, I69, I70, I71, I72, I73⟩ := hW
 have zu65 := u65.size
 try have Y74 := Sc.mk (Y51.u.next u65 (fun i hi (h : TP F pb w48 i) => show TP F pb w0 i by first | omega | assumption | exact TP.back (Sc.u (by assumption)) hi h | exact TP.back (Sc.u (by assumption)) hi (TP.unfx h (by omega)) | exact Or.inl (by rw [h]; assumption)))
 have hi0 := I66; clear I66
 have hbq := I67; clear I67
 have hbq0 := I68; clear I68
 have htk := I69; clear I69
 have hCk := I70; clear I70
 have hRk := I71; clear I71
 have hrowk := I72; clear I72
 have hmkl := I73; clear I73
 have lt_mb := hrowk.row.acc.lt
 have hbql := hbq.lt
 have hPl : Sc (TP F pb w0) w0 w64 := ⟨Y74.u⟩
 refine go ?_
 refine c_drawnM follows (fun _ => False) (OTl [0, 2, 4, 6, 8, 10, 12]) (by kernel_rfl) fun w77 u78 => ?_
 have zu78 := u78.size
 try have Y79 := Sc.mk (Y74.u.nx u78)
 refine go ?_
 have k80 := hrowk.blk
 refine go ?_
 refine q_p (fun g33 => ?_) fun g33 => ?_
 ·
  have hil : k < n := by omega
  have him : k < ms.length := by omega
  have hmm := hrowk.row.mem (nth ms k) (nth_mem him)
  have hpm := hrowk.row.pos (by omega)
  have hFmb := hp.hFm hpm
  have hmbl := (hp.hF _ hFmb).2
  have hgm : pb ≤ gn → ¬ gn = mb := fun h e => hp.hng h (e ▸ hFmb)
  have hb7m : b7 ≠ mb := fun e => hp.n7 (e ▸ hFmb)
  have hb5m : b5 ≠ mb := fun e => hp.n5 (e ▸ hFmb)
  have hb4m : b4 ≠ mb := fun e => hp.n4 (e ▸ hFmb)
  have hcm : c ≠ mb := fun e => hp.nc (e ▸ hFmb)
  have lt__nth_ms_k_gt := hmm.ht.lt
  refine go ?_
  refine c_drawnM follows (fun _ => False) (OTl [0, 2, 4, 6, 8, 10, 12, 15, 17]) (by kernel_rfl) fun w83 u84 => ?_
  have zu84 := u84.size
  try have Y85 := Sc.mk (Y79.u.nx u84)
  refine go ?_
  have k86 := hrowk.blk
  refine go ?_
  have D87 := ((hrowk.row.acc.keep u78 (fun _ h => h)).keep u84 (fun _ h => h))
  refine y_i k (D87.sl (fun _ => rfl)) (fun _ => ?_)
  have D89 := ((hrowk.row.acc.keep u78 (fun _ h => h)).keep u84 (fun _ h => h))
  refine y_loadN (vs := [.int .i64 ((nth ms k).f), .int .i64 ((nth ms k).u), .slice ((nth ms k).ap) ((nth ms k).ps.length) ((nth ms k).cp), .slice ((nth ms k).ad) ((nth ms k).nd) ((nth ms k).cd), .slice ((nth ms k).at_) ((nth ms k).ts.length) ((nth ms k).ct)]) isAgg269 sizeOf269 rfl rfl rfl (((D89.sl (fun _ => rfl)).at_ k (by omega)).sub 0 5) rfl (fun h => h) ?_
  refine go ?_
  refine x_n fun bk90 w91 ebk90 sbk90 B92 u93 => ?_
  try have Y94 := Sc.mk (Y85.u.nx u93)
  refine go ?_
  refine x_s fun w95 sw95 B97 u96 => ?_
  try have Y98 := Sc.mk (Y94.u.next u96 (fun i hi (h : i = bk90) => show TP F pb w0 i by first | omega | assumption | exact TP.back (Sc.u (by assumption)) hi h | exact TP.back (Sc.u (by assumption)) hi (TP.unfx h (by omega)) | exact Or.inl (by rw [h]; assumption)))
  iterate 3 refine st1 ?_
  refine x_k4 (fun _ => False) [1, 2, 4, 5, 6, 7] (fun (t8 : Nat) (ta : Option Addr) (tg : Nat) (tc : Nat) => [(8, .pointer (some ⟨t8, 0, none⟩)), (9, .bool (canB r (nth ms k).f (nth ms k).u (nth ms k).ts x))]) (fun t8 ta tg tc w => (Blk w t8 269 [.int .i64 ((nth ms k).f), .int .i64 ((nth ms k).u), .slice ((nth ms k).ap) ((nth ms k).ps.length) ((nth ms k).cp), .slice ((nth ms k).ad) ((nth ms k).nd) ((nth ms k).cd), .slice ta ((canT (nth ms k).f (nth ms k).u (nth ms k).ts x).length) tc]) ∧ (Acc encSp 2 180 pb w ta tg tc (canT (nth ms k).f (nth ms k).u (nth ms k).ts x)) ∧ (winM (nth ms k).f (nth ms k).u x = true → pb ≤ tg → w95.heap.size ≤ tg) ∧ (w95.heap.size ≤ t8)) (fun K103 hK103 => ?_) ?_
  ·
   refine c_drawnM follows (fun _ => False) (.look 0 (.look 1 (.look 2 (.look 3 (.look 4 (.look 5 (.act 6 (.look 7 (.look 8 (.look 9 (.act 10 (.act 11 (.look 12 .done) .stop) .stop)))) (.act 10 (.act 6 (.look 7 (.look 8 (.look 9 (.act 11 (.look 12 .done) .stop)))) .stop) .stop)))))))) (by kernel_rfl) fun w106 u107 => ?_
   have zu107 := u107.size
   try have Y108 := Sc.mk (Y98.u.nx u107)
   refine go ?_
   have k109 := hrowk.blk
   refine go ?_
   refine s_or ?_ ?_
   ·
    refine go ?_
    have D110 := (((((hmm.ht.keep u78 (fun _ h => h)).keep u84 (fun _ h => h)).keep u93 (fun _ h => h)).keep u96 (fun hb => show ¬ ((nth ms k).gt = bk90) by first | omega | assumption)).keep u107 (fun _ h => h))
    refine x_c func135 rfl rfl (can_c r ((nth ms k).f) ((nth ms k).u) ((nth ms k).ap) ((nth ms k).ps.length) ((nth ms k).cp) ((nth ms k).ad) ((nth ms k).nd) ((nth ms k).cd) ((nth ms k).ts) ((nth ms k).at_) (nth ms k).gt ((nth ms k).ct) pb x _ D110 (by have := hp.hB _ (nth_mem (xs := ms) (i := k) (by omega)); have := hp.hB9; omega) hmm.srt hmm.ok hp.hr hp.hx hpb.1 (by omega)) ?_
    rintro _ w113 ⟨⟨aoN111, gN111, cN111, _, rfl, rfl, haN111, hfrN111⟩, u114⟩ zu114
    try have Y116 := Sc.mk (Y108.u.nx u114)
    have lt_gN111 := haN111.lt
    refine go ?_
    refine x_n fun bk117 w118 ebk117 sbk117 B119 u120 => ?_
    try have Y121 := Sc.mk (Y116.u.nx u120)
    refine go ?_
    refine x_s fun w122 sw122 B124 u123 => ?_
    try have Y125 := Sc.mk (Y121.u.next u123 (fun i hi (h : i = bk117) => show TP F pb w0 i by first | omega | assumption | exact TP.back (Sc.u (by assumption)) hi h | exact TP.back (Sc.u (by assumption)) hi (TP.unfx h (by omega)) | exact Or.inl (by rw [h]; assumption)))
    refine go ?_
    have D126 := ((haN111.keep u120 (fun _ h => h)).keep u123 (fun hb => show ¬ (gN111 = bk117) by first | omega | assumption))
    exact hK103 bk117 aoN111 gN111 cN111 ⟨B124, D126, (fun h9 h8 => by have := hfrN111 h9 h8; show w95.heap.size ≤ gN111; omega), (by show w95.heap.size ≤ bk117; omega)⟩
   refine go ?_
   refine x_n fun bk127 w128 ebk127 sbk127 B129 u130 => ?_
   try have Y131 := Sc.mk (Y108.u.nx u130)
   refine go ?_
   have D132 := ((((((hmm.ht.keep u78 (fun _ h => h)).keep u84 (fun _ h => h)).keep u93 (fun _ h => h)).keep u96 (fun hb => show ¬ ((nth ms k).gt = bk90) by first | omega | assumption)).keep u107 (fun _ h => h)).keep u130 (fun _ h => h))
   refine x_c func135 rfl rfl (can_c r ((nth ms k).f) ((nth ms k).u) ((nth ms k).ap) ((nth ms k).ps.length) ((nth ms k).cp) ((nth ms k).ad) ((nth ms k).nd) ((nth ms k).cd) ((nth ms k).ts) ((nth ms k).at_) (nth ms k).gt ((nth ms k).ct) pb x _ D132 (by have := hp.hB _ (nth_mem (xs := ms) (i := k) (by omega)); have := hp.hB9; omega) hmm.srt hmm.ok hp.hr hp.hx hpb.1 (by omega)) ?_
   rintro _ w135 ⟨⟨aoN133, gN133, cN133, _, rfl, rfl, haN133, hfrN133⟩, u136⟩ zu136
   try have Y138 := Sc.mk (Y131.u.nx u136)
   have lt_gN133 := haN133.lt
   have B139 := (B129.kx u136)
   have hne8 : pb ≤ gN133 → gN133 ≠ bk127 := (haN133).neBlk B139 (by decide)
   refine go ?_
   refine x_s fun w140 sw140 B142 u141 => ?_
   try have Y143 := Sc.mk (Y138.u.next u141 (fun i hi (h : i = bk127) => show TP F pb w0 i by first | omega | assumption | exact TP.back (Sc.u (by assumption)) hi h | exact TP.back (Sc.u (by assumption)) hi (TP.unfx h (by omega)) | exact Or.inl (by rw [h]; assumption)))
   refine go ?_
   have D144 := (haN133.keep u141 (fun hb => show ¬ (gN133 = bk127) by first | omega | assumption))
   exact hK103 bk127 aoN133 gN133 cN133 ⟨B142, D144, (fun h9 h8 => by have := hfrN133 h9 h8; show w95.heap.size ≤ gN133; omega), (by show w95.heap.size ≤ bk127; omega)⟩
  rintro t8 ta tg tc w104 ⟨ht8, htn, hfrs0, hg8⟩ u105 zu105
  try have Y145 := Sc.mk (Y98.u.nx u105)
  have lt_tg := htn.lt
  have lt8 := ht8.lt
  refine go ?_
  refine q_b (fun g54 => ?_) fun g54 => ?_
  ·
   have hmay : ¬ canM r x (nth ms k).mb = true := by show ¬ canB r (nth ms k).f (nth ms k).u (nth ms k).ts x = true; simpa using g54
   refine go ?_
   refine x_n fun bk150 w151 ebk150 sbk150 B152 u153 => ?_
   try have Y154 := Sc.mk (Y145.u.nx u153)
   refine x_s fun w155 sw155 B157 u156 => ?_
   try have Y158 := Sc.mk (Y154.u.next u156 (fun i hi (h : i = bk150) => show TP F pb w0 i by first | omega | assumption | exact TP.back (Sc.u (by assumption)) hi h | exact TP.back (Sc.u (by assumption)) hi (TP.unfx h (by omega)) | exact Or.inl (by rw [h]; assumption)))
   refine go ?_
   refine x_s fun w159 sw159 B161 u160 => ?_
   try have Y162 := Sc.mk (Y158.u.next u160 (fun i hi (h : i = bk150) => show TP F pb w0 i by first | omega | assumption | exact TP.back (Sc.u (by assumption)) hi h | exact TP.back (Sc.u (by assumption)) hi (TP.unfx h (by omega)) | exact Or.inl (by rw [h]; assumption)))
   refine go ?_
   have D163 := ((((((((hmkl.keepB u78 (CellsB.of (CellsIn.none _))).keepB u84 (CellsB.of (CellsIn.none _))).keepB u93 (CellsB.of (CellsIn.none _))).keepB u96 (CellsB.of (B92).cellsIn)).keepB u105 (CellsB.of (CellsIn.none _))).keepB u153 (CellsB.of (CellsIn.none _))).keepB u156 (CellsB.of (B152).cellsIn)).keepB u160 (CellsB.of (B157).cellsIn))
   exact hK63 (k + 1, bk150, ts, dl) _ _ (by show n - (k + 1) < n - k; omega) ⟨rfl, rfl, rfl, rfl, rfl, trivial⟩ ⟨((((((((u65.nx u78).nx u84).nx u93).next u96 (fun i hi (h : i = bk90) => show TP F pb w48 i by first | omega | assumption | exact TP.back (Sc.u (by assumption)) hi h | exact TP.back (Sc.u (by assumption)) hi (TP.unfx h (by omega)) | exact Or.inl (by rw [h]; assumption))).nx u105).nx u153).next u156 (fun i hi (h : i = bk150) => show TP F pb w48 i by first | omega | assumption | exact TP.back (Sc.u (by assumption)) hi h | exact TP.back (Sc.u (by assumption)) hi (TP.unfx h (by omega)) | exact Or.inl (by rw [h]; assumption))).next u160 (fun i hi (h : i = bk150) => show TP F pb w48 i by first | omega | assumption | exact TP.back (Sc.u (by assumption)) hi h | exact TP.back (Sc.u (by assumption)) hi (TP.unfx h (by omega)) | exact Or.inl (by rw [h]; assumption))), (by omega), B161, (by show w0.heap.size ≤ bk150; omega), (by rw [htk, teams_step' hn1 (by rw [List.length_map]; exact him), if_neg (by rw [nth_map' _ him]; exact hmay), List.nil_append]), (hp.hC _ _ _ hCk (((((((((Upd.refl (fun i => MB mb pb i) _).nx u78).nx u84).nx u93).next u96 (fun i hi (h : i = bk90) => show MB mb pb i by first | omega | assumption)).nx u105).nx u153).next u156 (fun i hi (h : i = bk150) => show MB mb pb i by first | omega | assumption)).next u160 (fun i hi (h : i = bk150) => show MB mb pb i by first | omega | assumption))), (hR2 _ _ hRk (((((((((Upd.refl (fun i => MB mb pb i) _).nx u78).nx u84).nx u93).next u96 (fun i hi (h : i = bk90) => show MB mb pb i by first | omega | assumption)).nx u105).nx u153).next u156 (fun i hi (h : i = bk150) => show MB mb pb i by first | omega | assumption)).next u160 (fun i hi (h : i = bk150) => show MB mb pb i by first | omega | assumption))), (hrowk.ext (((((((((Upd.refl (fun _ => False) _).nx u78).nx u84).nx u93).next u96 (fun i hi (h : i = bk90) => show False by first | omega | assumption)).nx u105).nx u153).next u156 (fun i hi (h : i = bk150) => show False by first | omega | assumption)).next u160 (fun i hi (h : i = bk150) => show False by first | omega | assumption))), D163⟩
  have hmay : canM r x (nth ms k).mb = true := by show canB r (nth ms k).f (nth ms k).u (nth ms k).ts x = true; simpa using g54
  have hfrs := hfrs0 (canB_win hmay)
  iterate 2 refine st1 ?_
  refine x_k3 (fun _ => False) [1, 2, 4, 5, 6, 7, 8] (fun (t10 : Nat) (gA : Nat) (cA : Nat) => [(10, .pointer (some ⟨t10, 0, none⟩))]) (fun t10 gA cA w => (Blk w t10 275 [.slice (some ⟨gA, 0, none⟩) ((nums ++ [(k : Int)]).length) cA, .int .i64 pl]) ∧ (Acc encI 1 3 w104.heap.size w (some ⟨gA, 0, none⟩) gA cA (nums ++ [(k : Int)])) ∧ (w104.heap.size ≤ t10)) (fun K168 hK168 => ?_) ?_
  ·
   refine c_drawnM follows (fun _ => False) (.look 0 (.look 1 (.look 3 (.look 6 (.look 7 (.act 2 (.act 4 (.act 5 (.look 8 (.act 9 (.act 10 .done .stop) .stop)) (.act 9 (.act 5 (.look 8 (.act 10 .done .stop)) .stop) .stop)) (.act 9 (.act 4 (.act 5 (.look 8 (.act 10 .done .stop)) .stop) .stop) .stop)) (.act 4 (.act 2 (.act 5 (.look 8 (.act 9 (.act 10 .done .stop) .stop)) (.act 9 (.act 5 (.look 8 (.act 10 .done .stop)) .stop) .stop)) (.act 9 (.act 2 (.act 5 (.look 8 (.act 10 .done .stop)) .stop) .stop) .stop)) (.act 9 (.act 2 (.act 4 (.act 5 (.look 8 (.act 10 .done .stop)) .stop) .stop) (.act 4 (.act 2 (.act 5 (.look 8 (.act 10 .done .stop)) .stop) .stop) .stop)) .stop)))))))) (by kernel_rfl) fun w171 u172 => ?_
   have zu172 := u172.size
   try have Y173 := Sc.mk (Y145.u.nx u172)
   refine go ?_
   refine s_or ?_ ?_
   ·
    refine go ?_
    refine x_c func187 rfl rfl (clipI_c nums an cn _ hcapn) ?_
    rintro _ w175 ⟨rfl, u176⟩ zu176
    try have Y178 := Sc.mk (Y173.u.nx u176)
    refine go ?_
    refine s_or ?_ ?_
    ·
     refine go ?_
     refine x_l fun bk179 w180 ebk179 sbk179 B181 u182 => ?_
     try have Y183 := Sc.mk (Y178.u.nx u182)
     refine go ?_
     refine s_or ?_ ?_
     ·
      refine go ?_
      have D184 := (((((((((D62.keep u65 (fun hb => show ¬ (TP F pb w48 gn) by first | omega | exact hgm hb | (revert hb; assumption))).keep u78 (fun _ h => h)).keep u84 (fun _ h => h)).keep u93 (fun _ h => h)).keep u96 (fun hb => show ¬ (gn = bk90) by first | omega | exact hgm hb | (revert hb; assumption))).keep u105 (fun _ h => h)).keep u172 (fun _ h => h)).keep u176 (fun _ h => h)).keep u182 (fun _ h => h))
      refine t_appClip (z := .int .i64 0) (bytes := 8) (k := 1) (enc := encI) (k : Int) underlying38 (by kernel_rfl) rfl (by decide) (fun _ => rfl) (by intro x; simp [encI, Value.oneCell']) rfl rfl rfl rfl rfl ((D184).sl (fun _ => rfl)).clip B181 (by omega) (by decide) (fun gA188 cA189 w185 A187 u186 gegA188 => ?_)
      have zu186 := u186.size
      try have Y190 := Sc.mk (Y183.u.nx u186)
      have lt_gA188 := A187.lt
      refine go ?_
      refine x_n fun bk191 w192 ebk191 sbk191 B193 u194 => ?_
      try have Y195 := Sc.mk (Y190.u.nx u194)
      refine go ?_
      refine x_s fun w196 sw196 B198 u197 => ?_
      try have Y199 := Sc.mk (Y195.u.next u197 (fun i hi (h : i = bk191) => show TP F pb w0 i by first | omega | assumption | exact TP.back (Sc.u (by assumption)) hi h | exact TP.back (Sc.u (by assumption)) hi (TP.unfx h (by omega)) | exact Or.inl (by rw [h]; assumption)))
      refine go ?_
      have D200 := ((A187.keep u194 (fun _ h => h)).keep u197 (fun hb => show ¬ (gA188 = bk191) by first | omega | assumption))
      exact hK168 bk191 gA188 cA189 ⟨B198, (D200.someL (by omega)), (by show w104.heap.size ≤ bk191; omega)⟩
     refine go ?_
     refine x_n fun bk201 w202 ebk201 sbk201 B203 u204 => ?_
     try have Y205 := Sc.mk (Y183.u.nx u204)
     refine go ?_
     have B206 := (B181.kx u204)
     have D207 := ((((((((((D62.keep u65 (fun hb => show ¬ (TP F pb w48 gn) by first | omega | exact hgm hb | (revert hb; assumption))).keep u78 (fun _ h => h)).keep u84 (fun _ h => h)).keep u93 (fun _ h => h)).keep u96 (fun hb => show ¬ (gn = bk90) by first | omega | exact hgm hb | (revert hb; assumption))).keep u105 (fun _ h => h)).keep u172 (fun _ h => h)).keep u176 (fun _ h => h)).keep u182 (fun _ h => h)).keep u204 (fun _ h => h))
     refine t_appClip (z := .int .i64 0) (bytes := 8) (k := 1) (enc := encI) (k : Int) underlying38 (by kernel_rfl) rfl (by decide) (fun _ => rfl) (by intro x; simp [encI, Value.oneCell']) rfl rfl rfl rfl rfl ((D207).sl (fun _ => rfl)).clip B206 (by omega) (by decide) (fun gA211 cA212 w208 A210 u209 gegA211 => ?_)
     have zu209 := u209.size
     try have Y213 := Sc.mk (Y205.u.nx u209)
     have lt_gA211 := A210.lt
     refine go ?_
     refine x_s fun w215 sw215 B217 u216 => ?_
     try have Y218 := Sc.mk (Y213.u.next u216 (fun i hi (h : i = bk201) => show TP F pb w0 i by first | omega | assumption | exact TP.back (Sc.u (by assumption)) hi h | exact TP.back (Sc.u (by assumption)) hi (TP.unfx h (by omega)) | exact Or.inl (by rw [h]; assumption)))
     refine go ?_
     have D219 := (A210.keep u216 (fun hb => show ¬ (gA211 = bk201) by first | omega | assumption))
     exact hK168 bk201 gA211 cA212 ⟨B217, (D219.someL (by omega)), (by show w104.heap.size ≤ bk201; omega)⟩
    refine go ?_
    refine x_n fun bk220 w221 ebk220 sbk220 B222 u223 => ?_
    try have Y224 := Sc.mk (Y178.u.nx u223)
    refine go ?_
    refine x_l fun bk225 w226 ebk225 sbk225 B227 u228 => ?_
    try have Y229 := Sc.mk (Y224.u.nx u228)
    refine go ?_
    have D230 := ((((((((((D62.keep u65 (fun hb => show ¬ (TP F pb w48 gn) by first | omega | exact hgm hb | (revert hb; assumption))).keep u78 (fun _ h => h)).keep u84 (fun _ h => h)).keep u93 (fun _ h => h)).keep u96 (fun hb => show ¬ (gn = bk90) by first | omega | exact hgm hb | (revert hb; assumption))).keep u105 (fun _ h => h)).keep u172 (fun _ h => h)).keep u176 (fun _ h => h)).keep u223 (fun _ h => h)).keep u228 (fun _ h => h))
    refine t_appClip (z := .int .i64 0) (bytes := 8) (k := 1) (enc := encI) (k : Int) underlying38 (by kernel_rfl) rfl (by decide) (fun _ => rfl) (by intro x; simp [encI, Value.oneCell']) rfl rfl rfl rfl rfl ((D230).sl (fun _ => rfl)).clip B227 (by omega) (by decide) (fun gA234 cA235 w231 A233 u232 gegA234 => ?_)
    have zu232 := u232.size
    try have Y236 := Sc.mk (Y229.u.nx u232)
    have lt_gA234 := A233.lt
    refine go ?_
    refine x_s fun w238 sw238 B240 u239 => ?_
    try have Y241 := Sc.mk (Y236.u.next u239 (fun i hi (h : i = bk220) => show TP F pb w0 i by first | omega | assumption | exact TP.back (Sc.u (by assumption)) hi h | exact TP.back (Sc.u (by assumption)) hi (TP.unfx h (by omega)) | exact Or.inl (by rw [h]; assumption)))
    refine go ?_
    have D242 := (A233.keep u239 (fun hb => show ¬ (gA234 = bk220) by first | omega | assumption))
    exact hK168 bk220 gA234 cA235 ⟨B240, (D242.someL (by omega)), (by show w104.heap.size ≤ bk220; omega)⟩
   refine s_or ?_ ?_
   ·
    refine go ?_
    refine x_l fun bk243 w244 ebk243 sbk243 B245 u246 => ?_
    try have Y247 := Sc.mk (Y173.u.nx u246)
    refine go ?_
    refine s_or ?_ ?_
    ·
     refine go ?_
     refine x_c func187 rfl rfl (clipI_c nums an cn _ hcapn) ?_
     rintro _ w249 ⟨rfl, u250⟩ zu250
     try have Y252 := Sc.mk (Y247.u.nx u250)
     refine go ?_
     refine s_or ?_ ?_
     ·
      refine go ?_
      have B253 := (B245.kx u250)
      have D254 := (((((((((D62.keep u65 (fun hb => show ¬ (TP F pb w48 gn) by first | omega | exact hgm hb | (revert hb; assumption))).keep u78 (fun _ h => h)).keep u84 (fun _ h => h)).keep u93 (fun _ h => h)).keep u96 (fun hb => show ¬ (gn = bk90) by first | omega | exact hgm hb | (revert hb; assumption))).keep u105 (fun _ h => h)).keep u172 (fun _ h => h)).keep u246 (fun _ h => h)).keep u250 (fun _ h => h))
      refine t_appClip (z := .int .i64 0) (bytes := 8) (k := 1) (enc := encI) (k : Int) underlying38 (by kernel_rfl) rfl (by decide) (fun _ => rfl) (by intro x; simp [encI, Value.oneCell']) rfl rfl rfl rfl rfl ((D254).sl (fun _ => rfl)).clip B253 (by omega) (by decide) (fun gA258 cA259 w255 A257 u256 gegA258 => ?_)
      have zu256 := u256.size
      try have Y260 := Sc.mk (Y252.u.nx u256)
      have lt_gA258 := A257.lt
      refine go ?_
      refine x_n fun bk261 w262 ebk261 sbk261 B263 u264 => ?_
      try have Y265 := Sc.mk (Y260.u.nx u264)
      refine go ?_
      refine x_s fun w266 sw266 B268 u267 => ?_
      try have Y269 := Sc.mk (Y265.u.next u267 (fun i hi (h : i = bk261) => show TP F pb w0 i by first | omega | assumption | exact TP.back (Sc.u (by assumption)) hi h | exact TP.back (Sc.u (by assumption)) hi (TP.unfx h (by omega)) | exact Or.inl (by rw [h]; assumption)))
      refine go ?_
      have D270 := ((A257.keep u264 (fun _ h => h)).keep u267 (fun hb => show ¬ (gA258 = bk261) by first | omega | assumption))
      exact hK168 bk261 gA258 cA259 ⟨B268, (D270.someL (by omega)), (by show w104.heap.size ≤ bk261; omega)⟩
     refine go ?_
     refine x_n fun bk271 w272 ebk271 sbk271 B273 u274 => ?_
     try have Y275 := Sc.mk (Y252.u.nx u274)
     refine go ?_
     have B276 := ((B245.kx u250).kx u274)
     have D277 := ((((((((((D62.keep u65 (fun hb => show ¬ (TP F pb w48 gn) by first | omega | exact hgm hb | (revert hb; assumption))).keep u78 (fun _ h => h)).keep u84 (fun _ h => h)).keep u93 (fun _ h => h)).keep u96 (fun hb => show ¬ (gn = bk90) by first | omega | exact hgm hb | (revert hb; assumption))).keep u105 (fun _ h => h)).keep u172 (fun _ h => h)).keep u246 (fun _ h => h)).keep u250 (fun _ h => h)).keep u274 (fun _ h => h))
     refine t_appClip (z := .int .i64 0) (bytes := 8) (k := 1) (enc := encI) (k : Int) underlying38 (by kernel_rfl) rfl (by decide) (fun _ => rfl) (by intro x; simp [encI, Value.oneCell']) rfl rfl rfl rfl rfl ((D277).sl (fun _ => rfl)).clip B276 (by omega) (by decide) (fun gA281 cA282 w278 A280 u279 gegA281 => ?_)
     have zu279 := u279.size
     try have Y283 := Sc.mk (Y275.u.nx u279)
     have lt_gA281 := A280.lt
     refine go ?_
     refine x_s fun w285 sw285 B287 u286 => ?_
     try have Y288 := Sc.mk (Y283.u.next u286 (fun i hi (h : i = bk271) => show TP F pb w0 i by first | omega | assumption | exact TP.back (Sc.u (by assumption)) hi h | exact TP.back (Sc.u (by assumption)) hi (TP.unfx h (by omega)) | exact Or.inl (by rw [h]; assumption)))
     refine go ?_
     have D289 := (A280.keep u286 (fun hb => show ¬ (gA281 = bk271) by first | omega | assumption))
     exact hK168 bk271 gA281 cA282 ⟨B287, (D289.someL (by omega)), (by show w104.heap.size ≤ bk271; omega)⟩
    refine go ?_
    refine x_n fun bk290 w291 ebk290 sbk290 B292 u293 => ?_
    try have Y294 := Sc.mk (Y247.u.nx u293)
    refine go ?_
    refine x_c func187 rfl rfl (clipI_c nums an cn _ hcapn) ?_
    rintro _ w296 ⟨rfl, u297⟩ zu297
    try have Y299 := Sc.mk (Y294.u.nx u297)
    refine go ?_
    have B300 := ((B245.kx u293).kx u297)
    have D301 := ((((((((((D62.keep u65 (fun hb => show ¬ (TP F pb w48 gn) by first | omega | exact hgm hb | (revert hb; assumption))).keep u78 (fun _ h => h)).keep u84 (fun _ h => h)).keep u93 (fun _ h => h)).keep u96 (fun hb => show ¬ (gn = bk90) by first | omega | exact hgm hb | (revert hb; assumption))).keep u105 (fun _ h => h)).keep u172 (fun _ h => h)).keep u246 (fun _ h => h)).keep u293 (fun _ h => h)).keep u297 (fun _ h => h))
    refine t_appClip (z := .int .i64 0) (bytes := 8) (k := 1) (enc := encI) (k : Int) underlying38 (by kernel_rfl) rfl (by decide) (fun _ => rfl) (by intro x; simp [encI, Value.oneCell']) rfl rfl rfl rfl rfl ((D301).sl (fun _ => rfl)).clip B300 (by omega) (by decide) (fun gA305 cA306 w302 A304 u303 gegA305 => ?_)
    have zu303 := u303.size
    try have Y307 := Sc.mk (Y299.u.nx u303)
    have lt_gA305 := A304.lt
    refine go ?_
    refine x_s fun w309 sw309 B311 u310 => ?_
    try have Y312 := Sc.mk (Y307.u.next u310 (fun i hi (h : i = bk290) => show TP F pb w0 i by first | omega | assumption | exact TP.back (Sc.u (by assumption)) hi h | exact TP.back (Sc.u (by assumption)) hi (TP.unfx h (by omega)) | exact Or.inl (by rw [h]; assumption)))
    refine go ?_
    have D313 := (A304.keep u310 (fun hb => show ¬ (gA305 = bk290) by first | omega | assumption))
    exact hK168 bk290 gA305 cA306 ⟨B311, (D313.someL (by omega)), (by show w104.heap.size ≤ bk290; omega)⟩
   refine go ?_
   refine x_n fun bk314 w315 ebk314 sbk314 B316 u317 => ?_
   try have Y318 := Sc.mk (Y173.u.nx u317)
   refine go ?_
   refine s_or ?_ ?_
   ·
    refine go ?_
    refine x_c func187 rfl rfl (clipI_c nums an cn _ hcapn) ?_
    rintro _ w320 ⟨rfl, u321⟩ zu321
    try have Y323 := Sc.mk (Y318.u.nx u321)
    refine go ?_
    refine x_l fun bk324 w325 ebk324 sbk324 B326 u327 => ?_
    try have Y328 := Sc.mk (Y323.u.nx u327)
    refine go ?_
    have D329 := ((((((((((D62.keep u65 (fun hb => show ¬ (TP F pb w48 gn) by first | omega | exact hgm hb | (revert hb; assumption))).keep u78 (fun _ h => h)).keep u84 (fun _ h => h)).keep u93 (fun _ h => h)).keep u96 (fun hb => show ¬ (gn = bk90) by first | omega | exact hgm hb | (revert hb; assumption))).keep u105 (fun _ h => h)).keep u172 (fun _ h => h)).keep u317 (fun _ h => h)).keep u321 (fun _ h => h)).keep u327 (fun _ h => h))
    refine t_appClip (z := .int .i64 0) (bytes := 8) (k := 1) (enc := encI) (k : Int) underlying38 (by kernel_rfl) rfl (by decide) (fun _ => rfl) (by intro x; simp [encI, Value.oneCell']) rfl rfl rfl rfl rfl ((D329).sl (fun _ => rfl)).clip B326 (by omega) (by decide) (fun gA333 cA334 w330 A332 u331 gegA333 => ?_)
    have zu331 := u331.size
    try have Y335 := Sc.mk (Y328.u.nx u331)
    have lt_gA333 := A332.lt
    refine go ?_
    refine x_s fun w337 sw337 B339 u338 => ?_
    try have Y340 := Sc.mk (Y335.u.next u338 (fun i hi (h : i = bk314) => show TP F pb w0 i by first | omega | assumption | exact TP.back (Sc.u (by assumption)) hi h | exact TP.back (Sc.u (by assumption)) hi (TP.unfx h (by omega)) | exact Or.inl (by rw [h]; assumption)))
    refine go ?_
    have D341 := (A332.keep u338 (fun hb => show ¬ (gA333 = bk314) by first | omega | assumption))
    exact hK168 bk314 gA333 cA334 ⟨B339, (D341.someL (by omega)), (by show w104.heap.size ≤ bk314; omega)⟩
   refine go ?_
   refine x_l fun bk342 w343 ebk342 sbk342 B344 u345 => ?_
   try have Y346 := Sc.mk (Y318.u.nx u345)
   refine go ?_
   refine x_c func187 rfl rfl (clipI_c nums an cn _ hcapn) ?_
   rintro _ w348 ⟨rfl, u349⟩ zu349
   try have Y351 := Sc.mk (Y346.u.nx u349)
   refine go ?_
   have B352 := (B344.kx u349)
   have D353 := ((((((((((D62.keep u65 (fun hb => show ¬ (TP F pb w48 gn) by first | omega | exact hgm hb | (revert hb; assumption))).keep u78 (fun _ h => h)).keep u84 (fun _ h => h)).keep u93 (fun _ h => h)).keep u96 (fun hb => show ¬ (gn = bk90) by first | omega | exact hgm hb | (revert hb; assumption))).keep u105 (fun _ h => h)).keep u172 (fun _ h => h)).keep u317 (fun _ h => h)).keep u345 (fun _ h => h)).keep u349 (fun _ h => h))
   refine t_appClip (z := .int .i64 0) (bytes := 8) (k := 1) (enc := encI) (k : Int) underlying38 (by kernel_rfl) rfl (by decide) (fun _ => rfl) (by intro x; simp [encI, Value.oneCell']) rfl rfl rfl rfl rfl ((D353).sl (fun _ => rfl)).clip B352 (by omega) (by decide) (fun gA357 cA358 w354 A356 u355 gegA357 => ?_)
   have zu355 := u355.size
   try have Y359 := Sc.mk (Y351.u.nx u355)
   have lt_gA357 := A356.lt
   refine go ?_
   refine x_s fun w361 sw361 B363 u362 => ?_
   try have Y364 := Sc.mk (Y359.u.next u362 (fun i hi (h : i = bk314) => show TP F pb w0 i by first | omega | assumption | exact TP.back (Sc.u (by assumption)) hi h | exact TP.back (Sc.u (by assumption)) hi (TP.unfx h (by omega)) | exact Or.inl (by rw [h]; assumption)))
   refine go ?_
   have D365 := (A356.keep u362 (fun hb => show ¬ (gA357 = bk314) by first | omega | assumption))
   exact hK168 bk314 gA357 cA358 ⟨B363, (D365.someL (by omega)), (by show w104.heap.size ≤ bk314; omega)⟩
  rintro t10 gA cA w169 ⟨ht10, hnx, hg10⟩ u170 zu170
  try have Y366 := Sc.mk (Y145.u.nx u170)
  have lt_gA := hnx.lt
  have lt10 := ht10.lt
  have hgt10 : w104.heap.size ≤ gA → gA ≠ t10 := hnx.neBlk ht10 (by decide)
  have hgAb : w104.heap.size ≤ gA := hnx.at_.elim (fun q9 => by cases q9.1) (fun q9 => q9.2.1)
  have hcb10 := ht10
  refine x_k1 (fun i => i = t10) [1, 2, 4, 5, 6, 7, 8, 10] (fun (q : Int) => []) (fun q w => Blk w t10 275 [.slice (some ⟨gA, 0, none⟩) ((nums ++ [(k : Int)]).length) cA, .int .i64 q] ∧ (q = pl + pltI (nth ms k).mb x)) (fun K371 hK371 => ?_) ?_
  ·
   refine go ?_
   have D375 := ((((((hmm.hp.keep u78 (fun _ h => h)).keep u84 (fun _ h => h)).keep u93 (fun _ h => h)).keep u96 (fun h9 => by have := hmm.hb h9; show ¬ ((nth ms k).bp = bk90); omega)).keep u105 (fun _ h => h)).keep u170 (fun _ h => h))
   refine x_c func136 rfl rfl (pilots_c ((nth ms k).f) ((nth ms k).u) ((nth ms k).ps) ((nth ms k).ap) (nth ms k).bp ((nth ms k).op) ((nth ms k).cp) ((nth ms k).ad) ((nth ms k).nd) ((nth ms k).cd) ((nth ms k).at_) ((nth ms k).ts.length) ((nth ms k).ct) x _ D375 (by have := hmm.hpl; omega)) ?_
   rintro _ w377 ⟨rfl, u378⟩ zu378
   try have Y380 := Sc.mk (Y366.u.nx u378)
   refine go ?_
   refine q_b (fun g66 => ?_) fun g66 => ?_
   ·
    refine go ?_
    refine x_s fun w382 sw382 B384 u383 => ?_
    try have Y385 := Sc.mk (Y380.u.next u383 (fun i hi (h : i = t10) => show TP F pb w0 i by first | omega | assumption | exact TP.back (Sc.u (by assumption)) hi h | exact TP.back (Sc.u (by assumption)) hi (TP.unfx h (by omega)) | exact Or.inl (by rw [h]; assumption)))
    refine go ?_
    exact hK371 (pl + 1) ⟨B384, (by show _ = pl + (if pltP (nth ms k).ps x = true then 1 else 0); rw [if_pos g66])⟩
   refine go ?_
   have B386 := (ht10.kx u378)
   exact hK371 pl ⟨B386, (by show _ = pl + (if pltP (nth ms k).ps x = true then 1 else 0); rw [if_neg (by simp [g66])]; omega)⟩
  rintro q w372 ⟨I387, hq⟩ u373 zu373
  try have Y388 := Sc.mk (Y366.u.next u373 (fun i hi (h : i = t10) => show TP F pb w0 i by first | omega | assumption | exact TP.back (Sc.u (by assumption)) hi h | exact TP.back (Sc.u (by assumption)) hi (TP.unfx h (by omega)) | exact Or.inl (by rw [h]; assumption)))
  refine go ?_
  refine c_drawnM follows (fun i => i = mb) (OTl [0, 2, 4, 6, 8, 10, 12, 15]) (by kernel_rfl) fun w390 u391 => ?_
  have zu391 := u391.size
  try have Y392 := Sc.mk (Y388.u.nx u391)
  refine go ?_
  have k393 := hrowk.blk
  refine go ?_
  have D394 := ((((((D87.keep u93 (fun _ h => h)).keep u96 (fun hb => show ¬ (mb = bk90) by first | omega | assumption)).keep u105 (fun _ h => h)).keep u170 (fun _ h => h)).keep u373 (fun hb => show ¬ (mb = t10) by first | omega | assumption)).keep u391 (fun _ h => h))
  refine y_i k (D394.sl (fun _ => rfl)) (fun _ => ?_)
  refine go ?_
  refine t_storeA (vs := [.int .i64 ((nth ms k).f), .int .i64 ((nth ms k).u), .slice ((nth ms k).ap) ((nth ms k).ps.length) ((nth ms k).cp), .slice ((nth ms k).ad) ((nth ms k).nd) ((nth ms k).cd), .slice ta ((canT (nth ms k).f (nth ms k).u (nth ms k).ts x).length) tc]) (j := k) (o' := 0) (k := 5) ((nth ms k).put x ta tg tc) (fun _ => rfl) sizeOf269 rfl rfl (by omega) rfl D394 (by first | omega | (simp only [List.length_set]; omega)) rfl rfl (by decide) (by simp [Value.oneCell']) rfl (fun w396 R398 u397 => ?_)
  have zu397 := u397.size
  try have Y399 := Sc.mk (Y392.u.next u397 (fun i hi (h : i = mb) => show TP F pb w0 i by first | omega | assumption | exact TP.back (Sc.u (by assumption)) hi h | exact TP.back (Sc.u (by assumption)) hi (TP.unfx h (by omega)) | exact Or.inl (by rw [h]; assumption)))
  refine go ?_
  refine x_c func124 rfl rfl (teams_c c x ((k : Int) + 1) (nums ++ [(k : Int)]) (some ⟨gA, 0, none⟩) cA q _) ?_
  rintro _ w403 ⟨⟨bT7, bT5, bT6, bT4, rfl, hT7, hT5, hT6, hT4, gT7, gT5, gT6, gT4⟩, u404⟩ zu404
  try have Y406 := Sc.mk (Y399.u.nx u404)
  refine go ?_
  have hPR : Sc (TP F pb w48) w48 w403 := ⟨(((((((((((u65).nx u78).nx u84).nx u93).next u96 (fun i hi (h : i = bk90) => show TP F pb w48 i by first | omega | assumption | exact TP.back (Sc.u (by assumption)) hi h | exact TP.back (Sc.u (by assumption)) hi (TP.unfx h (by omega)) | exact Or.inl (by rw [h]; assumption))).nx u105).nx u170).next u373 (fun i hi (h : i = t10) => show TP F pb w48 i by first | omega | assumption | exact TP.back (Sc.u (by assumption)) hi h | exact TP.back (Sc.u (by assumption)) hi (TP.unfx h (by omega)) | exact Or.inl (by rw [h]; assumption))).nx u391).next u397 (fun i hi (h : i = mb) => show TP F pb w48 i by first | omega | assumption | exact TP.back (Sc.u (by assumption)) hi h | exact TP.back (Sc.u (by assumption)) hi (TP.unfx h (by omega)) | exact Or.inl (by rw [h]; assumption))).nx u404)⟩
  have hPR0 : Sc (TP F pb w0) w0 w403 := ⟨Y406.u⟩
  have hCR := (hp.hC _ _ _ hCk (((((((((((Upd.refl (fun i => MB mb pb i) _).nx u78).nx u84).nx u93).next u96 (fun i hi (h : i = bk90) => show MB mb pb i by first | omega | assumption)).nx u105).nx u170).next u373 (fun i hi (h : i = t10) => show MB mb pb i by first | omega | assumption)).nx u391).next u397 (fun i hi (h : i = mb) => show MB mb pb i by first | omega | assumption)).nx u404))
  have hRR := (hR2 _ _ hRk (((((((((((Upd.refl (fun i => MB mb pb i) _).nx u78).nx u84).nx u93).next u96 (fun i hi (h : i = bk90) => show MB mb pb i by first | omega | assumption)).nx u105).nx u170).next u373 (fun i hi (h : i = t10) => show MB mb pb i by first | omega | assumption)).nx u391).next u397 (fun i hi (h : i = mb) => show MB mb pb i by first | omega | assumption)).nx u404))
  have D407 := (((((htn.keep u170 (fun _ h => h)).keep u373 (fun hb => show ¬ (tg = t10) by first | omega | assumption)).keep u391 (fun _ h => h)).keep u397 (fun hb => show ¬ (tg = mb) by first | omega | assumption)).keep u404 (fun _ h => h))
  have D408 := (R398.keep u404 (fun _ h => h))
  have B409 := ((((((((((hrowk.blk.kx u78).kx u84).kx u93).keep u96 (by omega)).kx u105).kx u170).keep u373 (by omega)).kx u391).keep u397 (by omega)).kx u404)
  have D410 := ((((((((((hmm.hp.keep u78 (fun _ h => h)).keep u84 (fun _ h => h)).keep u93 (fun _ h => h)).keep u96 (fun h9 => by have := hmm.hb h9; show ¬ ((nth ms k).bp = bk90); omega)).keep u105 (fun _ h => h)).keep u170 (fun _ h => h)).keep u373 (fun h9 => by have := hmm.hb h9; show ¬ ((nth ms k).bp = t10); omega)).keep u391 (fun _ h => h)).keep u397 (fun h9 => by have := hmm.hb h9; show ¬ ((nth ms k).bp = mb); omega)).keep u404 (fun _ h => h))
  have uMB : Sc (MB mb pb) w64 w403 := ⟨(((((((((((Upd.refl (MB mb pb) _).nx u78).nx u84).nx u93).next u96 (fun i hi (h : i = bk90) => show MB mb pb i by first | omega | assumption)).nx u105).nx u170).next u373 (fun i hi (h : i = t10) => show MB mb pb i by first | omega | assumption)).nx u391).next u397 (fun i hi (h : i = mb) => show MB mb pb i by first | omega | assumption)).nx u404)⟩
  have hmemN : MbM F pb w403 ((nth ms k).put x ta tg tc) := ⟨D410, hmm.hb, hmm.hpl, D407, fun h hf => by have h7 := hfrs h; have h8 : tg < w0.heap.size := (hp.hF _ hf).2; omega, by show Srt (canT _ _ _ _); unfold canT; split <;> first | exact ins_srt hmm.srt | exact hmm.srt, by show ∀ s ∈ canT _ _ _ _, OkSp s; unfold canT; split <;> first | exact ins_ok (leg_sp hp.hx) hmm.ok | exact hmm.ok⟩
  have hrowR : RowC F pb c r am mb cm n (ms.set k ((nth ms k).put x ta tg tc)) w403 := ⟨⟨D408, fun m hm => by
    rcases List.mem_or_eq_of_mem_set hm with q9 | q9
    · exact (hrowk.row.mem m q9).row hp.hFm uMB.u
    · rw [q9]; exact hmemN⟩, B409, by rw [List.length_set]; exact hrowk.len⟩
  have hmm0 : MbM F pb w403 (nth ms k) := hmm.row hp.hFm uMB.u
  have B412 := (((((((((((B53.keep u65 (show ¬ (TP F pb w48 b7) by first | omega | assumption)).kx u78).kx u84).kx u93).keep u96 (by omega)).kx u105).kx u170).keep u373 (by omega)).kx u391).keep u397 (by omega)).kx u404)
  have nTb411 : ¬ TP (FX F (w403.heap.size + 1)) pb w403 b7 := TP.not (fun h => h.elim (hp.n7) (by omega)) B412 (by decide)
  have B414 := (((((((((((B55.keep u65 (show ¬ (TP F pb w48 b5) by first | omega | assumption)).kx u78).kx u84).kx u93).keep u96 (by omega)).kx u105).kx u170).keep u373 (by omega)).kx u391).keep u397 (by omega)).kx u404)
  have nTb413 : ¬ TP (FX F (w403.heap.size + 1)) pb w403 b5 := TP.not (fun h => h.elim (hp.n5) (by omega)) B414 (by decide)
  have B416 := (((((((((((B57.keep u65 (show ¬ (TP F pb w48 b4) by first | omega | assumption)).kx u78).kx u84).kx u93).keep u96 (by omega)).kx u105).kx u170).keep u373 (by omega)).kx u391).keep u397 (by omega)).kx u404)
  have nTb415 : ¬ TP (FX F (w403.heap.size + 1)) pb w403 b4 := TP.not (fun h => h.elim (hp.n4) (by omega)) B416 (by decide)
  have nTb417 : ¬ TP (FX F (w403.heap.size + 1)) pb w403 c := TP.not (fun h => h.elim (hp.nc) (by omega)) B409 (by decide)
  have B419 := (((((((((((B61.keep u65 (show ¬ (TP F pb w48 bk7) by first | omega | assumption)).kx u78).kx u84).kx u93).keep u96 (by omega)).kx u105).kx u170).keep u373 (by omega)).kx u391).keep u397 (by omega)).kx u404)
  have nTb418 : ¬ TP (FX F (w403.heap.size + 1)) pb w403 bk7 := TP.not (fun h => h.elim ((fun h => by have := (hp.hF _ h).2; omega)) (by omega)) B419 (by decide)
  have B421 := ((((((((((hbq.kx u78).kx u84).kx u93).keep u96 (by omega)).kx u105).kx u170).keep u373 (by omega)).kx u391).keep u397 (by omega)).kx u404)
  have nTb420 : ¬ TP (FX F (w403.heap.size + 1)) pb w403 bq := TP.not (fun h => h.elim ((fun h => by have := (hp.hF _ h).2; omega)) (by omega)) B421 (by decide)
  have B423 := ((((((B97.kx u105).kx u170).keep u373 (by omega)).kx u391).keep u397 (by omega)).kx u404)
  have nTb422 : ¬ TP (FX F (w403.heap.size + 1)) pb w403 bk90 := TP.not (fun h => h.elim ((fun h => by have := (hp.hF _ h).2; omega)) (by omega)) B423 (by decide)
  have nTb424 : ¬ TP F pb w403 b7 := TP.not hp.n7 B412 (by decide)
  have nTb425 : ¬ TP F pb w403 b5 := TP.not hp.n5 B414 (by decide)
  have nTb426 : ¬ TP F pb w403 b4 := TP.not hp.n4 B416 (by decide)
  have nTb427 : ¬ TP F pb w403 c := TP.not hp.nc B409 (by decide)
  have nTb428 : ¬ TP F pb w403 bk7 := TP.not (fun h => by have := (hp.hF _ h).2; omega) B419 (by decide)
  have nTb429 : ¬ TP F pb w403 bq := TP.not (fun h => by have := (hp.hF _ h).2; omega) B421 (by decide)
  have nTb430 : ¬ TP F pb w403 bk90 := TP.not (fun h => by have := (hp.hF _ h).2; omega) B423 (by decide)
  have D431 := (((((((((((D62.keep u65 (fun hb => show ¬ (TP F pb w48 gn) by first | omega | exact hgm hb | (revert hb; assumption))).keep u78 (fun _ h => h)).keep u84 (fun _ h => h)).keep u93 (fun _ h => h)).keep u96 (fun hb => show ¬ (gn = bk90) by first | omega | exact hgm hb | (revert hb; assumption))).keep u105 (fun _ h => h)).keep u170 (fun _ h => h)).keep u373 (fun hb => show ¬ (gn = t10) by first | omega | exact hgm hb | (revert hb; assumption))).keep u391 (fun _ h => h)).keep u397 (fun hb => show ¬ (gn = mb) by first | omega | exact hgm hb | (revert hb; assumption))).keep u404 (fun _ h => h))
  have hnR : pb ≤ gn → ¬ TP F pb w403 gn := (D431).notTP hp.hng (by decide)
  have D432 := ((((hnx.keep u373 (fun hb => show ¬ (gA = t10) by first | omega | assumption)).keep u391 (fun _ h => h)).keep u397 (fun hb => show ¬ (gA = mb) by first | omega | assumption)).keep u404 (fun _ h => h))
  have lT7 := hT7.lt
  have lT5 := hT5.lt
  have lT6 := hT6.lt
  have lT4 := hT4.lt
  have lxg := D432.lt
  have hcl := B409.lt
  have hBC := CX.bent (F := (FX F (w403.heap.size + 1))) (pb := pb) (B' := (w403.heap.size + 1)) (wR := w403) (ts := ts) hp.hCt hbR.1 (by omega) (Nat.le_succ _)
  have hBF := CfX.bent (F := (FX F (w403.heap.size + 1))) (pb := pb) (B' := (w403.heap.size + 1)) (wR := w403) (ts := ts) hp.hCft hbR.2 (by omega) (Nat.le_succ _)
  have hFx : ∀ i, FX F (w403.heap.size + 1) i → pb ≤ i ∧ i < w403.heap.size + 2 := fun i h => h.elim (fun h => ⟨(hp.hF _ h).1, by have := (hp.hF _ h).2; omega⟩) (fun h => ⟨by omega, by omega⟩)
  refine WC.weak [(1, .pointer (some ⟨b7, 0, none⟩)), (2, .pointer (some ⟨b5, 0, none⟩)), (4, .pointer (some ⟨b4, 0, none⟩)), (5, .pointer (some ⟨bk7, 0, none⟩)), (6, .pointer (some ⟨bq, 0, none⟩)), (7, .pointer (some ⟨bk90, 0, none⟩)), (83, .func (.func 186) #[] #[.pointer (some ⟨bT7, 0, none⟩), .pointer (some ⟨bT5, 0, none⟩), .pointer (some ⟨bT6, 0, none⟩), .pointer (some ⟨bT4, 0, none⟩)])] ⟨rfl, rfl, rfl, rfl, rfl, rfl, rfl, trivial⟩ (c_rangeL (γ := HT) (δ := Nat) (lb := [.pointer (some ⟨bT7, 0, none⟩), .pointer (some ⟨bT5, 0, none⟩), .pointer (some ⟨bT6, 0, none⟩), .pointer (some ⟨bT4, 0, none⟩)]) (enc := encHT) own186 rfl rfl (YT (FX F (w403.heap.size + 1)) pb c r am mb cm n B w403.heap.size (CX (FX F (w403.heap.size + 1)) pb w403 C R ts)) (ZT (FX F (w403.heap.size + 1)) pb c r am mb cm n (CX (FX F (w403.heap.size + 1)) pb w403 C R ts)) (FT (FX F (w403.heap.size + 1)) pb c r am mb cm n (CfX (FX F (w403.heap.size + 1)) pb w403 Cf Rf ts) (PX φ k (nth ms k))) (EX (FX F (w403.heap.size + 1)) (FX F (w403.heap.size + 1)) pb c r am mb cm n w403 (fun W => CX (FX F (w403.heap.size + 1)) pb w403 C R ts (teamsP r x (need - 1) (k + 1) (nums ++ [(k : Int)]) q ((ms.set k ((nth ms k).put x ta tg tc)).map HM.mb)) W) (ms.set k ((nth ms k).put x ta tg tc))) (EX (FX F (w403.heap.size + 1)) F0 pb c r am mb cm n w403 (EndT (teamsP r x (need - 1) (k + 1) (nums ++ [(k : Int)]) q ((ms.set k ((nth ms k).put x ta tg tc)).map HM.mb)) (CfX (FX F (w403.heap.size + 1)) pb w403 Cf Rf ts)) (PX φ k (nth ms k) (ms.set k ((nth ms k).put x ta tg tc)))) (ZT.turned (hBC.turned (Nat.le_refl _)) (.inr rfl)) (FT.turned (hBF.turned (Nat.le_refl _)) (.inr rfl)) (EX.turned (fun _ => (hBC.turned (Nat.le_refl _)) _) (.inr rfl)) (EX.turned (EndT.turned (hBF.turned (Nat.le_refl _))) (.inr rfl)) ?_ (fun x d => [(1, .pointer (some ⟨b7, 0, none⟩)), (2, .pointer (some ⟨b5, 0, none⟩)), (4, .pointer (some ⟨b4, 0, none⟩)), (5, .pointer (some ⟨bk7, 0, none⟩)), (6, .pointer (some ⟨bq, 0, none⟩)), (7, .pointer (some ⟨bk90, 0, none⟩)), (11, .pointer (some ⟨d, 0, none⟩))]) (fun x d W => (Blk W d 275 [.slice x.ao x.nums.length x.cap, .int .i64 x.pl] ∧ w403.heap.size + 1 < d) ∧ YT (FX F (w403.heap.size + 1)) pb c r am mb cm n B w403.heap.size (CX (FX F (w403.heap.size + 1)) pb w403 C R ts) x W) (fun d x W W' h hl u => ⟨⟨h.1.1.keep u (h.1.1.notLoop hl), h.1.2⟩, YT.turned (hBC.turned (Nat.le_refl _)) _ _ _ h.2 hl u⟩) ?_ ?_ ?_ ?_)
  ·
   intro l_ D_ R_ Rf_ W hD_ hl_ hsz hE1 hH_ hR_
   subst hD_ hl_
   have hxW := D432.keep hE1 (fun _ h => h)
   refine (ih (need - 1) (by omega) (FX F (w403.heap.size + 1)) (w403.heap.size + 1) w403.heap.size (CX (FX F (w403.heap.size + 1)) pb w403 C R ts) (CfX (FX F (w403.heap.size + 1)) pb w403 Cf Rf ts) R_ Rf_ (PX φ k (nth ms k)) bT7 bT5 bT6 bT4 (k + 1) (nums ++ [(k : Int)]) _ gA _ q (ms.set k ((nth ms k).put x ta tg tc)) W ⟨hp.hr, hp.hx, ?_, ?_, hBC.mono (by omega), hBF.mono (by omega), hH_, hT7.kx hE1, hT5.kx hE1, hT6.kx hE1, hT4.kx hE1, ?_, ?_, ?_, fun i h => ⟨(hFx i h).1, by have := (hFx i h).2; omega⟩, fun h => h.elim ((fun h => by have := (hp.hF _ h).2; omega)) (by omega), fun h => h.elim ((fun h => by have := (hp.hF _ h).2; omega)) (by omega), fun h => h.elim ((fun h => by have := (hp.hF _ h).2; omega)) (by omega), fun h => h.elim hp.nc (by omega), .inr rfl, fun h => .inl (hp.hFm h), rfl, by omega, ⟨hpb.1, by omega⟩, by rw [List.length_append, List.length_singleton]; omega, ?_, hp.hB9, hp.hn, ?_, ⟨by rw [List.append_nil]; exact hp.hC _ _ _ hCR hE1.to, hR2 _ _ hRR hE1.to, hE1.to⟩, hR_, PX.len hp.hφl, PX.comm hp.hφ hi0⟩).mono fun _ w9 h9 => ?_
   · exact fun p W W' h u => ⟨hp.hC _ _ _ h.hc u, hR2 _ _ h.hr u, h.hu.next u (fun i _ h => .inl (.inl (h.1 ▸ hFmb)))⟩
   · exact fun p W W' h u => ⟨hp.hCf _ _ _ h.hc u, hRf2 _ _ h.hr u, h.hu.next u (fun i _ h => .inl (.inl (h.1 ▸ hFmb)))⟩
   · exact (hrowR.ext hE1).mono fun m hm hb hg => hg.elim id (fun e => by
       have := (hrowR.row.mem m hm).ht.lt; omega)
   · exact hxW.someL (by omega)
   · exact fun _ h => h.elim (fun h => by have := (hp.hF _ h).2; omega) (fun h => by omega)
   · exact fun m hm => by
       rcases List.mem_or_eq_of_mem_set hm with q9 | q9
       · have := hp.hB m q9; omega
       · have h8 := hp.hB _ (nth_mem (xs := ms) (i := k) him)
         have h7 : (canT (nth ms k).f (nth ms k).u (nth ms k).ts x).length ≤ (nth ms k).ts.length + 1 := by unfold canT; split <;> simp [ins_len]
         rw [q9]; show (canT _ _ _ _).length + _ ≤ B; omega
   · rw [List.length_append, List.length_singleton]; have h8 := hp.hpl; have h9 := pltI_rng (nth ms k).mb x; omega
   have h8 := (hE1.to (S := TP (FX F (w403.heap.size + 1)) pb w403)).next h9.2 (fun i hi h => TP.backE hE1 hi h)
   exact h9.1.elim (fun q => .inl ⟨⟨q.1, q.2.2, h8⟩, q.2.1⟩) (fun q => .inr ⟨⟨q.1, q.2.2, h8⟩, q.2.1⟩)
  ·
   intro lq x W K433 hI hK433
   change WC _ _ _ _ _ _ [(84, .agg #[.slice x.ao x.nums.length x.cap, .int .i64 x.pl]), (1, .pointer (some ⟨b7, 0, none⟩)), (2, .pointer (some ⟨b5, 0, none⟩)), (4, .pointer (some ⟨b4, 0, none⟩)), (5, .pointer (some ⟨bk7, 0, none⟩)), (6, .pointer (some ⟨bq, 0, none⟩)), (7, .pointer (some ⟨bk90, 0, none⟩)), (83, .func (.func 186) #[] #[.pointer (some ⟨bT7, 0, none⟩), .pointer (some ⟨bT5, 0, none⟩), .pointer (some ⟨bT6, 0, none⟩), .pointer (some ⟨bT4, 0, none⟩)])] _
   refine (q_of ?_)
   refine go ?_
   refine x_n fun bk434 w435 ebk434 sbk434 B436 u437 => ?_
   try have Y438 := Sc.mk ((Upd.refl (fun _ => False) W).nx u437)
   refine x_s fun w439 sw439 B441 u440 => ?_
   try have Y442 := Sc.mk (Y438.u.next u440 (fun i hi h => by omega))
   refine go ?_
   exact hK433 bk434 _ _ ⟨rfl, rfl, rfl, rfl, rfl, rfl, rfl, trivial⟩ Y442.u ⟨⟨B441, by have := hI.hD; omega⟩, ⟨⟨hp.hC _ _ _ hI.hc.hc (Ext.to Y442.u), hR2 _ _ hI.hc.hr (Ext.to Y442.u), hI.hc.hu.nx Y442.u⟩, hI.row.ext Y442.u, hI.num.keep Y442.u (fun _ h => h), hI.nf, hI.len, hI.n3, by have := hI.hD; have := (Y442.u).size; omega, hI.upd.nx Y442.u⟩⟩
  ·
   intro lq x d w443 hY
   obtain ⟨⟨hbd, hdg⟩, hY⟩ := hY
   have huR := hY.hc.hu
   have hdl := hbd.lt
   have zhuR := huR.size
   try have Y444 := Sc.mk (Y406.u.next huR (fun i hi (h : TP (FX F (w403.heap.size + 1)) pb w403 i) => show TP F pb w0 i by first | omega | assumption | exact TP.back (Sc.u (by assumption)) hi h | exact TP.back (Sc.u (by assumption)) hi (TP.unfx h (by omega)) | exact Or.inl (by rw [h]; assumption)))
   have hPw := hY.upd
   have B446 := (B412.keep huR (show ¬ (TP (FX F (w403.heap.size + 1)) pb w403 b7) by first | omega | assumption))
   have nTb445 : ¬ TP F pb w443 b7 := TP.not hp.n7 B446 (by decide)
   have B448 := (B414.keep huR (show ¬ (TP (FX F (w403.heap.size + 1)) pb w403 b5) by first | omega | assumption))
   have nTb447 : ¬ TP F pb w443 b5 := TP.not hp.n5 B448 (by decide)
   have B450 := (B416.keep huR (show ¬ (TP (FX F (w403.heap.size + 1)) pb w403 b4) by first | omega | assumption))
   have nTb449 : ¬ TP F pb w443 b4 := TP.not hp.n4 B450 (by decide)
   have nTb451 : ¬ TP F pb w443 c := TP.not hp.nc hY.row.blk (by decide)
   have B453 := (B419.keep huR (show ¬ (TP (FX F (w403.heap.size + 1)) pb w403 bk7) by first | omega | assumption))
   have nTb452 : ¬ TP F pb w443 bk7 := TP.not (fun h => by have := (hp.hF _ h).2; omega) B453 (by decide)
   have B455 := (B421.keep huR (show ¬ (TP (FX F (w403.heap.size + 1)) pb w403 bq) by first | omega | assumption))
   have nTb454 : ¬ TP F pb w443 bq := TP.not (fun h => by have := (hp.hF _ h).2; omega) B455 (by decide)
   have B457 := (B423.keep huR (show ¬ (TP (FX F (w403.heap.size + 1)) pb w403 bk90) by first | omega | assumption))
   have nTb456 : ¬ TP F pb w443 bk90 := TP.not (fun h => by have := (hp.hF _ h).2; omega) B457 (by decide)
   change WC _ _ _ _ _ _ [(1, .pointer (some ⟨b7, 0, none⟩)), (2, .pointer (some ⟨b5, 0, none⟩)), (4, .pointer (some ⟨b4, 0, none⟩)), (5, .pointer (some ⟨bk7, 0, none⟩)), (6, .pointer (some ⟨bq, 0, none⟩)), (7, .pointer (some ⟨bk90, 0, none⟩)), (11, .pointer (some ⟨d, 0, none⟩))] _
   refine (q_of ?_)
   have hcellsR := (TP.cellsB (F := F) (pb := pb) (B := w403.heap.size) (w := w443) (fun i h => by have := (hp.hF i h).2; omega))
   refine go ?_
   refine t_yield (vs := [.agg #[.slice x.ao x.nums.length x.cap, .int .i64 x.pl]]) rfl rfl rfl rfl (hp.hH.hand ⟨ts ++ x.pre, x.nums, x.ao, x.g, x.cap, x.pl, x.hm, w443⟩ _ ⟨hY.hc.hc, (hY.row.mono fun m hm hb hf => .inl hf), hY.num, fun h hf => hY.nf h (.inl hf), hY.len, hY.n3, by have := hp.hD; omega, Upd.refl _ _⟩ hY.hc.hr) (by rintro e w' (⟨rfl, _⟩ | ⟨rfl, _⟩) <;> exact ⟨_, rfl⟩) (fun v459 w460 r461 => ?_)
   rcases r461 with ⟨hvr461, hrr461⟩ | ⟨hvr461, hrr461⟩ <;> injection hvr461 with hvr461 <;> subst hvr461
   ·
    obtain ⟨⟨hzC, hzW, u462⟩, hzR⟩ := hrr461
    have zu462 := u462.size
    try have Y463 := Sc.mk (Y444.u.next u462 (fun i hi (h : TP F pb w443 i) => show TP F pb w0 i by first | omega | assumption | exact TP.back (Sc.u (by assumption)) hi h | exact TP.back (Sc.u (by assumption)) hi (TP.unfx h (by omega)) | exact Or.inl (by rw [h]; assumption)))
    refine go ?_
    have hUr := ((Upd.refl (fun i => TP F pb w443 i) w443).next u462 (fun i hi (h : TP F pb w443 i) => show TP F pb w443 i by first | omega | assumption | exact TP.back (Sc.u (by assumption)) hi h | exact TP.back (Sc.u (by assumption)) hi (TP.unfx h (by omega)) | exact Or.inl (by rw [h]; assumption)))
    exact ⟨fun a ha => ⟨KeepsFrom.of_updB hUr hcellsR, (⟨⟨by rw [← List.append_assoc]; exact hzC, hzR, hY.hc.hu.next u462 (fun i hi h => TP.back hY.hc.hu hi h.fx)⟩, hzW.mono (fun m hm hb hg => hg.elim id (fun e => absurd (.inr e) ((hY.row.row.mem m hm).hn hb))), ((hY.upd.mono fun i e => .inl (.inr e)).next u462 (fun i hi h => TP.back (hY.upd.mono fun i e => .inl (.inr e)) hi h.fx))⟩ : ZT (FX F (w403.heap.size + 1)) pb c r am mb cm n (CX (FX F (w403.heap.size + 1)) pb w403 C R ts) x _)⟩⟩
   obtain ⟨⟨hzC, hzW, u462⟩, hzR⟩ := hrr461
   have zu462 := u462.size
   try have Y464 := Sc.mk (Y444.u.next u462 (fun i hi (h : TP F pb w443 i) => show TP F pb w0 i by first | omega | assumption | exact TP.back (Sc.u (by assumption)) hi h | exact TP.back (Sc.u (by assumption)) hi (TP.unfx h (by omega)) | exact Or.inl (by rw [h]; assumption)))
   have hzW : RowC F0 pb c r am mb cm n (φ x.hm) w460 := hzW
   have hzWb := hzW.blk
   have lt_mb := hzW.row.acc.lt
   have hphl : (φ x.hm).length = n := hzW.len
   refine go ?_
   refine c_drawnM follows (fun i => i = mb) (OTl [0, 2, 4, 6, 8, 10, 12, 15]) (by kernel_rfl) fun w466 u467 => ?_
   have zu467 := u467.size
   try have Y468 := Sc.mk (Y464.u.nx u467)
   refine go ?_
   have D469 := (hzW.row.acc.keep u467 (fun _ h => h))
   refine y_i k (D469.sl (fun _ => rfl)) (fun _ => ?_)
   refine go ?_
   refine t_storeA (vs := [.int .i64 ((nth ms k).f), .int .i64 ((nth ms k).u), .slice ((nth ms k).ap) ((nth ms k).ps.length) ((nth ms k).cp), .slice ((nth ms k).ad) ((nth ms k).nd) ((nth ms k).cd), .slice ((nth ms k).at_) ((nth ms k).ts.length) ((nth ms k).ct)]) (j := k) (o' := 0) (k := 5) (nth ms k) (fun _ => rfl) sizeOf269 rfl rfl (by omega) rfl D469 (by first | omega | (simp only [List.length_set]; omega)) rfl rfl (by decide) (by simp [Value.oneCell']) rfl (fun w471 R473 u472 => ?_)
   have zu472 := u472.size
   try have Y474 := Sc.mk (Y468.u.next u472 (fun i hi (h : i = mb) => show TP F pb w0 i by first | omega | assumption | exact TP.back (Sc.u (by assumption)) hi h | exact TP.back (Sc.u (by assumption)) hi (TP.unfx h (by omega)) | exact Or.inl (by rw [h]; assumption)))
   refine go ?_
   have hUr := ((((Upd.refl (fun i => TP F pb w443 i) w443).next u462 (fun i hi (h : TP F pb w443 i) => show TP F pb w443 i by first | omega | assumption | exact TP.back (Sc.u (by assumption)) hi h | exact TP.back (Sc.u (by assumption)) hi (TP.unfx h (by omega)) | exact Or.inl (by rw [h]; assumption))).nx u467).next u472 (fun i hi (h : i = mb) => show TP F pb w443 i by first | omega | assumption | exact TP.back (Sc.u (by assumption)) hi h | exact TP.back (Sc.u (by assumption)) hi (TP.unfx h (by omega)) | exact Or.inl (by rw [h]; assumption)))
   have B475 := ((hzWb.kx u467).keep u472 (by omega))
   have uM : Sc (MB mb pb) _ _ := ⟨(((Upd.refl (MB mb pb) _).nx u467).next u472 (fun i hi h => ⟨h, by omega⟩))⟩
   have uTP : Sc (TP F pb _) _ _ := ⟨u462.next uM.u (fun i _ h => .inl (h.1 ▸ hFmb))⟩
   have hmm8 := (hmm0.fx (l := (w403.heap.size + 1)) (fun _ => by have := hmm0.ht.lt; omega)).tp (fun i h => (hFx i h).1) huR
   have hmm9 := (hmm8.unfx.tp (fun i h => (hp.hF i h).1) u462).row hp.hFm uM.u
   have hrow9 : RowC F0 pb c r am mb cm n (PX φ k (nth ms k) x.hm) _ := ⟨⟨R473, fun m hm => by
     rcases List.mem_or_eq_of_mem_set hm with q9 | q9
     · exact (hzW.row.mem m q9).rowT hzW.row.acc uM.u
     · rw [q9]; exact hmm9.f0⟩, B475, by unfold PX; rw [List.length_set]; exact hzW.len⟩
   exact ⟨fun a ha => ⟨KeepsFrom.of_updB hUr hcellsR, (⟨⟨hp.hCf _ _ _ hzC uM.u, hRf2 _ _ hzR uM.u, hY.hc.hu.next uTP.u (fun i hi h => TP.back hY.hc.hu hi h.fx)⟩, hrow9, ((hY.upd.mono fun i e => .inl (.inr e)).next uTP.u (fun i hi h => TP.back (hY.upd.mono fun i e => .inl (.inr e)) hi h.fx))⟩ : FT (FX F (w403.heap.size + 1)) pb c r am mb cm n (CfX (FX F (w403.heap.size + 1)) pb w403 Cf Rf ts) (PX φ k (nth ms k)) x _)⟩⟩
  ·
   have D478 := ((((((((((hmkl.keepB u78 (CellsB.of (CellsIn.none _))).keepB u84 (CellsB.of (CellsIn.none _))).keepB u93 (CellsB.of (CellsIn.none _))).keepB u96 (CellsB.of (B92).cellsIn)).keepB u105 (CellsB.of (CellsIn.none _))).keepB u170 (CellsB.of (CellsIn.none _))).keepB u373 (CellsB.of hcb10.cellsIn)).keepB u391 (CellsB.of (CellsIn.none _))).keepB u397 (CellsB.of (fun i hi e => (D394).cellsIn i hi ⟨e, by omega⟩))).keepB u404 (CellsB.of (CellsIn.none _)))
   have hmk0 := D478
   have hmc0 := (TP.cellsB (F := F) (pb := pb) (B := w0.heap.size) (w := w403) (fun i h => (hp.hF i h).2))
   intro D477 w476 hD477 hE hdD477
   have hu9 : Sc (TP F pb w403) w403 w476 := ⟨⟨hE.hu.os, hE.hu.tape, hE.hu.output, hE.hu.size, fun k hk hn => hE.hu.block k hk (fun h => hn (h.unfx (by omega)))⟩⟩
   have zhu9 := hu9.u.size
   try have Y479 := Sc.mk (Y406.u.next hu9.u (fun i hi (h : TP F pb w403 i) => show TP F pb w0 i by first | omega | assumption | exact TP.back (Sc.u (by assumption)) hi h | exact TP.back (Sc.u (by assumption)) hi (TP.unfx h (by omega)) | exact Or.inl (by rw [h]; assumption)))
   have hstep : teamsP r x need i0 nums pl (ms.map HM.mb) = (ts ++ (teamsP r x (need - 1) (k + 1) (nums ++ [(k : Int)]) q ((ms.set k ((nth ms k).put x ta tg tc)).map HM.mb))) ++ teamsP r x need (k + 1) nums pl (ms.map HM.mb) := by rw [htk, teams_step' hn1 (by rw [List.length_map]; exact him), if_pos (by rw [nth_map' _ him]; exact hmay), map_put him, hq, nth_map' _ him, List.append_assoc]
   have mk480 := (hmk0.keepB hu9.u hmc0).push (D := D477) (by omega) hdD477 (fun d hd D' e => Nat.lt_of_lt_of_le (hmk0.lt d hd D' e) hD477)
   refine go ?_
   obtain ⟨pr9, v9, po9, e9, hcf9⟩ := hE.hi
   have rB : RowC F0 pb c r am mb cm n (φ ms) w476 := by have h9 := hE.row; rwa [PX.back hp.hφl hp.hφ him hi0] at h9
   have hmkE := mk480
   refine f_retMc0  results186  mk480 (fun w481 u482 omw481 => ?_)
   have zu482 := u482.size
   try have Y483 := Sc.mk (Y479.u.next u482 (fun i hi (h : w0.heap.size ≤ i) => show TP F pb w0 i by first | omega | assumption | exact TP.back (Sc.u (by assumption)) hi h | exact TP.back (Sc.u (by assumption)) hi (TP.unfx h (by omega)) | exact Or.inl (by rw [h]; assumption)))
   unfold TmQ
   exact ⟨.inr ⟨⟨ts ++ pr9, v9, po9 ++ teamsP r x need (k + 1) nums pl (ms.map HM.mb), by rw [hstep, e9]; simp, hp.hCft _ _ _ _ hcf9.hc omw481 hmkE.bent⟩, hbR.2 () _ _ _ hcf9.hr omw481 hmkE.bent, (RowC.bent (B := w0.heap.size) (by omega) _ _ _ _ rB omw481 hmkE.bent)⟩, Y483.u⟩
  ·
   have D486 := ((((((((((hmkl.keepB u78 (CellsB.of (CellsIn.none _))).keepB u84 (CellsB.of (CellsIn.none _))).keepB u93 (CellsB.of (CellsIn.none _))).keepB u96 (CellsB.of (B92).cellsIn)).keepB u105 (CellsB.of (CellsIn.none _))).keepB u170 (CellsB.of (CellsIn.none _))).keepB u373 (CellsB.of hcb10.cellsIn)).keepB u391 (CellsB.of (CellsIn.none _))).keepB u397 (CellsB.of (fun i hi e => (D394).cellsIn i hi ⟨e, by omega⟩))).keepB u404 (CellsB.of (CellsIn.none _)))
   have hmk0 := D486
   have hmc0 := (TP.cellsB (F := F) (pb := pb) (B := w0.heap.size) (w := w403) (fun i h => (hp.hF i h).2))
   intro D485 w484 hD485 hE hdD485
   have hu9 : Sc (TP F pb w403) w403 w484 := ⟨hE.hu.next (Upd.refl (fun _ => False) _) (fun _ _ h => h.elim) |>.next (Upd.refl (fun _ => False) _) (fun _ _ h => h.elim) |> fun q => ⟨q.os, q.tape, q.output, q.size, fun k hk hn => q.block k hk (fun h => hn (h.unfx (by omega)))⟩⟩
   have zhu9 := hu9.u.size
   try have Y487 := Sc.mk (Y406.u.next hu9.u (fun i hi (h : TP F pb w403 i) => show TP F pb w0 i by first | omega | assumption | exact TP.back (Sc.u (by assumption)) hi h | exact TP.back (Sc.u (by assumption)) hi (TP.unfx h (by omega)) | exact Or.inl (by rw [h]; assumption)))
   have lt_mb := hE.row.row.acc.lt
   have hsl : (ms.set k ((nth ms k).put x ta tg tc)).length = n := hE.row.len
   have hstep : teamsP r x need i0 nums pl (ms.map HM.mb) = (ts ++ (teamsP r x (need - 1) (k + 1) (nums ++ [(k : Int)]) q ((ms.set k ((nth ms k).put x ta tg tc)).map HM.mb))) ++ teamsP r x need (k + 1) nums pl (ms.map HM.mb) := by rw [htk, teams_step' hn1 (by rw [List.length_map]; exact him), if_pos (by rw [nth_map' _ him]; exact hmay), map_put him, hq, nth_map' _ him, List.append_assoc]
   have mk488 := (hmk0.keepB hu9.u hmc0).push (D := D485) (by omega) hdD485 (fun d hd D' e => Nat.lt_of_lt_of_le (hmk0.lt d hd D' e) hD485)
   refine go ?_
   refine c_drawnM follows (fun i => i = mb) (OTl [0, 2, 4, 6, 8, 10, 12, 15]) (by kernel_rfl) fun w489 u490 => ?_
   have zu490 := u490.size
   try have Y491 := Sc.mk (Y487.u.nx u490)
   have k492 := (B416.keep hu9.u (show ¬ (TP F pb w403 b4) by first | omega | assumption))
   refine go ?_
   have k493 := hE.row.blk
   refine go ?_
   have k494 := (B421.keep hu9.u (show ¬ (TP F pb w403 bq) by first | omega | assumption))
   refine go ?_
   have k495 := (B423.keep hu9.u (show ¬ (TP F pb w403 bk90) by first | omega | assumption))
   refine go ?_
   have D496 := (hE.row.row.acc.keep u490 (fun _ h => h))
   refine y_i k (D496.sl (fun _ => rfl)) (fun _ => ?_)
   refine go ?_
   refine t_storeA (vs := [.int .i64 ((nth ms k).f), .int .i64 ((nth ms k).u), .slice ((nth ms k).ap) ((nth ms k).ps.length) ((nth ms k).cp), .slice ((nth ms k).ad) ((nth ms k).nd) ((nth ms k).cd), .slice ((nth ms k).at_) ((nth ms k).ts.length) ((nth ms k).ct)]) (j := k) (o' := 0) (k := 5) (nth ms k) (fun _ => rfl) sizeOf269 rfl rfl (by omega) rfl D496 (by first | omega | (simp only [List.length_set]; omega)) rfl rfl (by decide) (by simp [Value.oneCell']) rfl (fun w498 R500 u499 => ?_)
   have zu499 := u499.size
   try have Y501 := Sc.mk (Y491.u.next u499 (fun i hi (h : i = mb) => show TP F pb w0 i by first | omega | assumption | exact TP.back (Sc.u (by assumption)) hi h | exact TP.back (Sc.u (by assumption)) hi (TP.unfx h (by omega)) | exact Or.inl (by rw [h]; assumption)))
   refine go ?_
   have k504 := (B421.keep hu9.u (show ¬ (TP F pb w403 bq) by first | omega | assumption))
   refine go ?_
   refine x_n fun bk505 w506 ebk505 sbk505 B507 u508 => ?_
   try have Y509 := Sc.mk (Y501.u.nx u508)
   refine x_s fun w510 sw510 B512 u511 => ?_
   try have Y513 := Sc.mk (Y509.u.next u511 (fun i hi (h : i = bk505) => show TP F pb w0 i by first | omega | assumption | exact TP.back (Sc.u (by assumption)) hi h | exact TP.back (Sc.u (by assumption)) hi (TP.unfx h (by omega)) | exact Or.inl (by rw [h]; assumption)))
   refine go ?_
   refine x_s fun w514 sw514 B516 u515 => ?_
   try have Y517 := Sc.mk (Y513.u.next u515 (fun i hi (h : i = bk505) => show TP F pb w0 i by first | omega | assumption | exact TP.back (Sc.u (by assumption)) hi h | exact TP.back (Sc.u (by assumption)) hi (TP.unfx h (by omega)) | exact Or.inl (by rw [h]; assumption)))
   refine go ?_
   have D518 := (((R500.keep u508 (fun _ h => h)).keep u511 (fun hb => show ¬ (mb = bk505) by first | omega | assumption)).keep u515 (fun hb => show ¬ (mb = bk505) by first | omega | assumption))
   have B519 := (((((hE.row.blk.kx u490).keep u499 (by omega)).kx u508).keep u511 (by omega)).keep u515 (by omega))
   have uB : Sc (MB mb pb) _ _ := ⟨((((((Upd.refl (MB mb pb) _).nx u490).next u499 (fun i hi (h : i = mb) => show MB mb pb i by first | omega | assumption)).nx u508).next u511 (fun i hi (h : i = bk505) => show MB mb pb i by first | omega | assumption)).next u515 (fun i hi (h : i = bk505) => show MB mb pb i by first | omega | assumption))⟩
   have hset : ((ms.set k ((nth ms k).put x ta tg tc)).set k (nth ms k)) = ms := by rw [List.set_set, set_self him]
   rw [hset] at D518
   have hrow8 : RowC F pb c r am mb cm n ms _ := ⟨⟨D518, fun m hm => by
     have hq7 := (((hrowk.row.mem m hm).row hp.hFm uMB.u).tp (fun i h => (hp.hF i h).1) hu9.u).row hp.hFm uB.u
     exact hq7⟩, B519, hrowk.len⟩
   have D520 := (((((mk488.keepB u490 (CellsB.of (CellsIn.none _))).keepB u499 (CellsB.of (fun i hi e => (D496).cellsIn i hi ⟨e, by omega⟩))).keepB u508 (CellsB.of (CellsIn.none _))).keepB u511 (CellsB.of (B507).cellsIn)).keepB u515 (CellsB.of (B512).cellsIn))
   exact hK63 (k + 1, bk505, (ts ++ (teamsP r x (need - 1) (k + 1) (nums ++ [(k : Int)]) q ((ms.set k ((nth ms k).put x ta tg tc)).map HM.mb))), (mark D485 :: dl)) _ _ (by show n - (k + 1) < n - k; omega) ⟨rfl, rfl, rfl, rfl, rfl, trivial⟩ ⟨((((((((((((((((u65.nx u78).nx u84).nx u93).next u96 (fun i hi (h : i = bk90) => show TP F pb w48 i by first | omega | assumption | exact TP.back (Sc.u (by assumption)) hi h | exact TP.back (Sc.u (by assumption)) hi (TP.unfx h (by omega)) | exact Or.inl (by rw [h]; assumption))).nx u105).nx u170).next u373 (fun i hi (h : i = t10) => show TP F pb w48 i by first | omega | assumption | exact TP.back (Sc.u (by assumption)) hi h | exact TP.back (Sc.u (by assumption)) hi (TP.unfx h (by omega)) | exact Or.inl (by rw [h]; assumption))).nx u391).next u397 (fun i hi (h : i = mb) => show TP F pb w48 i by first | omega | assumption | exact TP.back (Sc.u (by assumption)) hi h | exact TP.back (Sc.u (by assumption)) hi (TP.unfx h (by omega)) | exact Or.inl (by rw [h]; assumption))).nx u404).next hu9.u (fun i hi (h : TP F pb w403 i) => show TP F pb w48 i by first | omega | assumption | exact TP.back (Sc.u (by assumption)) hi h | exact TP.back (Sc.u (by assumption)) hi (TP.unfx h (by omega)) | exact Or.inl (by rw [h]; assumption))).nx u490).next u499 (fun i hi (h : i = mb) => show TP F pb w48 i by first | omega | assumption | exact TP.back (Sc.u (by assumption)) hi h | exact TP.back (Sc.u (by assumption)) hi (TP.unfx h (by omega)) | exact Or.inl (by rw [h]; assumption))).nx u508).next u511 (fun i hi (h : i = bk505) => show TP F pb w48 i by first | omega | assumption | exact TP.back (Sc.u (by assumption)) hi h | exact TP.back (Sc.u (by assumption)) hi (TP.unfx h (by omega)) | exact Or.inl (by rw [h]; assumption))).next u515 (fun i hi (h : i = bk505) => show TP F pb w48 i by first | omega | assumption | exact TP.back (Sc.u (by assumption)) hi h | exact TP.back (Sc.u (by assumption)) hi (TP.unfx h (by omega)) | exact Or.inl (by rw [h]; assumption))), (by omega), B516, (by show w0.heap.size ≤ bk505; omega), (hstep), (hp.hC _ _ _ hE.hi.hc ((((((Upd.refl (fun i => MB mb pb i) _).nx u490).next u499 (fun i hi (h : i = mb) => show MB mb pb i by first | omega | assumption)).nx u508).next u511 (fun i hi (h : i = bk505) => show MB mb pb i by first | omega | assumption)).next u515 (fun i hi (h : i = bk505) => show MB mb pb i by first | omega | assumption))), (hR2 _ _ hE.hi.hr ((((((Upd.refl (fun i => MB mb pb i) _).nx u490).next u499 (fun i hi (h : i = mb) => show MB mb pb i by first | omega | assumption)).nx u508).next u511 (fun i hi (h : i = bk505) => show MB mb pb i by first | omega | assumption)).next u515 (fun i hi (h : i = bk505) => show MB mb pb i by first | omega | assumption))), hrow8, D520⟩
 refine go ?_
 have hCe := (hp.hC _ _ _ hCk ((Upd.refl (fun i => MB mb pb i) _).nx u78))
 have hRe := (hR2 _ _ hRk ((Upd.refl (fun i => MB mb pb i) _).nx u78))
 have hWe := (hrowk.ext ((Upd.refl (fun _ => False) _).nx u78))
 have hmkE := (hmkl.keep ((Upd.refl (fun _ => False) _).nx u78) (CellsIn.none _))
 refine f_retMc0  results186  (hmkl.keep ((Upd.refl (fun _ => False) _).nx u78) (CellsIn.none _)) (fun w521 u522 omw521 => ?_)
 have zu522 := u522.size
 try have Y523 := Sc.mk (Y79.u.next u522 (fun i hi (h : w0.heap.size ≤ i) => show TP F pb w0 i by first | omega | assumption | exact TP.back (Sc.u (by assumption)) hi h | exact TP.back (Sc.u (by assumption)) hi (TP.unfx h (by omega)) | exact Or.inl (by rw [h]; assumption)))
 unfold TmQ
 have e9 : teamsP r x need i0 nums pl (ms.map HM.mb) = ts := by rw [htk, teams_end' hn1 (by rw [List.length_map]; omega), List.append_nil]
 exact ⟨.inl ⟨by rw [e9]; exact hp.hCt _ _ _ _ hCe omw521 hmkE.bent, hbR.1 () _ _ _ hRe omw521 hmkE.bent, (RowC.bent (B := w0.heap.size) (by omega) _ _ _ _ hWe omw521 hmkE.bent)⟩, Y523.u⟩

end Go.Proofs.YtclinbbghnebaaaGreat
