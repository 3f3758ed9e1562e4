/-
  Part 5 of the proof: contracts and plain laws. Conditions: none.
-/
import Derived.Test.YtagmodjadmecdaaGreatJK4
namespace Go.Proofs.YtagmodjadmecdaaGreat
open Go Go.RowKit Tryz

theorem chk_ok {r : Rul} {l : List Dty} (h : chkRD r l = 0) : okRul r = true ∧ l.length ≤ 20 ∧ ∀ d ∈ l, okDty d = true := by
  unfold chkRD chkR chkD at h
  by_cases h1 : okRul r = true
  · rw [if_pos h1, if_neg (by decide)] at h
    by_cases h2 : 20 < l.length
    · rw [if_pos h2] at h; cases h
    · rw [if_neg h2] at h
      by_cases h3 : (l.any fun d => !okDty d) = true
      · rw [if_pos h3] at h; cases h
      · refine ⟨h1, by omega, fun d hd => ?_⟩
        cases hq : okDty d with
        | true => rfl
        | false => exact absurd (List.any_eq_true.2 ⟨d, hd, by simp [hq]⟩) h3
  · rw [if_neg h1, if_pos (by decide)] at h; cases h
theorem lngs_ok {l : List Dty} (h : ∀ d ∈ l, okDty d = true) : ∀ x ∈ srtS (l.map lngS), OkSp x := srt_ok fun x hx => by
  obtain ⟨d, hd, rfl⟩ := List.mem_map.1 hx; exact lng_ok (h d hd)
theorem shts_ok {l : List Dty} (h : ∀ d ∈ l, okDty d = true) : ∀ x ∈ srtS (l.map shtS), OkSp x := srt_ok fun x hx => by
  obtain ⟨d, hd, rfl⟩ := List.mem_map.1 hx; exact sht_ok (h d hd)
def brkK (r : Rul) (l : List Dty) (k : Nat) : Int := brokP r (srtS ((l.take k).map lngS))
def RestR (r : Rul) (l : List Dty) (at_ rule : Int) : Prop :=
  (at_ = -1 ∧ rule = 0 ∧ ∀ k, k < l.length → brkK r l (k + 1) = 0) ∨ ∃ k : Nat, k < l.length ∧ at_ = k ∧ rule = brkK r l (k + 1) ∧ rule ≠ 0 ∧ ∀ j, j < k → brkK r l (j + 1) = 0
def RestA (r : Rul) (l : List Dty) (at_ rule : Int) (pos : Bool) (e : Int) : Prop :=
  (chkRD r l ≠ 0 ∧ e = chkRD r l ∧ at_ = 0 ∧ rule = 0 ∧ pos = false) ∨ (chkRD r l = 0 ∧ e = 0 ∧ RestR r l at_ rule ∧ pos = decide (brokP r (srtS (l.map shtS)) = 0))
def mxF (l : List Sp) (f : Int) (k : Nat) : Int := (l.take k).foldl (fun e s => max e s.e) f
theorem mxF_succ {l : List Sp} {f : Int} {k : Nat} (hk : k < l.length) : mxF l f (k + 1) = max (mxF l f k) (nth l k).e := by unfold mxF; rw [take_nth hk, List.foldl_append]; rfl
theorem mxF_rng {l : List Sp} {f : Int} (hf : 0 ≤ f ∧ f ≤ 20160) (hl : ∀ x ∈ l, OkSp x) : ∀ k, k ≤ l.length → 0 ≤ mxF l f k ∧ mxF l f k ≤ 20160
  | 0, _ => hf
  | k + 1, hk => by
    have h1 := mxF_rng hf hl k (by omega)
    have h2 := hl _ (nth_mem (show k < l.length by omega))
    unfold OkSp at h2
    rw [mxF_succ (by omega)]; omega
def NextR (r : Rul) (R : List Sp) (f len t e : Int) : Prop :=
  (e = 0 ∧ f ≤ t ∧ t + len ≤ 20160 ∧ brokP r (insS ⟨t, t + len⟩ R) = 0 ∧ ∀ u, f ≤ u → u < t → brokP r (insS ⟨u, u + len⟩ R) ≠ 0) ∨
  (e = 7 ∧ t = 0 ∧ ∀ u, f ≤ u → u + len ≤ 20160 → brokP r (insS ⟨u, u + len⟩ R) ≠ 0)
def NextA (r : Rul) (l : List Dty) (f len t e : Int) : Prop :=
  (chkRD r l ≠ 0 ∧ e = chkRD r l ∧ t = 0) ∨ (chkRD r l = 0 ∧ ¬ ((0 ≤ f ∧ f ≤ 20160) ∧ (1 ≤ len ∧ len ≤ 20160)) ∧ e = 3 ∧ t = 0) ∨
  (chkRD r l = 0 ∧ ((0 ≤ f ∧ f ≤ 20160) ∧ (1 ≤ len ∧ len ≤ 20160)) ∧ ((brokP r (srtS (l.map lngS)) ≠ 0 ∧ e = 9 ∧ t = 0) ∨ (brokP r (srtS (l.map lngS)) = 0 ∧ NextR r (srtS (l.map lngS)) (mxF (srtS (l.map lngS)) f (srtS (l.map lngS)).length) len t e)))
def AppC (b2 : Nat) (wR : World) (pre : List Shf) (W : World) : Prop :=
  Upd (fun i => i = b2 ∨ wR.heap.size + 1 ≤ i) wR W ∧ pre.length ≤ 100000 ∧ ∃ ao g cp, Blk W b2 29 [.slice ao (List.length pre) cp] ∧ Acc encShf 3 44 (wR.heap.size + 2) W ao g cp pre
theorem AppC.ext {b2 : Nat} {wR : World} (pre : List Shf) (W W' : World) (h : AppC b2 wR pre W) (u : Ext W W') : AppC b2 wR pre W' := by
  obtain ⟨h1, hn, ao, g, cp, h2, h3⟩ := h
  exact ⟨h1.nx u, hn, ao, g, cp, h2.kx u, h3.keep u (fun _ h => h)⟩
theorem AppC.turned {b2 : Nat} {wR : World} : Turned (wR.heap.size + 1) (AppC b2 wR) := fun pre W W' h hl u => by
  obtain ⟨h1, hn, ao, g, cp, h2, h3⟩ := h
  exact ⟨h1.trans (u.mono fun i e => .inr (by subst e; exact Nat.le_refl _)), hn, ao, g, cp, h2.keep u (h2.notLoop hl), h3.keep u (fun hb e => by omega)⟩
theorem own77 : Own Tryz.prog 77 := ⟨Tryz.f77, func77, by kernel_rfl, by kernel_rfl⟩
theorem own45 : Own Tryz.prog 45 := ⟨Tryz.f45, func45, by kernel_rfl, by kernel_rfl⟩
theorem own11 : Own Tryz.prog 11 := ⟨Tryz.f11, func11, by kernel_rfl, by kernel_rfl⟩
theorem own12 : Own Tryz.prog 12 := ⟨Tryz.f12, func12, by kernel_rfl, by kernel_rfl⟩
theorem own20 : Own Tryz.prog 20 := ⟨Tryz.f20, func20, by kernel_rfl, by kernel_rfl⟩

theorem with_c (l : List Sp) (al : Option Addr) (bl ol cl : Nat) (s : Sp) (w0 : World) (hl : Sl encSp 2 w0 al bl ol l) (hll : l.length ≤ 100000) (hs : Srt l) (hpos : 0 < w0.heap.size) :
    CallsV Tryz.prog 51 [.slice al l.length cl, .agg #[.int .i64 s.b, .int .i64 s.e]] w0 (fun v w' => (∃ ao g cp, v = .slice ao (List.length (insS s l)) cp ∧ Acc encSp 2 109 w0.heap.size w' ao g cp (insS s l)) ∧ Ext w0 w') := by
 refine f_enter (N := 19) func51 rfl rfl rfl (c_seq fun K1 hK1 => (c_region (t_box (cs := [.int .i64 s.b, .int .i64 s.e]) rfl rfl rfl rfl (fun bk2 w3 ebk2 sbk2 B4 u5 => ?_))))
 have zu5 := u5.size
 have E6 := (Upd.refl (fun _ => False) w0).nx u5
 refine t_assign rfl rfl rfl (t_nil' (hK1 _ _ (c_seq fun K7 hK7 => (c_region (t_move rfl rfl rfl (t_loadN (vs := [.int .i64 s.b, .int .i64 s.e]) isAgg109 sizeOf109 rfl rfl rfl (B4.at.sub 0 2) rfl (t_call own82 rfl rfl rfl rfl (search_c l al bl ol cl s _ (hl.keep E6 (fun _ h => h)) hll hs) (fun v8 w9 r11 => ?_))))))))
 obtain ⟨⟨kS, bS, rfl, hkS, hkl, hkr⟩, u10⟩ := r11
 have zu10 := u10.size
 refine t_move rfl rfl rfl (t_extract rfl rfl rfl rfl (t_extract rfl rfl rfl rfl (t_assign rfl rfl rfl (t_assign rfl rfl rfl (t_nil' (hK7 _ _ (c_seq fun K13 hK13 => (c_drawnM follows (fun _ => False) (.look 0 (.look 2 (.look 3 (.act 1 (.act 4 (.act 5 (.look 6 .done) .stop) .stop) (.act 4 (.act 1 (.act 5 (.look 6 .done) .stop) .stop) .stop))))) (by kernel_rfl) fun w14 u15 => ?_))))))))
 have zu15 := u15.size
 have E16 := (E6.nx u10).nx u15
 refine y_move rfl rfl rfl (y_move rfl rfl rfl ?_)
 have B17 := ((B4.kx u10).kx u15)
 refine y_loadN (vs := [.int .i64 s.b, .int .i64 s.e]) isAgg109 sizeOf109 rfl rfl rfl (B17.at.sub 0 2) rfl (fun h => h) (s_or ?_ ?_)
 ·
  refine s_do (t_call own84 rfl rfl rfl rfl (clone_c l al bl ol cl _ (hl.keep E16 (fun _ h => h)) hll (by omega)) (fun v19 w20 r22 => ?_))
  obtain ⟨⟨aoC18, gC18, cC18, rfl, hacC18⟩, u21⟩ := r22
  have zu21 := u21.size
  have lt_gC18 := hacC18.lt
  refine s_next ((Upd.refl _ _).nx u21) (s_do (t_bslice (ps := [(0, .agg #[.int .i64 s.b, .int .i64 s.e])]) (cs := [.int .i64 s.b, .int .i64 s.e]) (e := 109) rfl rfl ⟨rfl, rfl⟩ (fun w => by kernel_rfl) (fun bk24 w25 ebk24 sbk24 B26 u27 => ?_)))
  have zu27 := u27.size
  refine s_next ((Upd.refl _ _).nx u27) (s_do ?_)
  have D29 := (hacC18.kE u27)
  refine t_call own83 rfl rfl rfl rfl (insert_c l aoC18 gC18 cC18 w14.heap.size kS bk24 s _ D29 hkS hll (by omega) B26 (fun h => by omega)) (fun v30 w31 r33 => ?_)
  obtain ⟨⟨aoI, gI, cI, rfl, hacI⟩, u32⟩ := r33
  have zu32 := u32.size
  rw [← ins_at hkS hkl hkr] at hacI
  have lt_gI := hacI.lt
  refine t_same 18 (v := .slice aoI ((insS s l).length) cI) rfl (by rw [ins_at hkS hkl hkr]) (s_next ((Upd.refl _ _).next u32 (fun i hi (h : (i = gC18 ∧ w14.heap.size ≤ i)) => show w14.heap.size ≤ i ∨ (False) by first | omega | exact .inr h)) (y_assign rfl rfl rfl (s_nil (hK13 _ _ (c_ret (f_ret1 (v := .slice aoI ((insS s l).length) cI) results51 rfl ?_))))))
  obtain ⟨g9, ha9⟩ := Acc.lower (base' := w0.heap.size) hacI (by omega) hpos
  exact ⟨⟨aoI, g9, cI, rfl, ha9⟩, (((E16.nx u21).nx u27).next u32 (fun i hi h => by omega))⟩
 refine s_do (t_bslice (ps := [(0, .agg #[.int .i64 s.b, .int .i64 s.e])]) (cs := [.int .i64 s.b, .int .i64 s.e]) (e := 109) rfl rfl ⟨rfl, rfl⟩ (fun w => by kernel_rfl) (fun bk35 w36 ebk35 sbk35 B37 u38 => ?_))
 have zu38 := u38.size
 have E39 := E16.nx u38
 refine s_next ((Upd.refl _ _).nx u38) (s_do (t_call own84 rfl rfl rfl rfl (clone_c l al bl ol cl _ (hl.keep E39 (fun _ h => h)) hll (by omega)) (fun v41 w42 r44 => ?_)))
 obtain ⟨⟨aoC40, gC40, cC40, rfl, hacC40⟩, u43⟩ := r44
 have zu43 := u43.size
 have lt_gC40 := hacC40.lt
 refine s_next ((Upd.refl _ _).nx u43) (s_do ?_)
 have B46 := (B37.kx u43)
 refine t_call own83 rfl rfl rfl rfl (insert_c l aoC40 gC40 cC40 w36.heap.size kS bk35 s _ hacC40 hkS hll (by omega) B46 (fun h => by omega)) (fun v47 w48 r50 => ?_)
 obtain ⟨⟨aoI, gI, cI, rfl, hacI⟩, u49⟩ := r50
 have zu49 := u49.size
 rw [← ins_at hkS hkl hkr] at hacI
 have lt_gI := hacI.lt
 refine t_same 18 (v := .slice aoI ((insS s l).length) cI) rfl (by rw [ins_at hkS hkl hkr]) (s_next ((Upd.refl _ _).next u49 (fun i hi (h : (i = gC40 ∧ w36.heap.size ≤ i)) => show w14.heap.size ≤ i ∨ (False) by first | omega | exact .inr h)) (y_assign rfl rfl rfl (s_nil (hK13 _ _ (c_ret (f_ret1 (v := .slice aoI ((insS s l).length) cI) results51 rfl ?_))))))
 obtain ⟨g9, ha9⟩ := Acc.lower (base' := w0.heap.size) hacI (by omega) hpos
 exact ⟨⟨aoI, g9, cI, rfl, ha9⟩, ((E39.nx u43).next u49 (fun i hi h => by omega))⟩

set_option maxHeartbeats 1000000 in
theorem appSeq_c (r : Rul) (l : List Sp) (al : Option Addr) (bl ol cl : Nat) (b1 b2 : Nat) (w0 : World) (h1 : Blk w0 b1 103 [.slice al l.length cl]) (h2 : Blk w0 b2 100 [.int .i64 r.rest, .int .i64 r.span, .int .i64 r.work, .int .i64 r.week, .int .i64 r.ww]) (hl : Sl encSp 2 w0 al bl ol l) (hll : l.length ≤ 100000) (hok : ∀ x ∈ l, OkSp x) (hr : okRul r = true) (_hl9 : l.length ≤ 900) (hpos : 0 < w0.heap.size) :
    CallsV Tryz.prog 77 [.slice none 0 0, .func (.func 78) #[] #[.pointer (some ⟨b1, 0, none⟩), .pointer (some ⟨b2, 0, none⟩)]] w0 (fun v w' => (∃ ao g cp, v = .slice ao (List.length (shiftsP r l)) cp ∧ Acc encShf 3 44 w0.heap.size w' ao g cp (shiftsP r l)) ∧ Ext w0 w') := by
 refine f_enterM (N := 13) func77 rfl rfl rfl (c_seq fun K1 hK1 => (c_region (t_box (cs := [.slice none 0 0]) rfl rfl rfl rfl (fun bk2 w3 ebk2 sbk2 B4 u5 => ?_))))
 have zu5 := u5.size
 have E6 := (Upd.refl (fun _ => False) w0).nx u5
 refine t_assign rfl rfl rfl (t_nil' (hK1 _ _ (c_seq fun K7 hK7 => (c_seq fun K8 hK8 => (c_region (t_move rfl rfl rfl (t_nil' (hK8 _ _ (c_block ?_)))))))))
 have B9 := (h1.kx u5)
 have B10 := (h2.kx u5)
 have lw0 := B4.lt
 have lw1 := B9.lt
 have lw2 := B10.lt
 have hlS := (hl.keep E6 (fun _ h => h))
 have lh1 := h1.lt
 have lh2 := h2.lt
 refine WC.weak [(2, .pointer (some ⟨bk2, 0, none⟩)), (4, .slice none 0 0), (6, .func (.func 78) #[] #[.pointer (some ⟨b1, 0, none⟩), .pointer (some ⟨b2, 0, none⟩)])] ⟨rfl, rfl, rfl, trivial⟩ (c_rangeL (γ := ShX) (δ := Nat) (lb := [.pointer (some ⟨b1, 0, none⟩), .pointer (some ⟨b2, 0, none⟩)]) (enc := encShX) own78 rfl rfl (YSh w3.heap.size (AppC bk2 w3)) (ZSh (fun i => i = bk2 ∨ w3.heap.size + 1 ≤ i) (AppC bk2 w3)) (FSh (fun i => i = bk2 ∨ w3.heap.size + 1 ≤ i) (fun _ _ => False)) (AppC bk2 w3 (shiftsP r l)) (EndF (shiftsP r l) (fun _ _ => False)) (ZSh.turned AppC.turned (by simp)) (FSh.turned (fun _ _ _ h => h.elim) (by simp)) (fun _ W W' h hl u => AppC.turned _ W W' h hl u) (EndF.turned (D := w3.heap.size) (fun _ _ _ h => h.elim)) ?_ (fun x d => [(2, .pointer (some ⟨bk2, 0, none⟩)), (5, .pointer (some ⟨d, 0, none⟩))]) (fun x d W => Blk W d 44 (encShf x.v) ∧ w3.heap.size + 1 < d ∧ YSh w3.heap.size (AppC bk2 w3) x W) (fun d x W W' h hl u => ⟨h.1.keep u (h.1.notLoop hl), h.2.1, YSh.turned AppC.turned _ _ _ h.2.2 hl u⟩) ?_ ?_ ?_ ?_)
 ·
  intro l_ D R Rf W hD hl_ hsz hE1 hH hR
  subst hD hl_
  refine (shifts1_c r l al bl ol cl _ _ b1 b2 (fun i => i = bk2 ∨ w3.heap.size + 1 ≤ i) (AppC bk2 w3) (fun _ _ => False) R Rf W (fun p W W' h u => AppC.ext p W W' h u) (fun p W W' h u => h) hH (B9.kx hE1) (B10.kx hE1) (hlS.keep hE1 (fun _ h => h)) hll hok hr rfl (by omega) (show ¬ (b1 = bk2 ∨ w3.heap.size + 1 ≤ b1) by omega) (show ¬ (b2 = bk2 ∨ w3.heap.size + 1 ≤ b2) by omega) (fun hp => by have h9 := hl.lt hp; show ¬ (bl = bk2 ∨ w3.heap.size + 1 ≤ bl); omega) hR ⟨Ext.to hE1, by simp, none, 0, 0, B4.kx hE1, Acc.nil _ _ _ _ _ (by omega) (by omega)⟩).mono fun _ _ h => h.1
 ·
  intro lq x W K11 hI hK11
  change WC _ _ _ _ _ _ [(7, .agg #[.int .i64 x.v.b, .int .i64 x.v.e, .int .i64 x.v.w]), (2, .pointer (some ⟨bk2, 0, none⟩)), (4, .slice none 0 0), (6, .func (.func 78) #[] #[.pointer (some ⟨b1, 0, none⟩), .pointer (some ⟨b2, 0, none⟩)])] _
  obtain ⟨_, ⟨hrg, hDW⟩, hux⟩ := id hI
  refine c_region (t_alloc (cs := [.int .i64 0, .int .i64 0, .int .i64 0]) zeroValue44 rfl rfl rfl (fun bk12 w13 ebk12 sbk12 B14 u15 => ?_))
  have zu15 := u15.size
  refine t_st (vs := [.int .i64 x.v.b, .int .i64 x.v.e, .int .i64 x.v.w]) sizeOf44 rfl rfl rfl B14 rfl rfl rfl rfl (fun w17 sw17 B19 u18 => ?_)
  have zu18 := u18.size
  have E20 := ((Upd.refl (fun _ => False) W).nx u15).next u18 (fun i hi h => by omega)
  have B19 : Blk w17 bk12 44 [.int .i64 x.v.b, .int .i64 x.v.e, .int .i64 x.v.w] := B19
  refine t_nil' ?_
  exact hK11 bk12 _ _ ⟨rfl, rfl, trivial⟩ E20 ⟨B19, by omega, AppC.ext _ _ _ hI.1 E20, ⟨hrg, by have := (E20).size; omega⟩, hux.nx E20⟩
 ·
  intro lq x d w21 hY
  obtain ⟨hbd, hdg, ⟨hu0, hpn, ao2, g2, c2, hc0, hac⟩, ⟨⟨hrg, hpx⟩, hDW⟩, hux⟩ := hY
  have hdl := hbd.lt
  have hc0l := hc0.lt
  have zhu0 := hu0.size
  have lt_g2 := hac.lt
  have hbg : w3.heap.size + 2 ≤ g2 → g2 ≠ bk2 := fun h => by omega
  change WC _ _ _ _ _ _ [(2, .pointer (some ⟨bk2, 0, none⟩)), (5, .pointer (some ⟨d, 0, none⟩))] _
  have hcellsR := ((hc0).cellsIn.or (hac).cellsIn)
  refine c_block (c_region (t_load isAgg29 rfl rfl rfl (hc0.get rfl) (t_loadN (vs := [.int .i64 x.v.b, .int .i64 x.v.e, .int .i64 x.v.w]) isAgg44 sizeOf44 rfl rfl rfl (hbd.at.sub 0 3) rfl (t_bslice (ps := [(0, .agg #[.int .i64 x.v.b, .int .i64 x.v.e, .int .i64 x.v.w])]) (cs := [.int .i64 x.v.b, .int .i64 x.v.e, .int .i64 x.v.w]) (e := 44) rfl rfl ⟨rfl, rfl⟩ (fun w => by kernel_rfl) (fun bk23 w24 ebk23 sbk23 B25 u26 => ?_)))))
  have zu26 := u26.size
  have D28 := (hac.kE u26)
  refine t_append (z := .agg #[.int .i64 0, .int .i64 0, .int .i64 0]) (bytes := 24) (k := 3) (base := (w3.heap.size + 2)) x.v underlying29 (by kernel_rfl) rfl (by decide) (fun _ => rfl) (by intro x; simp [encShf, Value.oneCell']) rfl rfl rfl rfl D28 B25 (by omega) (by omega) (by decide) (fun ao29 gb30 cp31 w32 A33 u34 gegb30 lngb30 => ?_)
  have zu34 := u34.size
  have lt_gb30 := A33.lt
  have B36 := ((hc0.kx u26).keep u34 (by omega))
  refine t_st (vs := [.slice ao29 (((x.pre ++ [x.v])).length) cp31]) sizeOf29 rfl rfl rfl B36 rfl rfl rfl rfl (fun w37 sw37 B39 u38 => ?_)
  have zu38 := u38.size
  have B39 : Blk w37 bk2 29 [.slice ao29 (((x.pre ++ [x.v])).length) cp31] := B39
  refine t_nil' ?_
  have hUr := ((((Upd.refl (fun i => i = bk2 ∨ (i = g2 ∧ (w3.heap.size + 2) ≤ i)) w21).nx u26).next u34 (fun i hi h => by omega)).next u38 (fun i hi h => by omega))
  have D41 := (A33.keep u38 (fun hb => show ¬ (gb30 = bk2) by first | omega | assumption))
  exact fun a ha => ⟨KeepsFrom.of_upd hUr hcellsR, ⟨⟨(((hu0.nx u26).next u34 (fun i hi (h : (i = g2 ∧ (w3.heap.size + 2) ≤ i)) => show i = bk2 ∨ w3.heap.size + 1 ≤ i by omega)).next u38 (fun i hi (h : i = bk2) => show i = bk2 ∨ w3.heap.size + 1 ≤ i by omega)), by rw [List.length_append, List.length_singleton]; omega, ao29, gb30, cp31, B39, D41⟩, ((hux.mono fun i e => .inr (by subst e; exact Nat.le_refl _)).trans ((((Upd.refl (fun i => i = bk2 ∨ w3.heap.size + 1 ≤ i) _).nx u26).next u34 (fun i hi (h : (i = g2 ∧ (w3.heap.size + 2) ≤ i)) => show i = bk2 ∨ w3.heap.size + 1 ≤ i by omega)).next u38 (fun i hi (h : i = bk2) => show i = bk2 ∨ w3.heap.size + 1 ≤ i by omega)))⟩⟩
 ·
  intro D w hD hE hd
  obtain ⟨_, _, _, _, hE⟩ := hE
  exact hE.elim
 ·
  have hmk0 := ((show Marks w0.heap.size [] w0 from trivial).keep ((Upd.refl (fun _ => False) _).nx u5) (CellsIn.none _))
  have hmc0 := (show CellsIn (fun i => i = bk2 ∨ w3.heap.size + 1 ≤ i) w3 from fun k hk e => by
    rcases e with rfl | e
    · exact ⟨_, _, _, B4⟩
    · omega)
  intro D43 w42 hD43 hE hdD43
  obtain ⟨hu1, hpn, ao2, g2, c2, hc0, hac⟩ := hE
  have zhu1 := hu1.size
  have lt_g2 := hac.lt
  have mk45 := (hmk0.keep hu1 hmc0).push (D := D43) (by omega) hdD43 (fun d hd D' e => Nat.lt_of_lt_of_le (hmk0.lt d hd D' e) hD43)
  refine hK7 _ _ (c_seq fun K46 hK46 => (c_region (t_load isAgg29 rfl rfl rfl (hc0.get rfl) (t_assign rfl rfl rfl (t_nil' (hK46 _ _ (c_ret ?_)))))))
  have hmkE := mk45
  refine f_retMc1 (v := .slice ao2 ((shiftsP r l).length) c2) results77 (.tmp rfl) mk45 (fun w47 u48 omw47 => ?_)
  have zu48 := u48.size
  have hacW := hac.keep omw47 (fun hb9 hd9 => by
    rcases (hac).at_ with ⟨_, _, _, h6⟩ | ⟨_, _, cur, h7, _⟩
    · omega
    · exact hmkE.notCells h7 hd9)
  obtain ⟨g9, hac9⟩ := hacW.lower (base' := w0.heap.size) (by omega) hpos
  exact ⟨⟨ao2, g9, c2, rfl, hac9⟩, ((E6.next hu1 (fun i hi (h : i = bk2 ∨ w3.heap.size + 1 ≤ i) => show False by first | omega | assumption)).next u48 (fun i hi (h : w0.heap.size ≤ i) => show False by first | omega | assumption))⟩

theorem collect_c (r : Rul) (l : List Sp) (al : Option Addr) (bl ol cl : Nat) (b1 b2 : Nat) (w0 : World) (h1 : Blk w0 b1 103 [.slice al l.length cl]) (h2 : Blk w0 b2 100 [.int .i64 r.rest, .int .i64 r.span, .int .i64 r.work, .int .i64 r.week, .int .i64 r.ww]) (hl : Sl encSp 2 w0 al bl ol l) (hll : l.length ≤ 100000) (hok : ∀ x ∈ l, OkSp x) (hr : okRul r = true) (hl9 : l.length ≤ 900) (hpos : 0 < w0.heap.size) :
    CallsV Tryz.prog 45 [.func (.func 78) #[] #[.pointer (some ⟨b1, 0, none⟩), .pointer (some ⟨b2, 0, none⟩)]] w0 (fun v w' => (∃ ao g cp, v = .slice ao (List.length (shiftsP r l)) cp ∧ Acc encShf 3 44 w0.heap.size w' ao g cp (shiftsP r l)) ∧ Ext w0 w') := by
 refine f_enter (N := 5) func45 rfl rfl rfl (c_seq fun K1 hK1 => (c_region (t_assign rfl rfl rfl (t_nil' (hK1 _ _ (c_seq fun K2 hK2 => (c_region (t_move rfl rfl rfl (t_call own77 rfl rfl rfl rfl (appSeq_c r l al bl ol cl b1 b2 _ h1 h2 hl hll hok hr hl9 (by omega)) (fun v4 w5 r7 => ?_))))))))))
 obtain ⟨⟨aoS3, gS3, cS3, rfl, haS3⟩, u6⟩ := r7
 have zu6 := u6.size
 have lt_gS3 := haS3.lt
 refine t_assign rfl rfl rfl (t_nil' (hK2 _ _ (c_ret (f_ret1 (v := .slice aoS3 ((shiftsP r l).length) cS3) results45 rfl ?_))))
 obtain ⟨g9, ha9⟩ := Acc.lower (base' := w0.heap.size) haS3 (by omega) hpos
 exact ⟨⟨aoS3, g9, cS3, rfl, ha9⟩, ((Upd.refl (fun _ => False) w0).nx u6)⟩

set_option maxHeartbeats 1000000 in
theorem Shifts_c (r : Rul) (l : List Dty) (al : Option Addr) (bl ol cl : Nat) (w0 : World) (hl : Sl encDty 4 w0 al bl ol l) (hll : l.length ≤ 1000000) (hpos : 0 < w0.heap.size) :
    CallsV Tryz.prog 11 [.agg #[.int .i64 r.rest, .int .i64 r.span, .int .i64 r.work, .int .i64 r.week, .int .i64 r.ww], .slice al l.length cl] w0 (fun v w' => (∃ ao g cp sh e, v = .tuple #[.slice ao (List.length sh) cp, .int .i64 e] ∧ Sl encShf 3 w' ao g 0 sh ∧ ((chkRD r l ≠ 0 ∧ e = chkRD r l ∧ sh = []) ∨ (chkRD r l = 0 ∧ e = 0 ∧ sh = shiftsP r (srtS (l.map lngS))))) ∧ Ext w0 w') := by
 refine f_enter (N := 19) func11 rfl rfl rfl (c_seq fun K1 hK1 => (c_region (t_box (cs := [.int .i64 r.rest, .int .i64 r.span, .int .i64 r.work, .int .i64 r.week, .int .i64 r.ww]) rfl rfl rfl rfl (fun bk2 w3 ebk2 sbk2 B4 u5 => ?_))))
 have zu5 := u5.size
 have E6 := (Upd.refl (fun _ => False) w0).nx u5
 refine t_assign rfl rfl rfl (t_assign rfl rfl rfl (t_nil' (hK1 _ _ (c_seq fun K7 hK7 => (c_seq fun K8 hK8 => (c_region (t_loadN (vs := [.int .i64 r.rest, .int .i64 r.span, .int .i64 r.work, .int .i64 r.week, .int .i64 r.ww]) isAgg23 sizeOf23 rfl rfl rfl (B4.at.sub 0 5) rfl (t_move rfl rfl rfl (t_call own44 rfl rfl rfl rfl (check_c r l al bl ol cl _ (hl.keep E6 (fun _ h => h)) hll) (fun v9 w10 r12 => ?_))))))))))
 obtain ⟨rfl, u11⟩ := r12
 have zu11 := u11.size
 have E13 := E6.nx u11
 refine t_assign rfl rfl rfl (t_nil' (hK8 _ _ (c_seq fun K14 hK14 => (c_region (t_move rfl rfl rfl (t_cmp rfl rfl rfl rfl rfl (t_nil' (hK14 _ _ (c_condp rfl (fun g11 => ?_) (fun g11 => ?_))))))))))
 ·
  refine c_seq fun K15 hK15 => (c_region (t_move rfl rfl rfl (t_assign rfl rfl rfl (t_assign rfl rfl rfl (t_nil' (hK15 _ _ (c_ret (f_ret2 (v1 := .slice none 0 0) (v2 := .int .i64 (chkRD r l)) results11 rfl rfl ?_))))))))
  exact ⟨⟨none, 0, 0, [], _, rfl, Sl.nil _ _ _ _ _ _, .inl ⟨g11, rfl, rfl⟩⟩, E13⟩
 have hc0 : chkRD r l = 0 := Decidable.not_not.1 g11
 obtain ⟨hr, hl20, hod⟩ := chk_ok hc0
 refine c_skip (hK7 _ _ (c_seq fun K16 hK16 => (c_drawnM follows (fun _ => False) (.look 0 (.look 1 (.look 2 (.act 3 (.act 4 (.act 5 (.look 6 (.look 7 .done)) .stop) .stop) .stop)))) (by kernel_rfl) fun w17 u18 => ?_)))
 have zu18 := u18.size
 have E19 := E13.nx u18
 have B20 := ((B4.kx u11).kx u18)
 refine y_loadN (vs := [.int .i64 r.rest, .int .i64 r.span, .int .i64 r.work, .int .i64 r.week, .int .i64 r.ww]) isAgg23 sizeOf23 rfl rfl rfl (B20.at.sub 0 5) rfl (fun h => h) (y_build (ps := [(0, .agg #[.int .i64 r.rest, .int .i64 r.span, .int .i64 r.work, .int .i64 r.week, .int .i64 r.ww])]) (v := .agg #[.int .i64 r.rest, .int .i64 r.span, .int .i64 r.work, .int .i64 r.week, .int .i64 r.ww]) rfl rfl ⟨rfl, rfl⟩ (fun w => by kernel_rfl) (y_move rfl rfl rfl (s_do (t_call own47 rfl rfl rfl rfl (rosterL_c l al bl ol cl _ (hl.keep E19 (fun _ h => h)) (by omega) (by omega)) (fun v22 w23 r25 => ?_)))))
 obtain ⟨⟨aoR21, gR21, cR21, rfl, haR21⟩, u24⟩ := r25
 have zu24 := u24.size
 have lt_gR21 := haR21.lt
 have hlR21 : (srtS (l.map lngS)).length = l.length := by rw [srt_len, List.length_map]
 refine s_next ((Upd.refl _ _).nx u24) (s_do (t_call own46 rfl rfl rfl rfl (shifts_c r (srtS (l.map lngS)) aoR21 gR21 0 cR21 _) (fun v27 w28 r30 => ?_)))
 obtain ⟨⟨bS1, bS2, rfl, hBS1, hBS2, gS1, gS2⟩, u29⟩ := r30
 have zu29 := u29.size
 refine s_next ((Upd.refl _ _).nx u29) (s_do ?_)
 have D33 := (haR21.kE u29)
 refine t_call own45 rfl rfl rfl rfl (collect_c r (srtS (l.map lngS)) aoR21 gR21 0 cR21 bS1 bS2 _ hBS1 hBS2 (D33.sl (fun _ => rfl)) (by rw [srt_len, List.length_map]; omega) (lngs_ok hod) hr (by rw [srt_len, List.length_map]; omega) (by omega)) (fun v34 w35 r37 => ?_)
 obtain ⟨⟨aoS32, gS32, cS32, rfl, haS32⟩, u36⟩ := r37
 have zu36 := u36.size
 have lt_gS32 := haS32.lt
 refine s_next ((Upd.refl _ _).nx u36) (y_assign rfl rfl rfl (y_assign rfl rfl rfl (s_nil (hK16 _ _ (c_ret (f_ret2 (v1 := .slice aoS32 ((shiftsP r (srtS (l.map lngS))).length) cS32) (v2 := .int .i64 0) results11 rfl rfl ?_))))))
 exact ⟨⟨aoS32, gS32, cS32, _, 0, rfl, haS32.sl (fun _ => rfl), .inr ⟨hc0, rfl, rfl⟩⟩, (((E19.nx u24).nx u29).nx u36)⟩

set_option maxHeartbeats 1000000 in
theorem Rested_c (r : Rul) (l : List Dty) (al : Option Addr) (bl ol cl : Nat) (w0 : World) (hl : Sl encDty 4 w0 al bl ol l) (hll : l.length ≤ 1000000) (hpos : 0 < w0.heap.size) :
    CallsV Tryz.prog 12 [.agg #[.int .i64 r.rest, .int .i64 r.span, .int .i64 r.work, .int .i64 r.week, .int .i64 r.ww], .slice al l.length cl] w0 (fun v w' => (∃ at_ rule pos e, v = .tuple #[.int .i64 at_, .int .i64 rule, .bool pos, .int .i64 e] ∧ RestA r l at_ rule pos e) ∧ Ext w0 w') := by
 refine f_enter (N := 46) func12 rfl rfl rfl (c_seq fun K1 hK1 => (c_region (t_box (cs := [.int .i64 r.rest, .int .i64 r.span, .int .i64 r.work, .int .i64 r.week, .int .i64 r.ww]) rfl rfl rfl rfl (fun bk2 w3 ebk2 sbk2 B4 u5 => ?_))))
 have zu5 := u5.size
 have E6 := (Upd.refl (fun _ => False) w0).nx u5
 refine t_assign rfl rfl rfl (t_assign rfl rfl rfl (t_assign rfl rfl rfl (t_assign rfl rfl rfl (t_nil' (hK1 _ _ (c_seq fun K7 hK7 => (c_seq fun K8 hK8 => (c_region (t_loadN (vs := [.int .i64 r.rest, .int .i64 r.span, .int .i64 r.work, .int .i64 r.week, .int .i64 r.ww]) isAgg23 sizeOf23 rfl rfl rfl (B4.at.sub 0 5) rfl (t_move rfl rfl rfl (t_call own44 rfl rfl rfl rfl (check_c r l al bl ol cl _ (hl.keep E6 (fun _ h => h)) hll) (fun v9 w10 r12 => ?_))))))))))))
 obtain ⟨rfl, u11⟩ := r12
 have zu11 := u11.size
 have E13 := E6.nx u11
 refine t_assign rfl rfl rfl (t_nil' (hK8 _ _ (c_seq fun K14 hK14 => (c_region (t_move rfl rfl rfl (t_cmp rfl rfl rfl rfl rfl (t_nil' (hK14 _ _ (c_condp rfl (fun g17 => ?_) (fun g17 => ?_))))))))))
 ·
  refine c_seq fun K15 hK15 => (c_region (t_move rfl rfl rfl (t_assign rfl rfl rfl (t_assign rfl rfl rfl (t_assign rfl rfl rfl (t_assign rfl rfl rfl (t_nil' (hK15 _ _ (c_ret (f_ret4 (v1 := .int .i64 0) (v2 := .int .i64 0) (v3 := .bool false) (v4 := .int .i64 (chkRD r l)) results12 rfl rfl rfl rfl ?_))))))))))
  exact ⟨⟨0, 0, false, _, rfl, .inl ⟨g17, rfl, rfl, rfl, rfl⟩⟩, E13⟩
 have hc0 : chkRD r l = 0 := Decidable.not_not.1 g17
 obtain ⟨hr, hl20, hod⟩ := chk_ok hc0
 refine c_skip (hK7 _ _ (c_seq fun K16 hK16 => (c_region ?_)))
 have B17 := (B4.kx u11)
 refine t_loadN (vs := [.int .i64 r.rest, .int .i64 r.span, .int .i64 r.work, .int .i64 r.week, .int .i64 r.ww]) isAgg23 sizeOf23 rfl rfl rfl (B17.at.sub 0 5) rfl (t_build (ps := [(0, .agg #[.int .i64 r.rest, .int .i64 r.span, .int .i64 r.work, .int .i64 r.week, .int .i64 r.ww])]) (v := .agg #[.int .i64 r.rest, .int .i64 r.span, .int .i64 r.work, .int .i64 r.week, .int .i64 r.ww]) rfl rfl ⟨rfl, rfl⟩ (fun w => by kernel_rfl) (t_alloc (cs := [.int .i64 0, .int .i64 0, .int .i64 0, .int .i64 0, .int .i64 0]) zeroValue100 rfl rfl rfl (fun bk18 w19 ebk18 sbk18 B20 u21 => ?_)))
 have zu21 := u21.size
 refine t_st (vs := [.int .i64 r.rest, .int .i64 r.span, .int .i64 r.work, .int .i64 r.week, .int .i64 r.ww]) sizeOf100 rfl rfl rfl B20 rfl rfl rfl rfl (fun w23 sw23 B25 u24 => ?_)
 have zu24 := u24.size
 have B25 : Blk w23 bk18 100 [.int .i64 r.rest, .int .i64 r.span, .int .i64 r.work, .int .i64 r.week, .int .i64 r.ww] := B25
 refine t_nil' (hK16 _ _ (c_seq fun K27 hK27 => (c_drawnM follows (fun _ => False) (.look 0 (.look 1 (.act 2 (.act 3 (.look 4 .done) .stop) .stop))) (by kernel_rfl) fun w28 u29 => ?_)))
 have zu29 := u29.size
 have E30 := ((E13.nx u21).next u24 (fun i hi h => by omega)).nx u29
 have B31 := (B25.kx u29)
 refine y_loadN (vs := [.int .i64 r.rest, .int .i64 r.span, .int .i64 r.work, .int .i64 r.week, .int .i64 r.ww]) isAgg100 sizeOf100 rfl rfl rfl (B31.at.sub 0 5) rfl (fun h => h) (y_move rfl rfl rfl (s_do (t_call own47 rfl rfl rfl rfl (rosterS_c l al bl ol cl _ (hl.keep E30 (fun _ h => h)) (by omega) (by omega)) (fun v33 w34 r36 => ?_))))
 obtain ⟨⟨aoR32, gR32, cR32, rfl, haR32⟩, u35⟩ := r36
 have zu35 := u35.size
 have lt_gR32 := haR32.lt
 have hlR32 : (srtS (l.map shtS)).length = l.length := by rw [srt_len, List.length_map]
 refine s_next ((Upd.refl _ _).nx u35) (s_do (t_call own49 rfl rfl rfl rfl (keeps_c r (srtS (l.map shtS)) aoR32 gR32 0 cR32 _ (haR32.sl (fun _ => rfl)) (by rw [srt_len, List.length_map]; omega) (shts_ok hod) hr) (fun v38 w39 r41 => ?_)))
 obtain ⟨rfl, u40⟩ := r41
 have zu40 := u40.size
 refine s_next ((Upd.refl _ _).nx u40) (y_assign rfl rfl rfl (s_nil (hK27 _ _ (c_seq fun K43 hK43 => (c_region (t_assign rfl rfl rfl (t_nil' (hK43 _ _ (c_seq fun K44 hK44 => (c_seq fun K45 hK45 => (c_region (t_move rfl rfl rfl (t_len underlying24 rfl rfl rfl rfl (t_move rfl rfl rfl (t_nil' (hK45 _ _ (c_block (c_loop (γ := Nat × Option Addr × Nat × Nat × List Sp) (fun gg => [(6, .bool (decide (brokP r (srtS (l.map shtS)) = 0))), (9, .pointer (some ⟨bk18, 0, none⟩)), (10, .slice gg.2.1 gg.2.2.2.2.length gg.2.2.2.1), (25, .slice al l.length cl), (26, .int .i64 (l.length : Int)), (27, .int .i64 (gg.1 : Int))]) (fun gg w => Upd (fun _ => False) w39 w ∧ (gg.1 ≤ l.length) ∧ (Sl encSp 2 w gg.2.1 gg.2.2.1 0 gg.2.2.2.2) ∧ (gg.2.2.2.2 = (srtS ((l.take gg.1).map lngS))) ∧ (∀ j, j < gg.1 → brkK r l (j + 1) = 0)) (fun gg => l.length - gg.1) (0, none, 0, 0, []) ⟨rfl, rfl, rfl, rfl, rfl, rfl, trivial⟩ ⟨Upd.refl _ _, (Nat.zero_le _), (Sl.nil _ _ _ _ _ _), rfl, (fun j hj => absurd hj (Nat.not_lt_zero _))⟩ ?_))))))))))))))))))
 intro gg w47 hW K46 hK46
 obtain ⟨k, ao, gt, ct, ts⟩ := gg
 change WC _ _ _ _ _ _ [(6, .bool (decide (brokP r (srtS (l.map shtS)) = 0))), (9, .pointer (some ⟨bk18, 0, none⟩)), (10, .slice ao ts.length ct), (25, .slice al l.length cl), (26, .int .i64 (l.length : Int)), (27, .int .i64 (k : Int))] _
 change Upd (fun _ => False) w39 w47 ∧ (k ≤ l.length) ∧ (Sl encSp 2 w47 ao gt 0 ts) ∧ (ts = (srtS ((l.take k).map lngS))) ∧ (∀ j, j < k → brkK r l (j + 1) = 0) at hW
 obtain ⟨u48, I49, I50, I51, I52⟩ := hW
 have zu48 := u48.size
 have E53 := ((E30.nx u35).nx u40).nx u48
 have hk := I49; clear I49
 have hts := I50; clear I50
 have hte := I51; clear I51
 have hno := I52; clear I52
 have htl : ts.length = k := by rw [hte, srt_len, List.length_map, List.length_take]; omega
 have hos : Srt ts := by rw [hte]; exact srt_srt _
 have hok1 : ∀ x ∈ ts, OkSp x := by rw [hte]; exact srt_ok fun x hx => by obtain ⟨d, hd, rfl⟩ := List.mem_map.1 hx; exact lng_ok (hod d (List.mem_of_mem_take hd))
 refine c_seq fun K54 hK54 => (c_region (t_cmp rfl rfl rfl rfl rfl (t_nil' (hK54 _ _ (c_seq fun K55 hK55 => (c_condp rfl (fun g28 => ?_) (fun g28 => ?_)))))))
 ·
  have hw1 : insS (lngS (nth l k)) ts = (srtS ((l.take (k + 1)).map lngS)) := by rw [hte, ins_srtS, take_nth (by omega), List.map_append]; rfl
  have hb1 : brokP r (insS (lngS (nth l k)) ts) = brkK r l (k + 1) := by unfold brkK; rw [hw1]
  have hokw : ∀ x ∈ insS (lngS (nth l k)) ts, OkSp x := ins_ok (lng_ok (hod _ (nth_mem (by omega)))) hok1
  refine c_skip (hK55 _ _ (c_seq fun K56 hK56 => (c_block (c_seq fun K57 hK57 => (c_region (t_move rfl rfl rfl ?_))))))
  have i58 : k < l.length := (by omega)
  refine t_index (j := k) underlying24 sizeOf37 rfl rfl rfl rfl ((hl.keep E53 (fun _ h => h)).addr (by omega)) rfl i58 (t_loadN (vs := [.int .i64 ((nth l k).bl), .int .i64 ((nth l k).bh), .int .i64 ((nth l k).el), .int .i64 ((nth l k).eh)]) isAgg37 sizeOf37 rfl rfl rfl (((hl.keep E53 (fun _ h => h)).at_ k (by omega)).sub 0 4) rfl (t_alloc (cs := [.int .i64 0, .int .i64 0, .int .i64 0, .int .i64 0]) zeroValue37 rfl rfl rfl (fun bk59 w60 ebk59 sbk59 B61 u62 => ?_)))
  have zu62 := u62.size
  refine t_assign rfl rfl rfl (t_st (vs := [.int .i64 ((nth l k).bl), .int .i64 ((nth l k).bh), .int .i64 ((nth l k).el), .int .i64 ((nth l k).eh)]) sizeOf37 rfl rfl rfl B61 rfl rfl rfl rfl (fun w64 sw64 B66 u65 => ?_))
  have zu65 := u65.size
  have B66 : Blk w64 bk59 37 [.int .i64 ((nth l k).bl), .int .i64 ((nth l k).bh), .int .i64 ((nth l k).el), .int .i64 ((nth l k).eh)] := B66
  refine t_nil' (hK57 _ _ (c_seq fun K68 hK68 => (c_region (t_move rfl rfl rfl (t_loadN (vs := [.int .i64 ((nth l k).bl), .int .i64 ((nth l k).bh), .int .i64 ((nth l k).el), .int .i64 ((nth l k).eh)]) isAgg37 sizeOf37 rfl rfl rfl (B66.at.sub 0 4) rfl (t_call own48 rfl rfl rfl rfl (longest_c (nth l k) _) (fun v69 w70 r72 => ?_)))))))
  obtain ⟨rfl, u71⟩ := r72
  have zu71 := u71.size
  have D74 := (((hts.kE u62).keep u65 (fun hp => by have h9 := hts.lt hp; show ¬ (gt = bk59); omega)).kE u71)
  refine t_call own51 rfl rfl rfl rfl (with_c ts ao gt 0 ct (lngS (nth l k)) _ D74 (by rw [htl]; omega) hos (by omega)) (fun v76 w77 r79 => ?_)
  obtain ⟨⟨aoW75, gW75, cW75, rfl, haW75⟩, u78⟩ := r79
  have zu78 := u78.size
  have lt_gW75 := haW75.lt
  refine t_assign rfl rfl rfl (t_nil' (hK68 _ _ (c_seq fun K81 hK81 => (c_region ?_))))
  have B82 := ((((((((B25.kx u29).kx u35).kx u40).kx u48).kx u62).keep u65 (by omega)).kx u71).kx u78)
  refine t_loadN (vs := [.int .i64 r.rest, .int .i64 r.span, .int .i64 r.work, .int .i64 r.week, .int .i64 r.ww]) isAgg100 sizeOf100 rfl rfl rfl (B82.at.sub 0 5) rfl (t_move rfl rfl rfl (t_call own52 rfl rfl rfl rfl (broken_c r (insS (lngS (nth l k)) ts) aoW75 gW75 0 cW75 _ (haW75.sl (fun _ => rfl)) (by rw [ins_len]; omega) hokw hr) (fun v83 w84 r86 => ?_)))
  obtain ⟨rfl, u85⟩ := r86
  have zu85 := u85.size
  refine t_assign rfl rfl rfl (t_nil' (hK81 _ _ (c_seq fun K88 hK88 => (c_region (t_move rfl rfl rfl (t_cmp rfl rfl rfl rfl rfl (t_nil' (hK88 _ _ (c_condp rfl (fun g40 => ?_) (fun g40 => ?_))))))))))
  ·
   refine c_seq fun K89 hK89 => (c_region (t_move rfl rfl rfl (t_move rfl rfl rfl (t_move rfl rfl rfl (t_assign rfl rfl rfl (t_assign rfl rfl rfl (t_assign rfl rfl rfl (t_assign rfl rfl rfl (t_nil' (hK89 _ _ (c_ret (f_ret4 (v1 := .int .i64 (k : Int)) (v2 := .int .i64 (brokP r (insS (lngS (nth l k)) ts))) (v3 := .bool (decide (brokP r (srtS (l.map shtS)) = 0))) (v4 := .int .i64 0) results12 rfl rfl rfl rfl ?_))))))))))))
   exact ⟨⟨_, _, _, _, rfl, .inr ⟨hc0, rfl, .inr ⟨k, by omega, rfl, hb1, g40, hno⟩, rfl⟩⟩, (((((E53.nx u62).next u65 (fun i hi h => by omega)).nx u71).nx u78).nx u85)⟩
  refine c_skip (hK56 _ _ (c_region (t_ari rfl rfl rfl rfl rfl (by omega) (t_move rfl rfl rfl (t_nil' ?_)))))
  have D90 := (haW75.kE u85)
  exact hK46 (k + 1, aoW75, gW75, cW75, (insS (lngS (nth l k)) ts)) _ _ (by show l.length - (k + 1) < l.length - k; omega) ⟨rfl, rfl, rfl, rfl, rfl, rfl, trivial⟩ ⟨(((((u48.nx u62).next u65 (fun i hi h => by omega)).nx u71).nx u78).nx u85), (by omega), (D90.sl (fun _ => rfl)), hw1, (fun j hj => by
    rcases Nat.lt_or_ge j k with h | h
    · exact hno j h
    · rw [show j = k by omega]; exact hb1.symm.trans (Decidable.not_not.1 g40))⟩
 refine c_exit (hK44 _ _ (c_seq fun K91 hK91 => (c_region (t_move rfl rfl rfl (t_assign rfl rfl rfl (t_assign rfl rfl rfl (t_assign rfl rfl rfl (t_assign rfl rfl rfl (t_nil' (hK91 _ _ (c_ret (f_ret4 (v1 := .int .i64 (-1)) (v2 := .int .i64 0) (v3 := .bool (decide (brokP r (srtS (l.map shtS)) = 0))) (v4 := .int .i64 0) results12 rfl rfl rfl rfl ?_))))))))))))
 exact ⟨⟨_, _, _, _, rfl, .inr ⟨hc0, rfl, .inl ⟨rfl, rfl, fun j hj => hno j (by omega)⟩, rfl⟩⟩, E53⟩

set_option maxHeartbeats 1000000 in
theorem Next_c (r : Rul) (l : List Dty) (al : Option Addr) (bl ol cl : Nat) (f len : Int) (w0 : World) (hl : Sl encDty 4 w0 al bl ol l) (hll : l.length ≤ 1000000) (hpos : 0 < w0.heap.size) :
    CallsV Tryz.prog 20 [.agg #[.int .i64 r.rest, .int .i64 r.span, .int .i64 r.work, .int .i64 r.week, .int .i64 r.ww], .slice al l.length cl, .int .i64 f, .int .i64 len] w0 (fun v w' => (∃ t e, v = .tuple #[.int .i64 t, .int .i64 e] ∧ NextA r l f len t e) ∧ Ext w0 w') := by
 refine f_enter (N := 70) func20 rfl rfl rfl (c_seq fun K1 hK1 => (c_region (t_box (cs := [.int .i64 r.rest, .int .i64 r.span, .int .i64 r.work, .int .i64 r.week, .int .i64 r.ww]) rfl rfl rfl rfl (fun bk2 w3 ebk2 sbk2 B4 u5 => ?_))))
 have zu5 := u5.size
 have E6 := (Upd.refl (fun _ => False) w0).nx u5
 refine t_assign rfl rfl rfl (t_assign rfl rfl rfl (t_nil' (hK1 _ _ (c_seq fun K7 hK7 => (c_seq fun K8 hK8 => (c_region (t_loadN (vs := [.int .i64 r.rest, .int .i64 r.span, .int .i64 r.work, .int .i64 r.week, .int .i64 r.ww]) isAgg23 sizeOf23 rfl rfl rfl (B4.at.sub 0 5) rfl (t_move rfl rfl rfl (t_call own44 rfl rfl rfl rfl (check_c r l al bl ol cl _ (hl.keep E6 (fun _ h => h)) hll) (fun v9 w10 r12 => ?_))))))))))
 obtain ⟨rfl, u11⟩ := r12
 have zu11 := u11.size
 have E13 := E6.nx u11
 refine t_assign rfl rfl rfl (t_nil' (hK8 _ _ (c_seq fun K14 hK14 => (c_region (t_move rfl rfl rfl (t_cmp rfl rfl rfl rfl rfl (t_nil' (hK14 _ _ (c_condp rfl (fun g20 => ?_) (fun g20 => ?_))))))))))
 ·
  refine c_seq fun K15 hK15 => (c_region (t_move rfl rfl rfl (t_assign rfl rfl rfl (t_assign rfl rfl rfl (t_nil' (hK15 _ _ (c_ret (f_ret2 (v1 := .int .i64 0) (v2 := .int .i64 (chkRD r l)) results20 rfl rfl ?_))))))))
  exact ⟨⟨0, _, rfl, .inl ⟨g20, rfl, rfl⟩⟩, E13⟩
 have hc0 : chkRD r l = 0 := Decidable.not_not.1 g20
 obtain ⟨hr, hl20, hod⟩ := chk_ok hc0
 refine c_skip (hK7 _ _ (c_seq fun K16 hK16 => (c_drawnM follows (fun _ => False) (.look 0 (.look 1 (.look 2 (.act 3 (.act 4 (.act 5 (.look 6 .done) .stop) .stop) (.act 4 (.act 3 (.act 5 (.look 6 .done) .stop) .stop) .stop))))) (by kernel_rfl) fun w17 u18 => ?_)))
 have zu18 := u18.size
 have E19 := E13.nx u18
 have B20 := ((B4.kx u11).kx u18)
 refine y_loadN (vs := [.int .i64 r.rest, .int .i64 r.span, .int .i64 r.work, .int .i64 r.week, .int .i64 r.ww]) isAgg23 sizeOf23 rfl rfl rfl (B20.at.sub 0 5) rfl (fun h => h) (y_build (ps := [(0, .agg #[.int .i64 r.rest, .int .i64 r.span, .int .i64 r.work, .int .i64 r.week, .int .i64 r.ww])]) (v := .agg #[.int .i64 r.rest, .int .i64 r.span, .int .i64 r.work, .int .i64 r.week, .int .i64 r.ww]) rfl rfl ⟨rfl, rfl⟩ (fun w => by kernel_rfl) (y_move rfl rfl rfl (s_or ?_ ?_)))
 ·
  refine s_do (t_call own47 rfl rfl rfl rfl (rosterL_c l al bl ol cl _ (hl.keep E19 (fun _ h => h)) (by omega) (by omega)) (fun v22 w23 r25 => ?_))
  obtain ⟨⟨aoR21, gR21, cR21, rfl, haR21⟩, u24⟩ := r25
  have zu24 := u24.size
  have lt_gR21 := haR21.lt
  have hlR21 : (srtS (l.map lngS)).length = l.length := by rw [srt_len, List.length_map]
  refine s_next ((Upd.refl _ _).nx u24) (s_do (t_alloc (cs := [.int .i64 0, .int .i64 0, .int .i64 0, .int .i64 0, .int .i64 0]) zeroValue100 rfl rfl rfl (fun bk27 w28 ebk27 sbk27 B29 u30 => ?_)))
  have zu30 := u30.size
  refine s_next ((Upd.refl _ _).nx u30) (s_do (t_st (vs := [.int .i64 r.rest, .int .i64 r.span, .int .i64 r.work, .int .i64 r.week, .int .i64 r.ww]) sizeOf100 rfl rfl rfl B29 rfl rfl rfl rfl (fun w32 sw32 B34 u33 => ?_)))
  have zu33 := u33.size
  have B34 : Blk w32 bk27 100 [.int .i64 r.rest, .int .i64 r.span, .int .i64 r.work, .int .i64 r.week, .int .i64 r.ww] := B34
  refine s_next ((Upd.refl _ _).next u33 (fun i hi (h : i = bk27) => show w17.heap.size ≤ i ∨ (False) by first | omega | exact .inr h)) (y_assign rfl rfl rfl (s_nil (hK16 _ _ (c_seq fun K36 hK36 => (c_block (c_seq fun K37 hK37 => (c_region (t_move rfl rfl rfl (t_bslice (ps := [(0, .int .i64 f)]) (cs := [.int .i64 f]) (e := 3) rfl rfl ⟨rfl, rfl⟩ (fun w => by kernel_rfl) (fun bk38 w39 ebk38 sbk38 B40 u41 => ?_))))))))))
  have zu41 := u41.size
  refine t_call own43 rfl rfl rfl rfl (within1_v 0 20160 f _ _ _ B40) (fun v43 w44 r46 => ?_)
  obtain ⟨rfl, u45⟩ := r46
  have zu45 := u45.size
  have E47 := ((((E19.nx u24).nx u30).next u33 (fun i hi h => by omega)).nx u41).nx u45
  refine t_notp rfl rfl rfl (t_move rfl rfl rfl (t_splitp 31 rfl (fun g31 => ?_) (fun g31 => ?_)))
  ·
   refine t_skip rfl rfl rfl (t_skip rfl rfl rfl (t_skip rfl rfl rfl (t_skip rfl rfl rfl (t_pick_t rfl rfl rfl rfl (t_assign rfl rfl rfl (t_nil' (hK37 _ _ (c_cond_t rfl (c_seq fun K48 hK48 => (c_region (t_assign rfl rfl rfl (t_assign rfl rfl rfl (t_nil' (hK48 _ _ (c_ret (f_ret2 (v1 := .int .i64 0) (v2 := .int .i64 3) results20 rfl rfl ?_))))))))))))))))
   exact ⟨⟨0, 3, rfl, .inr (.inl ⟨hc0, by omega, rfl, rfl⟩)⟩, E47⟩
  refine t_move rfl rfl rfl (t_bslice (ps := [(0, .int .i64 len)]) (cs := [.int .i64 len]) (e := 3) rfl rfl ⟨rfl, rfl⟩ (fun w => by kernel_rfl) (fun bk49 w50 ebk49 sbk49 B51 u52 => ?_))
  have zu52 := u52.size
  refine t_call own43 rfl rfl rfl rfl (within1_v 1 20160 len _ _ _ B51) (fun v54 w55 r57 => ?_)
  obtain ⟨rfl, u56⟩ := r57
  have zu56 := u56.size
  have E58 := (E47.nx u52).nx u56
  refine t_notp rfl rfl rfl (t_pick_f rfl rfl rfl rfl (t_assign rfl rfl rfl (t_nil' (hK37 _ _ (c_condp rfl (fun g26 => ?_) (fun g26 => ?_))))))
  ·
   refine c_seq fun K59 hK59 => (c_region (t_assign rfl rfl rfl (t_assign rfl rfl rfl (t_nil' (hK59 _ _ (c_ret (f_ret2 (v1 := .int .i64 0) (v2 := .int .i64 3) results20 rfl rfl ?_)))))))
   exact ⟨⟨0, 3, rfl, .inr (.inl ⟨hc0, by omega, rfl, rfl⟩)⟩, E58⟩
  have hfl : (0 ≤ f ∧ f ≤ 20160) ∧ (1 ≤ len ∧ len ≤ 20160) := by omega
  refine c_seq fun K60 hK60 => (c_region ?_)
  have B61 := ((((B34.kx u41).kx u45).kx u52).kx u56)
  refine t_loadN (vs := [.int .i64 r.rest, .int .i64 r.span, .int .i64 r.work, .int .i64 r.week, .int .i64 r.ww]) isAgg100 sizeOf100 rfl rfl rfl (B61.at.sub 0 5) rfl (t_move rfl rfl rfl ?_)
  have D62 := ((((((haR21.kE u30).keep u33 (fun hb => show ¬ (gR21 = bk27) by first | omega | assumption)).kE u41).kE u45).kE u52).kE u56)
  refine t_call own49 rfl rfl rfl rfl (keeps_c r (srtS (l.map lngS)) aoR21 gR21 0 cR21 _ (D62.sl (fun _ => rfl)) (by rw [srt_len, List.length_map]; omega) (lngs_ok hod) hr) (fun v63 w64 r66 => ?_)
  obtain ⟨rfl, u65⟩ := r66
  have zu65 := u65.size
  have E67 := E58.nx u65
  refine t_notp rfl rfl rfl (t_assign rfl rfl rfl (t_nil' (hK60 _ _ (c_condp rfl (fun g37 => ?_) (fun g37 => ?_)))))
  ·
   refine c_seq fun K68 hK68 => (c_region (t_assign rfl rfl rfl (t_assign rfl rfl rfl (t_nil' (hK68 _ _ (c_ret (f_ret2 (v1 := .int .i64 0) (v2 := .int .i64 9) results20 rfl rfl ?_)))))))
   exact ⟨⟨0, 9, rfl, .inr (.inr ⟨hc0, hfl, .inl ⟨by simpa using g37, rfl, rfl⟩⟩)⟩, E67⟩
  have hkp : brokP r (srtS (l.map lngS)) = 0 := by simpa using g37
  refine c_skip (hK36 _ _ (c_seq fun K69 hK69 => (c_seq fun K70 hK70 => (c_region (t_move rfl rfl rfl (t_len underlying103 rfl rfl rfl rfl (t_move rfl rfl rfl (t_nil' (hK70 _ _ (c_block (c_loop (γ := Nat) (fun k => [(2, .int .i64 (mxF (srtS (l.map lngS)) f k)), (3, .int .i64 len), (11, .pointer (some ⟨bk27, 0, none⟩)), (12, .slice aoR21 ((srtS (l.map lngS)).length) cR21), (42, .slice aoR21 ((srtS (l.map lngS)).length) cR21), (43, .int .i64 ((srtS (l.map lngS)).length : Int)), (44, .int .i64 (k : Int))]) (fun k w => Upd (fun _ => False) w64 w ∧ (k ≤ (srtS (l.map lngS)).length)) (fun k => (srtS (l.map lngS)).length - k) 0 ⟨rfl, rfl, rfl, rfl, rfl, rfl, rfl, trivial⟩ ⟨Upd.refl _ _, (Nat.zero_le _)⟩ ?_)))))))))))
  intro k w72 hW K71 hK71
  obtain ⟨u73, I74⟩ := hW
  have zu73 := u73.size
  have hk := I74; clear I74
  refine c_seq fun K76 hK76 => (c_region (t_cmp rfl rfl rfl rfl rfl (t_nil' (hK76 _ _ (c_seq fun K77 hK77 => (c_condp rfl (fun g45 => ?_) (fun g45 => ?_)))))))
  ·
   refine c_skip (hK77 _ _ (c_seq fun K78 hK78 => (c_block (c_seq fun K79 hK79 => (c_region ?_)))))
   have D80 := ((D62.kE u65).kE u73)
   have i81 : k < (srtS (l.map lngS)).length := (by omega)
   refine t_index (j := k) underlying103 sizeOf109 rfl rfl rfl rfl ((D80.sl (fun _ => rfl)).addr (by omega)) rfl i81 (t_loadN (vs := [.int .i64 ((nth (srtS (l.map lngS)) k).b), .int .i64 ((nth (srtS (l.map lngS)) k).e)]) isAgg109 sizeOf109 rfl rfl rfl (((D80.sl (fun _ => rfl)).at_ k (by omega)).sub 0 2) rfl (t_alloc (cs := [.int .i64 0, .int .i64 0]) zeroValue109 rfl rfl rfl (fun bk82 w83 ebk82 sbk82 B84 u85 => ?_)))
   have zu85 := u85.size
   refine t_st (vs := [.int .i64 ((nth (srtS (l.map lngS)) k).b), .int .i64 ((nth (srtS (l.map lngS)) k).e)]) sizeOf109 rfl rfl rfl B84 rfl rfl rfl rfl (fun w87 sw87 B89 u88 => ?_)
   have zu88 := u88.size
   have B89 : Blk w87 bk82 109 [.int .i64 ((nth (srtS (l.map lngS)) k).b), .int .i64 ((nth (srtS (l.map lngS)) k).e)] := B89
   refine t_nil' (hK79 _ _ (c_region (t_move rfl rfl rfl (t_field underlying109 rfl sizeOf3 (1) rfl rfl rfl rfl (t_load isAgg3 rfl rfl rfl (B89.get rfl) (t_max rfl rfl rfl rfl (t_assign rfl rfl rfl (t_nil' (hK78 _ _ (c_region (t_ari rfl rfl rfl rfl rfl (by omega) (t_move rfl rfl rfl (t_nil' ?_)))))))))))))
   exact hK71 (k + 1) _ _ (by omega) ⟨(congrArg (fun z => some (Value.int .i64 z)) (mxF_succ (by omega)).symm), rfl, rfl, rfl, rfl, rfl, rfl, trivial⟩ ⟨((u73.nx u85).next u88 (fun i hi h => by omega)), (by omega)⟩
  have hke : k = (srtS (l.map lngS)).length := by omega
  have hmr := mxF_rng hfl.1 (lngs_ok hod) k hk
  refine c_same 2 (v := .int .i64 (mxF (srtS (l.map lngS)) f (srtS (l.map lngS)).length)) rfl (by rw [← hke]) ?_
  rw [hke] at hmr
  refine c_exit (hK69 _ _ (c_seq fun K91 hK91 => (c_seq fun K92 hK92 => (c_region (t_move rfl rfl rfl (t_assign rfl rfl rfl (t_nil' (hK92 _ _ (c_block (c_loop (γ := Int) (fun t => [(3, .int .i64 len), (11, .pointer (some ⟨bk27, 0, none⟩)), (12, .slice aoR21 ((srtS (l.map lngS)).length) cR21), (15, .int .i64 t)]) (fun t w => Upd (fun _ => False) w72 w ∧ ((mxF (srtS (l.map lngS)) f (srtS (l.map lngS)).length) ≤ t ∧ t ≤ 20161) ∧ (∀ u, (mxF (srtS (l.map lngS)) f (srtS (l.map lngS)).length) ≤ u → u < t → brokP r (insS ⟨u, u + len⟩ (srtS (l.map lngS))) ≠ 0)) (fun t => (20161 - t).toNat) (mxF (srtS (l.map lngS)) f (srtS (l.map lngS)).length) ⟨rfl, rfl, rfl, rfl, trivial⟩ ⟨Upd.refl _ _, (by omega), (fun u h1 h2 => absurd h1 (by omega))⟩ ?_))))))))))
  intro t w94 hW K93 hK93
  obtain ⟨u95, I96, I97⟩ := hW
  have zu95 := u95.size
  have E98 := (E67.nx u73).nx u95
  have ht := I96; clear I96
  have hno := I97; clear I97
  refine c_seq fun K99 hK99 => (c_seq fun K100 hK100 => (c_region (t_move rfl rfl rfl (t_move rfl rfl rfl (t_ari rfl rfl rfl rfl rfl (by omega) (t_cmp rfl rfl rfl rfl rfl (t_nil' (hK100 _ _ (c_condp rfl (fun g57 => ?_) (fun g57 => ?_))))))))))
  ·
   have hokw : ∀ x ∈ (insS ⟨t, (t + len)⟩ (srtS (l.map lngS))), OkSp x := ins_ok (by unfold OkSp; simp only []; omega) (lngs_ok hod)
   refine c_skip (hK99 _ _ (c_seq fun K101 hK101 => (c_block (c_seq fun K102 hK102 => (c_drawnM follows (fun _ => False) (.look 0 (.look 1 (.look 2 (.look 3 (.look 4 (.look 5 (.look 6 (.act 7 (.act 8 .done .stop) .stop)))))))) (by kernel_rfl) fun w103 u104 => ?_)))))
   have zu104 := u104.size
   have B106 := ((((B61.kx u65).kx u73).kx u95).kx u104)
   refine y_loadN (vs := [.int .i64 r.rest, .int .i64 r.span, .int .i64 r.work, .int .i64 r.week, .int .i64 r.ww]) isAgg100 sizeOf100 rfl rfl rfl (B106.at.sub 0 5) rfl (fun h => h) (y_move rfl rfl rfl (y_move rfl rfl rfl (y_move rfl rfl rfl (y_move rfl rfl rfl (y_ari rfl rfl rfl rfl rfl (by omega) (y_build (ps := [(0, .int .i64 t), (1, .int .i64 (t + len))]) (v := .agg #[.int .i64 t, .int .i64 (t + len)]) rfl rfl ⟨rfl, rfl⟩ (fun w => by kernel_rfl) (s_do ?_)))))))
   have D107 := ((((D62.kE u65).kE u73).kE u95).kE u104)
   refine t_call own51 rfl rfl rfl rfl (with_c (srtS (l.map lngS)) aoR21 gR21 0 cR21 (⟨t, (t + len)⟩ : Sp) _ (D107.sl (fun _ => rfl)) (by rw [srt_len, List.length_map]; omega) (srt_srt _) (by omega)) (fun v109 w110 r112 => ?_)
   obtain ⟨⟨aoW108, gW108, cW108, rfl, haW108⟩, u111⟩ := r112
   have zu111 := u111.size
   have lt_gW108 := haW108.lt
   refine s_next ((Upd.refl _ _).nx u111) (s_do (t_call own49 rfl rfl rfl rfl (keeps_c r (insS (⟨t, (t + len)⟩ : Sp) (srtS (l.map lngS))) aoW108 gW108 0 cW108 _ (haW108.sl (fun _ => rfl)) (by rw [ins_len, srt_len, List.length_map]; omega) hokw hr) (fun v114 w115 r117 => ?_)))
   obtain ⟨rfl, u116⟩ := r117
   have zu116 := u116.size
   refine s_next ((Upd.refl _ _).nx u116) (s_nil (hK102 _ _ (c_condp rfl (fun g68 => ?_) (fun g68 => ?_))))
   ·
    refine c_seq fun K119 hK119 => (c_region (t_move rfl rfl rfl (t_assign rfl rfl rfl (t_assign rfl rfl rfl (t_nil' (hK119 _ _ (c_ret (f_ret2 (v1 := .int .i64 t) (v2 := .int .i64 0) results20 rfl rfl ?_))))))))
    exact ⟨⟨t, 0, rfl, .inr (.inr ⟨hc0, hfl, .inr ⟨hkp, .inl ⟨rfl, by omega, by omega, g68, hno⟩⟩⟩)⟩, (((E98.nx u104).nx u111).nx u116)⟩
   refine c_skip (hK101 _ _ (c_region (t_move rfl rfl rfl (t_ari rfl rfl rfl rfl rfl (by omega) (t_assign rfl rfl rfl (t_nil' ?_))))))
   exact hK93 (t + 1) _ _ (by omega) ⟨rfl, rfl, rfl, rfl, trivial⟩ ⟨(((u95.nx u104).nx u111).nx u116), (by omega), (fun u h1 h2 => by
     by_cases h : u < t
     · exact hno u h1 h
     · rw [show u = t by omega]; exact g68)⟩
  refine c_exit (hK91 _ _ (c_seq fun K120 hK120 => (c_region (t_assign rfl rfl rfl (t_assign rfl rfl rfl (t_nil' (hK120 _ _ (c_ret (f_ret2 (v1 := .int .i64 0) (v2 := .int .i64 7) results20 rfl rfl ?_)))))))))
  exact ⟨⟨0, 7, rfl, .inr (.inr ⟨hc0, hfl, .inr ⟨hkp, .inr ⟨rfl, rfl, fun u h1 h2 => hno u h1 (by omega)⟩⟩⟩)⟩, E98⟩
 refine s_do (t_alloc (cs := [.int .i64 0, .int .i64 0, .int .i64 0, .int .i64 0, .int .i64 0]) zeroValue100 rfl rfl rfl (fun bk121 w122 ebk121 sbk121 B123 u124 => ?_))
 have zu124 := u124.size
 have E125 := E19.nx u124
 refine s_next ((Upd.refl _ _).nx u124) (s_do (t_call own47 rfl rfl rfl rfl (rosterL_c l al bl ol cl _ (hl.keep E125 (fun _ h => h)) (by omega) (by omega)) (fun v127 w128 r130 => ?_)))
 obtain ⟨⟨aoR126, gR126, cR126, rfl, haR126⟩, u129⟩ := r130
 have zu129 := u129.size
 have lt_gR126 := haR126.lt
 have hlR126 : (srtS (l.map lngS)).length = l.length := by rw [srt_len, List.length_map]
 refine s_next ((Upd.refl _ _).nx u129) (s_do ?_)
 have B132 := (B123.kx u129)
 refine t_st (vs := [.int .i64 r.rest, .int .i64 r.span, .int .i64 r.work, .int .i64 r.week, .int .i64 r.ww]) sizeOf100 rfl rfl rfl B132 rfl rfl rfl rfl (fun w133 sw133 B135 u134 => ?_)
 have zu134 := u134.size
 have B135 : Blk w133 bk121 100 [.int .i64 r.rest, .int .i64 r.span, .int .i64 r.work, .int .i64 r.week, .int .i64 r.ww] := B135
 refine s_next ((Upd.refl _ _).next u134 (fun i hi (h : i = bk121) => show w17.heap.size ≤ i ∨ (False) by first | omega | exact .inr h)) (y_assign rfl rfl rfl (s_nil (hK16 _ _ (c_seq fun K137 hK137 => (c_block (c_seq fun K138 hK138 => (c_region (t_move rfl rfl rfl (t_bslice (ps := [(0, .int .i64 f)]) (cs := [.int .i64 f]) (e := 3) rfl rfl ⟨rfl, rfl⟩ (fun w => by kernel_rfl) (fun bk139 w140 ebk139 sbk139 B141 u142 => ?_))))))))))
 have zu142 := u142.size
 refine t_call own43 rfl rfl rfl rfl (within1_v 0 20160 f _ _ _ B141) (fun v144 w145 r147 => ?_)
 obtain ⟨rfl, u146⟩ := r147
 have zu146 := u146.size
 have E148 := (((E125.nx u129).next u134 (fun i hi h => by omega)).nx u142).nx u146
 refine t_notp rfl rfl rfl (t_move rfl rfl rfl (t_splitp 31 rfl (fun g31 => ?_) (fun g31 => ?_)))
 ·
  refine t_skip rfl rfl rfl (t_skip rfl rfl rfl (t_skip rfl rfl rfl (t_skip rfl rfl rfl (t_pick_t rfl rfl rfl rfl (t_assign rfl rfl rfl (t_nil' (hK138 _ _ (c_cond_t rfl (c_seq fun K149 hK149 => (c_region (t_assign rfl rfl rfl (t_assign rfl rfl rfl (t_nil' (hK149 _ _ (c_ret (f_ret2 (v1 := .int .i64 0) (v2 := .int .i64 3) results20 rfl rfl ?_))))))))))))))))
  exact ⟨⟨0, 3, rfl, .inr (.inl ⟨hc0, by omega, rfl, rfl⟩)⟩, E148⟩
 refine t_move rfl rfl rfl (t_bslice (ps := [(0, .int .i64 len)]) (cs := [.int .i64 len]) (e := 3) rfl rfl ⟨rfl, rfl⟩ (fun w => by kernel_rfl) (fun bk150 w151 ebk150 sbk150 B152 u153 => ?_))
 have zu153 := u153.size
 refine t_call own43 rfl rfl rfl rfl (within1_v 1 20160 len _ _ _ B152) (fun v155 w156 r158 => ?_)
 obtain ⟨rfl, u157⟩ := r158
 have zu157 := u157.size
 have E159 := (E148.nx u153).nx u157
 refine t_notp rfl rfl rfl (t_pick_f rfl rfl rfl rfl (t_assign rfl rfl rfl (t_nil' (hK138 _ _ (c_condp rfl (fun g26 => ?_) (fun g26 => ?_))))))
 ·
  refine c_seq fun K160 hK160 => (c_region (t_assign rfl rfl rfl (t_assign rfl rfl rfl (t_nil' (hK160 _ _ (c_ret (f_ret2 (v1 := .int .i64 0) (v2 := .int .i64 3) results20 rfl rfl ?_)))))))
  exact ⟨⟨0, 3, rfl, .inr (.inl ⟨hc0, by omega, rfl, rfl⟩)⟩, E159⟩
 have hfl : (0 ≤ f ∧ f ≤ 20160) ∧ (1 ≤ len ∧ len ≤ 20160) := by omega
 refine c_seq fun K161 hK161 => (c_region ?_)
 have B162 := ((((B135.kx u142).kx u146).kx u153).kx u157)
 refine t_loadN (vs := [.int .i64 r.rest, .int .i64 r.span, .int .i64 r.work, .int .i64 r.week, .int .i64 r.ww]) isAgg100 sizeOf100 rfl rfl rfl (B162.at.sub 0 5) rfl (t_move rfl rfl rfl ?_)
 have D163 := (((((haR126.keep u134 (fun hb => show ¬ (gR126 = bk121) by first | omega | assumption)).kE u142).kE u146).kE u153).kE u157)
 refine t_call own49 rfl rfl rfl rfl (keeps_c r (srtS (l.map lngS)) aoR126 gR126 0 cR126 _ (D163.sl (fun _ => rfl)) (by rw [srt_len, List.length_map]; omega) (lngs_ok hod) hr) (fun v164 w165 r167 => ?_)
 obtain ⟨rfl, u166⟩ := r167
 have zu166 := u166.size
 have E168 := E159.nx u166
 refine t_notp rfl rfl rfl (t_assign rfl rfl rfl (t_nil' (hK161 _ _ (c_condp rfl (fun g37 => ?_) (fun g37 => ?_)))))
 ·
  refine c_seq fun K169 hK169 => (c_region (t_assign rfl rfl rfl (t_assign rfl rfl rfl (t_nil' (hK169 _ _ (c_ret (f_ret2 (v1 := .int .i64 0) (v2 := .int .i64 9) results20 rfl rfl ?_)))))))
  exact ⟨⟨0, 9, rfl, .inr (.inr ⟨hc0, hfl, .inl ⟨by simpa using g37, rfl, rfl⟩⟩)⟩, E168⟩
 have hkp : brokP r (srtS (l.map lngS)) = 0 := by simpa using g37
 refine c_skip (hK137 _ _ (c_seq fun K170 hK170 => (c_seq fun K171 hK171 => (c_region (t_move rfl rfl rfl (t_len underlying103 rfl rfl rfl rfl (t_move rfl rfl rfl (t_nil' (hK171 _ _ (c_block (c_loop (γ := Nat) (fun k => [(2, .int .i64 (mxF (srtS (l.map lngS)) f k)), (3, .int .i64 len), (11, .pointer (some ⟨bk121, 0, none⟩)), (12, .slice aoR126 ((srtS (l.map lngS)).length) cR126), (42, .slice aoR126 ((srtS (l.map lngS)).length) cR126), (43, .int .i64 ((srtS (l.map lngS)).length : Int)), (44, .int .i64 (k : Int))]) (fun k w => Upd (fun _ => False) w165 w ∧ (k ≤ (srtS (l.map lngS)).length)) (fun k => (srtS (l.map lngS)).length - k) 0 ⟨rfl, rfl, rfl, rfl, rfl, rfl, rfl, trivial⟩ ⟨Upd.refl _ _, (Nat.zero_le _)⟩ ?_)))))))))))
 intro k w173 hW K172 hK172
 obtain ⟨u174, I175⟩ := hW
 have zu174 := u174.size
 have hk := I175; clear I175
 refine c_seq fun K177 hK177 => (c_region (t_cmp rfl rfl rfl rfl rfl (t_nil' (hK177 _ _ (c_seq fun K178 hK178 => (c_condp rfl (fun g45 => ?_) (fun g45 => ?_)))))))
 ·
  refine c_skip (hK178 _ _ (c_seq fun K179 hK179 => (c_block (c_seq fun K180 hK180 => (c_region ?_)))))
  have D181 := ((D163.kE u166).kE u174)
  have i182 : k < (srtS (l.map lngS)).length := (by omega)
  refine t_index (j := k) underlying103 sizeOf109 rfl rfl rfl rfl ((D181.sl (fun _ => rfl)).addr (by omega)) rfl i182 (t_loadN (vs := [.int .i64 ((nth (srtS (l.map lngS)) k).b), .int .i64 ((nth (srtS (l.map lngS)) k).e)]) isAgg109 sizeOf109 rfl rfl rfl (((D181.sl (fun _ => rfl)).at_ k (by omega)).sub 0 2) rfl (t_alloc (cs := [.int .i64 0, .int .i64 0]) zeroValue109 rfl rfl rfl (fun bk183 w184 ebk183 sbk183 B185 u186 => ?_)))
  have zu186 := u186.size
  refine t_st (vs := [.int .i64 ((nth (srtS (l.map lngS)) k).b), .int .i64 ((nth (srtS (l.map lngS)) k).e)]) sizeOf109 rfl rfl rfl B185 rfl rfl rfl rfl (fun w188 sw188 B190 u189 => ?_)
  have zu189 := u189.size
  have B190 : Blk w188 bk183 109 [.int .i64 ((nth (srtS (l.map lngS)) k).b), .int .i64 ((nth (srtS (l.map lngS)) k).e)] := B190
  refine t_nil' (hK180 _ _ (c_region (t_move rfl rfl rfl (t_field underlying109 rfl sizeOf3 (1) rfl rfl rfl rfl (t_load isAgg3 rfl rfl rfl (B190.get rfl) (t_max rfl rfl rfl rfl (t_assign rfl rfl rfl (t_nil' (hK179 _ _ (c_region (t_ari rfl rfl rfl rfl rfl (by omega) (t_move rfl rfl rfl (t_nil' ?_)))))))))))))
  exact hK172 (k + 1) _ _ (by omega) ⟨(congrArg (fun z => some (Value.int .i64 z)) (mxF_succ (by omega)).symm), rfl, rfl, rfl, rfl, rfl, rfl, trivial⟩ ⟨((u174.nx u186).next u189 (fun i hi h => by omega)), (by omega)⟩
 have hke : k = (srtS (l.map lngS)).length := by omega
 have hmr := mxF_rng hfl.1 (lngs_ok hod) k hk
 refine c_same 2 (v := .int .i64 (mxF (srtS (l.map lngS)) f (srtS (l.map lngS)).length)) rfl (by rw [← hke]) ?_
 rw [hke] at hmr
 refine c_exit (hK170 _ _ (c_seq fun K192 hK192 => (c_seq fun K193 hK193 => (c_region (t_move rfl rfl rfl (t_assign rfl rfl rfl (t_nil' (hK193 _ _ (c_block (c_loop (γ := Int) (fun t => [(3, .int .i64 len), (11, .pointer (some ⟨bk121, 0, none⟩)), (12, .slice aoR126 ((srtS (l.map lngS)).length) cR126), (15, .int .i64 t)]) (fun t w => Upd (fun _ => False) w173 w ∧ ((mxF (srtS (l.map lngS)) f (srtS (l.map lngS)).length) ≤ t ∧ t ≤ 20161) ∧ (∀ u, (mxF (srtS (l.map lngS)) f (srtS (l.map lngS)).length) ≤ u → u < t → brokP r (insS ⟨u, u + len⟩ (srtS (l.map lngS))) ≠ 0)) (fun t => (20161 - t).toNat) (mxF (srtS (l.map lngS)) f (srtS (l.map lngS)).length) ⟨rfl, rfl, rfl, rfl, trivial⟩ ⟨Upd.refl _ _, (by omega), (fun u h1 h2 => absurd h1 (by omega))⟩ ?_))))))))))
 intro t w195 hW K194 hK194
 obtain ⟨u196, I197, I198⟩ := hW
 have zu196 := u196.size
 have E199 := (E168.nx u174).nx u196
 have ht := I197; clear I197
 have hno := I198; clear I198
 refine c_seq fun K200 hK200 => (c_seq fun K201 hK201 => (c_region (t_move rfl rfl rfl (t_move rfl rfl rfl (t_ari rfl rfl rfl rfl rfl (by omega) (t_cmp rfl rfl rfl rfl rfl (t_nil' (hK201 _ _ (c_condp rfl (fun g57 => ?_) (fun g57 => ?_))))))))))
 ·
  have hokw : ∀ x ∈ (insS ⟨t, (t + len)⟩ (srtS (l.map lngS))), OkSp x := ins_ok (by unfold OkSp; simp only []; omega) (lngs_ok hod)
  refine c_skip (hK200 _ _ (c_seq fun K202 hK202 => (c_block (c_seq fun K203 hK203 => (c_drawnM follows (fun _ => False) (.look 0 (.look 1 (.look 2 (.look 3 (.look 4 (.look 5 (.look 6 (.act 7 (.act 8 .done .stop) .stop)))))))) (by kernel_rfl) fun w204 u205 => ?_)))))
  have zu205 := u205.size
  have B207 := ((((B162.kx u166).kx u174).kx u196).kx u205)
  refine y_loadN (vs := [.int .i64 r.rest, .int .i64 r.span, .int .i64 r.work, .int .i64 r.week, .int .i64 r.ww]) isAgg100 sizeOf100 rfl rfl rfl (B207.at.sub 0 5) rfl (fun h => h) (y_move rfl rfl rfl (y_move rfl rfl rfl (y_move rfl rfl rfl (y_move rfl rfl rfl (y_ari rfl rfl rfl rfl rfl (by omega) (y_build (ps := [(0, .int .i64 t), (1, .int .i64 (t + len))]) (v := .agg #[.int .i64 t, .int .i64 (t + len)]) rfl rfl ⟨rfl, rfl⟩ (fun w => by kernel_rfl) (s_do ?_)))))))
  have D208 := ((((D163.kE u166).kE u174).kE u196).kE u205)
  refine t_call own51 rfl rfl rfl rfl (with_c (srtS (l.map lngS)) aoR126 gR126 0 cR126 (⟨t, (t + len)⟩ : Sp) _ (D208.sl (fun _ => rfl)) (by rw [srt_len, List.length_map]; omega) (srt_srt _) (by omega)) (fun v210 w211 r213 => ?_)
  obtain ⟨⟨aoW209, gW209, cW209, rfl, haW209⟩, u212⟩ := r213
  have zu212 := u212.size
  have lt_gW209 := haW209.lt
  refine s_next ((Upd.refl _ _).nx u212) (s_do (t_call own49 rfl rfl rfl rfl (keeps_c r (insS (⟨t, (t + len)⟩ : Sp) (srtS (l.map lngS))) aoW209 gW209 0 cW209 _ (haW209.sl (fun _ => rfl)) (by rw [ins_len, srt_len, List.length_map]; omega) hokw hr) (fun v215 w216 r218 => ?_)))
  obtain ⟨rfl, u217⟩ := r218
  have zu217 := u217.size
  refine s_next ((Upd.refl _ _).nx u217) (s_nil (hK203 _ _ (c_condp rfl (fun g68 => ?_) (fun g68 => ?_))))
  ·
   refine c_seq fun K220 hK220 => (c_region (t_move rfl rfl rfl (t_assign rfl rfl rfl (t_assign rfl rfl rfl (t_nil' (hK220 _ _ (c_ret (f_ret2 (v1 := .int .i64 t) (v2 := .int .i64 0) results20 rfl rfl ?_))))))))
   exact ⟨⟨t, 0, rfl, .inr (.inr ⟨hc0, hfl, .inr ⟨hkp, .inl ⟨rfl, by omega, by omega, g68, hno⟩⟩⟩)⟩, (((E199.nx u205).nx u212).nx u217)⟩
  refine c_skip (hK202 _ _ (c_region (t_move rfl rfl rfl (t_ari rfl rfl rfl rfl rfl (by omega) (t_assign rfl rfl rfl (t_nil' ?_))))))
  exact hK194 (t + 1) _ _ (by omega) ⟨rfl, rfl, rfl, rfl, trivial⟩ ⟨(((u196.nx u205).nx u212).nx u217), (by omega), (fun u h1 h2 => by
    by_cases h : u < t
    · exact hno u h1 h
    · rw [show u = t by omega]; exact g68)⟩
 refine c_exit (hK192 _ _ (c_seq fun K221 hK221 => (c_region (t_assign rfl rfl rfl (t_assign rfl rfl rfl (t_nil' (hK221 _ _ (c_ret (f_ret2 (v1 := .int .i64 0) (v2 := .int .i64 7) results20 rfl rfl ?_)))))))))
 exact ⟨⟨0, 7, rfl, .inr (.inr ⟨hc0, hfl, .inr ⟨hkp, .inr ⟨rfl, rfl, fun u h1 h2 => hno u h1 (by omega)⟩⟩⟩)⟩, E199⟩

end Go.Proofs.YtagmodjadmecdaaGreat
namespace Go.Proofs.YtagmodjadmecdaaGreat
open Go Go.RowKit

inductive Shr : List Sp → List Sp → Prop
  | nil : Shr [] []
  | drop (s : Sp) {l' l : List Sp} : Shr l' l → Shr l' (s :: l)
  | keep {s' s : Sp} {l' l : List Sp} : s.b ≤ s'.b → s'.b ≤ s'.e → s'.e ≤ s.e → Shr l' l → Shr (s' :: l') (s :: l)
theorem Shr.refl : ∀ {l : List Sp}, (∀ x ∈ l, OkSp x) → Shr l l
  | [], _ => .nil
  | s :: l, h => .keep (Int.le_refl _) (h s (by simp)).2.1 (Int.le_refl _) (Shr.refl fun x hx => h x (by simp [hx]))
theorem Shr.mem {l' l : List Sp} (h : Shr l' l) : ∀ {x'}, x' ∈ l' → ∃ x, x ∈ l ∧ x.b ≤ x'.b ∧ x'.b ≤ x'.e ∧ x'.e ≤ x.e := by
  induction h with
  | nil => intro x' hx; cases hx
  | drop s _ ih => intro x' hx; obtain ⟨x, h1, h2⟩ := ih hx; exact ⟨x, by simp [h1], h2⟩
  | keep h1 h2 h3 _ ih =>
    intro x' hx
    rcases List.mem_cons.1 hx with e | hx
    · subst e; exact ⟨_, by simp, h1, h2, h3⟩
    · obtain ⟨x, h4, h5⟩ := ih hx; exact ⟨x, by simp [h4], h5⟩
theorem Shr.ok {l' l : List Sp} (h : Shr l' l) (hl : ∀ x ∈ l, OkSp x) : ∀ x ∈ l', OkSp x := fun x' hx => by
  obtain ⟨x, h1, h2, h3, h4⟩ := h.mem hx
  have := hl x h1
  unfold OkSp at this ⊢; omega
def Mild (r r' : Rul) : Prop := r'.rest ≤ r.rest ∧ r.span ≤ r'.span ∧ r.work ≤ r'.work ∧ r.week = r'.week ∧ r.ww ≤ r'.ww
theorem Mild.refl (r : Rul) : Mild r r := ⟨Int.le_refl _, Int.le_refl _, Int.le_refl _, rfl, Int.le_refl _⟩
def ShOk (r : Rul) (x : Shf) : Prop := x.e - x.b ≤ r.span ∧ x.w ≤ r.work
def GoOk (r : Rul) (x : Shf) (l : List Sp) : Prop := ∀ y ∈ shGo r x l, ShOk r y
theorem goOk_nil {r : Rul} {x : Shf} : GoOk r x [] ↔ ShOk r x := by unfold GoOk shGo; simp
theorem goOk_cons {r : Rul} {x : Shf} {s : Sp} {l : List Sp} : GoOk r x (s :: l) ↔ if s.b < x.e + r.rest then GoOk r ⟨x.b, max x.e s.e, x.w + (s.e - s.b)⟩ l else ShOk r x ∧ GoOk r ⟨s.b, s.e, s.e - s.b⟩ l := by
  unfold GoOk
  rw [shGo]
  split
  · exact Iff.rfl
  · simp
theorem GoOk.first {r : Rul} : ∀ {l : List Sp} {x : Shf}, (∀ s ∈ l, OkSp s) → GoOk r x l → ShOk r x
  | [], x, _, h => goOk_nil.1 h
  | s :: l, x, hl, h => by
    rw [goOk_cons] at h
    split at h
    · have h1 := GoOk.first (fun s hs => hl s (by simp [hs])) h
      have h2 := hl s (by simp)
      unfold ShOk at h1 ⊢; unfold OkSp at h2; simp only [] at h1; omega
    · exact h.1
def ShIn (x' x : Shf) : Prop := x.b ≤ x'.b ∧ x'.e ≤ x.e ∧ x'.w ≤ x.w
theorem ShIn.ok {r r' : Rul} {x x' : Shf} (hm : Mild r r') (h : ShIn x' x) (hx : ShOk r x) : ShOk r' x' := by
  unfold Mild at hm; unfold ShIn at h; unfold ShOk at hx ⊢; omega
-- windows
def sumW (l : List Sp) (a b : Int) : Int := sumI2 (l.map fun s => inW s a b)
theorem sumW_cons (s : Sp) (l : List Sp) (a b : Int) : sumW (s :: l) a b = inW s a b + sumW l a b := rfl
theorem sumW_zero {l : List Sp} {a b : Int} (h : ∀ s ∈ l, inW s a b = 0) : sumW l a b = 0 := by
  induction l with
  | nil => rfl
  | cons s l ih => rw [sumW_cons, h s (by simp), ih fun x hx => h x (by simp [hx])]; rfl
-- what Rested says
end Go.Proofs.YtagmodjadmecdaaGreat
namespace Go.Proofs.YtagmodjadmecdaaGreat
open Go Go.RowKit

def Apart (x y : Sp) : Prop := (¬ LtS y x → x.e ≤ y.b) ∧ (¬ LtS x y → y.e ≤ x.b)
theorem Apart.symm {x y : Sp} (h : Apart x y) : Apart y x := ⟨h.2, h.1⟩
def wrk (l : List Sp) : Int := sumI2 (l.map fun s => s.e - s.b)
def Piece (r : Rul) (q : List Sp) (y : Shf) (a c d : List Sp) : Prop := q = a ++ c ++ d ∧ (∃ s0 c', c = s0 :: c' ∧ y.b = s0.b ∧ s0.e ≤ y.e ∧ ∀ M, s0.e ≤ M → (∀ s ∈ c, s.b < M + r.rest → s.e ≤ M) → y.e ≤ M) ∧ (∀ s ∈ a, s.e ≤ y.b) ∧ (∀ s ∈ d, y.e + r.rest ≤ s.b) ∧ (∀ s ∈ c, y.b ≤ s.b ∧ s.e ≤ y.e) ∧ y.w = wrk c
theorem sumW_app (a b : List Sp) (x y : Int) : sumW (a ++ b) x y = sumW a x y + sumW b x y := by unfold sumW; rw [List.map_append, sumI2_app]
theorem sumW_full {c : List Sp} {x y : Int} (h : ∀ s ∈ c, x ≤ s.b ∧ s.e ≤ y ∧ s.b ≤ s.e) : sumW c x y = wrk c := by
  induction c with
  | nil => rfl
  | cons s c ih =>
    rw [sumW_cons, ih fun z hz => h z (by simp [hz])]
    have := h s (by simp)
    show inW s x y + wrk c = (s.e - s.b) + wrk c
    unfold inW; omega
theorem Piece.work {r : Rul} {q : List Sp} {y : Shf} {a c d : List Sp} (hr : 0 ≤ r.rest) (h : Piece r q y a c d) (ho : ∀ x ∈ q, OkSp x) : sumW q y.b y.e = y.w := by
  obtain ⟨h1, _, h2, h3, h4, h5⟩ := h
  rw [h1, sumW_app, sumW_app, sumW_zero (l := a), sumW_zero (l := d), sumW_full (c := c), h5]
  · omega
  · intro s hs; have := h4 s hs; have := ho s (by rw [h1]; simp [hs]); unfold OkSp at this; omega
  · intro s hs; have := h3 s hs; unfold inW; omega
  · intro s hs; have := h2 s hs; unfold inW; omega
end Go.Proofs.YtagmodjadmecdaaGreat
