/-
  Part 15 of the proof: contracts and plain laws. Conditions: none.
-/
import Derived.Test.YtagmodjadmecdaaGreatJK14
namespace Go.Proofs.YtagmodjadmecdaaGreat
open Go Go.RowKit Tryz

def allE (ss : List Slr) (xs : List Leg) : Int :=
  if 6 < ss.length then 5 else if (ss.any fun s => !okSlr s) = true then 2 else if 8 < xs.length then 5 else if (xs.any fun x => !okLeg x) = true then 2 else 0
theorem openE_all (r : Rul) (ss : List Slr) (xs : List Leg) : openE r ss xs = if chkR r ≠ 0 then chkR r else allE ss xs := rfl
theorem openE_bad {r : Rul} {ss : List Slr} {xs : List Leg} (h : ¬ okRul r = true) : openE r ss xs = 2 := by unfold openE chkR; rw [if_neg h, if_pos (by decide)]
theorem openE_good {r : Rul} {ss : List Slr} {xs : List Leg} (h : okRul r = true) : openE r ss xs = allE ss xs := by rw [openE_all]; unfold chkR; rw [if_pos h, if_neg (by decide)]
theorem okSlr_iff {h : HS} : okSlr h.slr = true ↔ ((0 ≤ h.f ∧ h.f ≤ h.u) ∧ h.u ≤ 20160) ∧ h.ps.length ≤ 10 ∧ chkD h.ds = 0 ∧ ∀ p ∈ h.ps, okPpr p = true := by
  unfold okSlr
  rw [decide_eq_true_eq]
  simp only [HS.slr]
  constructor
  · rintro ⟨h1, h2, h3, h4, h5⟩; exact ⟨by omega, h3, h5, h4⟩
  · rintro ⟨h1, h3, h5, h4⟩; exact ⟨by omega, by omega, h3, h4, h5⟩
abbrev pltB (x : Leg) (p : Ppr) : Bool := decide (p.r = x.r ∧ x.t.eh ≤ p.u)

theorem own34 : Own Tryz.prog 34 := ⟨Tryz.f34, func34, by kernel_rfl, by kernel_rfl⟩
theorem own35 : Own Tryz.prog 35 := ⟨Tryz.f35, func35, by kernel_rfl, by kernel_rfl⟩
theorem own30 : Own Tryz.prog 30 := ⟨Tryz.f30, func30, by kernel_rfl, by kernel_rfl⟩
theorem own36 : Own Tryz.prog 36 := ⟨Tryz.f36, func36, by kernel_rfl, by kernel_rfl⟩
theorem rSailor_c (h : HS) (w0 : World) (hm : SlrM w0 h) :
    CallsV Tryz.prog 34 [.agg #[.int .i64 h.f, .int .i64 h.u, .slice h.ap h.ps.length h.cp, .slice h.ad h.ds.length h.cd]] w0 (fun v w' => v = .bool (okSlr h.slr) ∧ Ext w0 w') := by
 refine f_enter (N := 56) func34 rfl rfl rfl (c_seq fun K1 hK1 => (c_region (t_box (cs := [.int .i64 h.f, .int .i64 h.u, .slice h.ap h.ps.length h.cp, .slice h.ad h.ds.length h.cd]) rfl rfl rfl rfl (fun bk2 w3 ebk2 sbk2 B4 u5 => ?_))))
 have zu5 := u5.size
 have E6 := (Upd.refl (fun _ => False) w0).nx u5
 refine t_assign rfl rfl rfl (t_nil' (hK1 _ _ (c_seq fun K7 hK7 => (c_cut (γ := Bool) (fun q => [(1, .pointer (some ⟨bk2, 0, none⟩)), (30, .bool q)]) (fun q w => Upd (fun _ => False) w3 w ∧ (q = true ↔ ¬ (((0 ≤ h.f ∧ h.f ≤ h.u) ∧ h.u ≤ 20160) ∧ h.ps.length ≤ 10 ∧ chkD h.ds = 0))) (fun K9 hK9 => ?_) ?_))))
 ·
  refine c_region (t_field underlying79 rfl sizeOf3 (0) rfl rfl rfl rfl (t_load isAgg3 rfl rfl rfl (B4.get rfl) (t_cmp rfl rfl rfl rfl rfl (t_move rfl rfl rfl (t_splitp 7 rfl (fun g7 => ?_) (fun g7 => ?_))))))
  ·
   refine t_skip rfl rfl rfl (t_skip rfl rfl rfl (t_skip rfl rfl rfl (t_skip rfl rfl rfl (t_skip rfl rfl rfl (t_pick_t rfl rfl rfl rfl (t_move rfl rfl rfl (t_skip rfl rfl rfl (t_skip rfl rfl rfl (t_skip rfl rfl rfl (t_pick_t rfl rfl rfl rfl (t_move rfl rfl rfl (t_skip rfl rfl rfl (t_skip rfl rfl rfl (t_skip rfl rfl rfl (t_skip rfl rfl rfl (t_pick_t rfl rfl rfl rfl (t_move rfl rfl rfl (t_skip rfl rfl rfl (t_skip rfl rfl rfl (t_skip rfl rfl rfl (t_skip rfl rfl rfl (t_pick_t rfl rfl rfl rfl (t_nil' ?_)))))))))))))))))))))))
   exact hK9 true _ _ ⟨rfl, rfl, trivial⟩ ⟨(Upd.refl _ _), ⟨fun _ => by omega, fun _ => rfl⟩⟩
  refine t_field underlying79 rfl sizeOf3 (0) rfl rfl rfl rfl (t_load isAgg3 rfl rfl rfl (B4.get rfl) (t_field underlying79 rfl sizeOf3 (1) rfl rfl rfl rfl (t_load isAgg3 rfl rfl rfl (B4.get rfl) (t_cmp rfl rfl rfl rfl rfl (t_pick_f rfl rfl rfl rfl (t_move rfl rfl rfl (t_splitp 14 rfl (fun g14 => ?_) (fun g14 => ?_))))))))
  ·
   refine t_skip rfl rfl rfl (t_skip rfl rfl rfl (t_skip rfl rfl rfl (t_pick_t rfl rfl rfl rfl (t_move rfl rfl rfl (t_skip rfl rfl rfl (t_skip rfl rfl rfl (t_skip rfl rfl rfl (t_skip rfl rfl rfl (t_pick_t rfl rfl rfl rfl (t_move rfl rfl rfl (t_skip rfl rfl rfl (t_skip rfl rfl rfl (t_skip rfl rfl rfl (t_skip rfl rfl rfl (t_pick_t rfl rfl rfl rfl (t_nil' ?_))))))))))))))))
   exact hK9 true _ _ ⟨rfl, rfl, trivial⟩ ⟨(Upd.refl _ _), ⟨fun _ => by omega, fun _ => rfl⟩⟩
  refine t_field underlying79 rfl sizeOf3 (1) rfl rfl rfl rfl (t_load isAgg3 rfl rfl rfl (B4.get rfl) (t_cmp rfl rfl rfl rfl rfl (t_pick_f rfl rfl rfl rfl (t_move rfl rfl rfl (t_splitp 19 rfl (fun g19 => ?_) (fun g19 => ?_))))))
  ·
   refine t_skip rfl rfl rfl (t_skip rfl rfl rfl (t_skip rfl rfl rfl (t_skip rfl rfl rfl (t_pick_t rfl rfl rfl rfl (t_move rfl rfl rfl (t_skip rfl rfl rfl (t_skip rfl rfl rfl (t_skip rfl rfl rfl (t_skip rfl rfl rfl (t_pick_t rfl rfl rfl rfl (t_nil' ?_)))))))))))
   exact hK9 true _ _ ⟨rfl, rfl, trivial⟩ ⟨(Upd.refl _ _), ⟨fun _ => by omega, fun _ => rfl⟩⟩
  refine t_field underlying79 rfl sizeOf77 (2) rfl rfl rfl rfl (t_load isAgg77 rfl rfl rfl (B4.get rfl) (t_len underlying77 rfl rfl rfl rfl (t_cmp rfl rfl rfl rfl rfl (t_pick_f rfl rfl rfl rfl (t_move rfl rfl rfl (t_splitp 25 rfl (fun g25 => ?_) (fun g25 => ?_)))))))
  ·
   refine t_skip rfl rfl rfl (t_skip rfl rfl rfl (t_skip rfl rfl rfl (t_skip rfl rfl rfl (t_pick_t rfl rfl rfl rfl (t_nil' ?_)))))
   exact hK9 true _ _ ⟨rfl, rfl, trivial⟩ ⟨(Upd.refl _ _), ⟨fun _ => by omega, fun _ => rfl⟩⟩
  refine t_field underlying79 rfl sizeOf24 (3) rfl rfl rfl rfl (t_load isAgg24 rfl rfl rfl (B4.get rfl) (t_call own54 rfl rfl rfl rfl (rDuties_c h.ds h.ad h.bd h.od h.cd _ (hm.hd.keep E6 (fun _ h => h)) hm.hdl) (fun v12 w13 r15 => ?_)))
  obtain ⟨rfl, u14⟩ := r15
  have zu14 := u14.size
  refine t_cmp rfl rfl rfl rfl rfl (t_pick_f rfl rfl rfl rfl (t_nil' ?_))
  exact hK9 (decide ((chkD h.ds) ≠ 0)) _ _ ⟨rfl, rfl, trivial⟩ ⟨((Upd.refl _ _).nx u14), (by rw [decide_eq_true_eq]; constructor <;> intro h <;> omega)⟩
 intro q w10 hW
 obtain ⟨u11, I17⟩ := hW
 have zu11 := u11.size
 have E18 := E6.nx u11
 have hq := I17; clear I17
 refine c_cond rfl (fun g30 => ?_) (fun g30 => ?_)
 ·
  have hQ := hq.1 g30
  refine c_seq fun K19 hK19 => (c_region (t_assign rfl rfl rfl (t_nil' (hK19 _ _ (c_ret (f_ret1 (v := .bool false) results34 rfl ?_))))))
  exact ⟨congrArg Value.bool (by rw [Bool.eq_iff_iff, okSlr_iff]; exact ⟨fun h => (by cases h), fun h => (by omega)⟩), E18⟩
 have hQ : ((0 ≤ h.f ∧ h.f ≤ h.u) ∧ h.u ≤ 20160) ∧ h.ps.length ≤ 10 ∧ chkD h.ds = 0 := Decidable.not_not.1 fun h => by rw [hq.2 h] at g30; cases g30
 refine c_skip (hK7 _ _ (c_seq fun K20 hK20 => (c_seq fun K21 hK21 => (c_region (t_assign rfl rfl rfl (t_nil' (hK21 _ _ (c_block (c_loop (γ := Nat) (fun k => [(1, .pointer (some ⟨bk2, 0, none⟩)), (3, .int .i64 (k : Int))]) (fun k w => Upd (fun _ => False) w10 w ∧ (k ≤ h.ps.length) ∧ (∀ j, j < k → okPpr (nth h.ps j) = true)) (fun k => h.ps.length - k) 0 ⟨rfl, rfl, trivial⟩ ⟨Upd.refl _ _, (Nat.zero_le _), (fun j hj => absurd hj (Nat.not_lt_zero _))⟩ ?_)))))))))
 intro k w23 hW K22 hK22
 obtain ⟨u24, I25, I26⟩ := hW
 have zu24 := u24.size
 have E27 := E18.nx u24
 have hk := I25; clear I25
 have hno := I26; clear I26
 refine c_seq fun K28 hK28 => (c_seq fun K29 hK29 => (c_region (t_move rfl rfl rfl (t_field underlying79 rfl sizeOf77 (2) rfl rfl rfl rfl ?_))))
 have B30 := ((B4.kx u11).kx u24)
 refine t_load isAgg77 rfl rfl rfl (B30.get rfl) (t_len underlying77 rfl rfl rfl rfl (t_cmp rfl rfl rfl rfl rfl (t_nil' (hK29 _ _ (c_condp rfl (fun g35 => ?_) (fun g35 => ?_))))))
 ·
  refine c_skip (hK28 _ _ (c_seq fun K31 hK31 => (c_block (c_seq fun K32 hK32 => (c_region (t_field underlying79 rfl sizeOf77 (2) rfl rfl rfl rfl (t_load isAgg77 rfl rfl rfl (B30.get rfl) (t_move rfl rfl rfl ?_))))))))
  have i33 : k < h.ps.length := (by omega)
  refine t_index (j := k) underlying77 sizeOf136 rfl rfl rfl rfl ((hm.hp.keep E27 (fun _ h => h)).addr (by omega)) rfl i33 (t_field underlying136 rfl sizeOf3 (h.op + k * 2 + 0) rfl rfl rfl rfl (t_load isAgg3 rfl rfl rfl (((hm.hp.keep E27 (fun _ h => h)).at_ k (by omega)) 0 _ rfl) (t_call own53 rfl rfl rfl rfl (rin_c ((nth h.ps k).r) 0 19 _) (fun v34 w35 r37 => ?_))))
  obtain ⟨rfl, u36⟩ := r37
  have zu36 := u36.size
  have E38 := E27.nx u36
  refine t_notp rfl rfl rfl (t_move rfl rfl rfl (t_splitp 46 rfl (fun g46 => ?_) (fun g46 => ?_)))
  ·
   refine t_skip rfl rfl rfl (t_skip rfl rfl rfl (t_skip rfl rfl rfl (t_skip rfl rfl rfl (t_skip rfl rfl rfl (t_skip rfl rfl rfl (t_skip rfl rfl rfl (t_skip rfl rfl rfl (t_pick_t rfl rfl rfl rfl (t_nil' (hK32 _ _ (c_cond_t rfl (c_seq fun K39 hK39 => (c_region (t_assign rfl rfl rfl (t_nil' (hK39 _ _ (c_ret (f_ret1 (v := .bool false) results34 rfl ?_))))))))))))))))))
   exact ⟨congrArg Value.bool (by rw [Bool.eq_iff_iff, okSlr_iff]; exact ⟨fun h => (by cases h), fun h9 => (by have h8 := h9.2.2.2 _ (nth_mem (show k < h.ps.length by omega)); unfold okPpr at h8; rw [decide_eq_true_eq] at h8; omega)⟩), E38⟩
  refine t_field underlying79 rfl sizeOf77 (2) rfl rfl rfl rfl ?_
  have B40 := (B30.kx u36)
  refine t_load isAgg77 rfl rfl rfl (B40.get rfl) (t_move rfl rfl rfl ?_)
  have i41 : k < h.ps.length := (by omega)
  refine t_index (j := k) underlying77 sizeOf136 rfl rfl rfl rfl ((hm.hp.keep E38 (fun _ h => h)).addr (by omega)) rfl i41 (t_field underlying136 rfl sizeOf3 (h.op + k * 2 + 1) rfl rfl rfl rfl (t_load isAgg3 rfl rfl rfl (((hm.hp.keep E38 (fun _ h => h)).at_ k (by omega)) 1 _ rfl) (t_call own53 rfl rfl rfl rfl (rin_c ((nth h.ps k).u) 0 20160 _) (fun v42 w43 r45 => ?_))))
  obtain ⟨rfl, u44⟩ := r45
  have zu44 := u44.size
  refine t_notp rfl rfl rfl (t_pick_f rfl rfl rfl rfl (t_nil' (hK32 _ _ (c_condp rfl (fun g55 => ?_) (fun g55 => ?_)))))
  ·
   refine c_seq fun K47 hK47 => (c_region (t_assign rfl rfl rfl (t_nil' (hK47 _ _ (c_ret (f_ret1 (v := .bool false) results34 rfl ?_))))))
   exact ⟨congrArg Value.bool (by rw [Bool.eq_iff_iff, okSlr_iff]; exact ⟨fun h => (by cases h), fun h9 => (by have h8 := h9.2.2.2 _ (nth_mem (show k < h.ps.length by omega)); unfold okPpr at h8; rw [decide_eq_true_eq] at h8; omega)⟩), (E38.nx u44)⟩
  refine c_skip (hK31 _ _ (c_region (t_move rfl rfl rfl (t_ari rfl rfl rfl rfl rfl (by omega) (t_assign rfl rfl rfl (t_nil' ?_))))))
  exact hK22 (k + 1) _ _ (by omega) ⟨rfl, rfl, trivial⟩ ⟨((u24.nx u36).nx u44), (by omega), (fun j hj => by
    rcases Nat.lt_or_ge j k with q | q
    · exact hno j q
    · rw [show j = k by omega]; unfold okPpr; rw [decide_eq_true_eq]; omega)⟩
 refine c_exit (hK20 _ _ (c_seq fun K48 hK48 => (c_region (t_assign rfl rfl rfl (t_nil' (hK48 _ _ (c_ret (f_ret1 (v := .bool true) results34 rfl ?_))))))))
 exact ⟨congrArg Value.bool (Eq.symm (okSlr_iff.2 ⟨by omega, by omega, by omega, fun p hp => by
   obtain ⟨j, hj, rfl⟩ := List.getElem_of_mem hp
   rw [← nth_eq]; exact hno j (by omega)⟩)), E27⟩

theorem rLeg_c (x : Leg) (w0 : World) :
    CallsV Tryz.prog 35 [.agg #[.int .i64 x.r, .int .i64 x.t.bl, .int .i64 x.t.bh, .int .i64 x.t.el, .int .i64 x.t.eh, .int .i64 x.h, .int .i64 x.p]] w0 (fun v w' => v = .bool (okLeg x) ∧ Ext w0 w') := by
 refine f_enter (N := 23) func35 rfl rfl rfl (c_seq fun K1 hK1 => (c_region (t_box (cs := [.int .i64 x.r, .int .i64 x.t.bl, .int .i64 x.t.bh, .int .i64 x.t.el, .int .i64 x.t.eh, .int .i64 x.h, .int .i64 x.p]) rfl rfl rfl rfl (fun bk2 w3 ebk2 sbk2 B4 u5 => ?_))))
 have zu5 := u5.size
 refine t_assign rfl rfl rfl (t_nil' (hK1 _ _ (c_seq fun K7 hK7 => (c_region (t_field underlying68 rfl sizeOf3 (0) rfl rfl rfl rfl (t_load isAgg3 rfl rfl rfl (B4.get rfl) (t_call own53 rfl rfl rfl rfl (rin_c x.r 0 19 _) (fun v8 w9 r11 => ?_))))))))
 obtain ⟨rfl, u10⟩ := r11
 have zu10 := u10.size
 have E12 := ((Upd.refl (fun _ => False) w0).nx u5).nx u10
 refine t_move rfl rfl rfl (t_splitp 6 rfl (fun g6 => ?_) (fun g6 => ?_))
 ·
  refine t_field underlying68 rfl sizeOf37 (1) rfl rfl rfl rfl ?_
  have B13 := (B4.kx u10)
  refine t_loadN (vs := [.int .i64 x.t.bl, .int .i64 x.t.bh, .int .i64 x.t.el, .int .i64 x.t.eh]) isAgg37 sizeOf37 rfl rfl rfl (B13.at.sub 1 4) rfl (t_call own69 rfl rfl rfl rfl (rDuty_c x.t _) (fun v14 w15 r17 => ?_))
  obtain ⟨rfl, u16⟩ := r17
  have zu16 := u16.size
  have E18 := E12.nx u16
  refine t_pick_t rfl rfl rfl rfl (t_move rfl rfl rfl (t_split 11 rfl (fun g11 => ?_) (fun g11 => ?_)))
  ·
   refine t_field underlying68 rfl sizeOf3 (5) rfl rfl rfl rfl ?_
   have B19 := (B13.kx u16)
   refine t_load isAgg3 rfl rfl rfl (B19.get rfl) (t_call own53 rfl rfl rfl rfl (rin_c x.h 1 3 _) (fun v20 w21 r23 => ?_))
   obtain ⟨rfl, u22⟩ := r23
   have zu22 := u22.size
   have E24 := E18.nx u22
   refine t_pick_t rfl rfl rfl rfl (t_move rfl rfl rfl (t_splitp 16 rfl (fun g16 => ?_) (fun g16 => ?_)))
   ·
    refine t_field underlying68 rfl sizeOf3 (6) rfl rfl rfl rfl ?_
    have B25 := (B19.kx u22)
    refine t_load isAgg3 rfl rfl rfl (B25.get rfl) (t_field underlying68 rfl sizeOf3 (5) rfl rfl rfl rfl (t_load isAgg3 rfl rfl rfl (B25.get rfl) (t_call own53 rfl rfl rfl rfl (rin_c x.p 0 x.h _) (fun v26 w27 r29 => ?_))))
    obtain ⟨rfl, u28⟩ := r29
    have zu28 := u28.size
    refine t_pick_t rfl rfl rfl rfl (t_assign rfl rfl rfl (t_nil' (hK7 _ _ (c_ret (f_ret1 (v := .bool (decide (0 ≤ x.p ∧ x.p ≤ x.h))) results35 rfl ?_)))))
    exact ⟨congrArg Value.bool (by rw [Bool.eq_iff_iff]; unfold okLeg; simp only [decide_eq_true_eq] <;> first | omega | (simp [*] <;> omega)), (E24.nx u28)⟩
   refine t_skip rfl rfl rfl (t_skip rfl rfl rfl (t_skip rfl rfl rfl (t_skip rfl rfl rfl (t_skip rfl rfl rfl (t_pick_f rfl rfl rfl rfl (t_assign rfl rfl rfl (t_nil' (hK7 _ _ (c_ret (f_ret1 (v := .bool false) results35 rfl ?_))))))))))
   exact ⟨congrArg Value.bool (by rw [Bool.eq_iff_iff]; unfold okLeg; simp only [decide_eq_true_eq] <;> first | omega | (simp [*] <;> omega)), E24⟩
  refine t_skip rfl rfl rfl (t_skip rfl rfl rfl (t_skip rfl rfl rfl (t_pick_f rfl rfl rfl rfl (t_move rfl rfl rfl (t_skip rfl rfl rfl (t_skip rfl rfl rfl (t_skip rfl rfl rfl (t_skip rfl rfl rfl (t_skip rfl rfl rfl (t_pick_f rfl rfl rfl rfl (t_assign rfl rfl rfl (t_nil' (hK7 _ _ (c_ret (f_ret1 (v := .bool false) results35 rfl ?_)))))))))))))))
  exact ⟨congrArg Value.bool (by rw [Bool.eq_iff_iff]; unfold okLeg; simp only [decide_eq_true_eq] <;> first | omega | (simp [*] <;> omega)), E18⟩
 refine t_skip rfl rfl rfl (t_skip rfl rfl rfl (t_skip rfl rfl rfl (t_pick_f rfl rfl rfl rfl (t_move rfl rfl rfl (t_skip rfl rfl rfl (t_skip rfl rfl rfl (t_skip rfl rfl rfl (t_pick_f rfl rfl rfl rfl (t_move rfl rfl rfl (t_skip rfl rfl rfl (t_skip rfl rfl rfl (t_skip rfl rfl rfl (t_skip rfl rfl rfl (t_skip rfl rfl rfl (t_pick_f rfl rfl rfl rfl (t_assign rfl rfl rfl (t_nil' (hK7 _ _ (c_ret (f_ret1 (v := .bool false) results35 rfl ?_))))))))))))))))))))
 exact ⟨congrArg Value.bool (by rw [Bool.eq_iff_iff]; unfold okLeg; simp only [decide_eq_true_eq] <;> first | omega | (simp [*] <;> omega)), E12⟩

theorem rAll_c (hs : List HS) (al : Option Addr) (bl ol cl : Nat) (xs : List Leg) (ax : Option Addr) (bx ox cx : Nat) (w0 : World) (hl : Sl encHS 4 w0 al bl ol hs) (hsm : ∀ h ∈ hs, SlrM w0 h) (hxs : Sl encLeg 7 w0 ax bx ox xs) :
    CallsV Tryz.prog 30 [.slice al hs.length cl, .slice ax xs.length cx] w0 (fun v w' => v = .int .i64 (allE (hs.map HS.slr) xs) ∧ Ext w0 w') := by
 have E0 := Upd.refl (fun _ => False) w0
 refine f_enter (N := 37) func30 rfl rfl rfl (c_seq fun K1 hK1 => (c_region (t_assign rfl rfl rfl (t_nil' (hK1 _ _ (c_seq fun K2 hK2 => (c_seq fun K3 hK3 => (c_region (t_move rfl rfl rfl (t_len underlying54 rfl rfl rfl rfl (t_cmp rfl rfl rfl rfl rfl (t_nil' (hK3 _ _ (c_condp rfl (fun g9 => ?_) (fun g9 => ?_)))))))))))))))
 ·
  refine c_seq fun K4 hK4 => (c_region (t_assign rfl rfl rfl (t_nil' (hK4 _ _ (c_ret (f_ret1 (v := .int .i64 5) results30 rfl ?_))))))
  exact ⟨congrArg (Value.int .i64) (by unfold allE; rw [List.length_map, if_pos (by omega)]), E0⟩
 refine c_skip (hK2 _ _ (c_seq fun K5 hK5 => (c_seq fun K6 hK6 => (c_region (t_assign rfl rfl rfl (t_nil' (hK6 _ _ (c_block (c_loop (γ := Nat) (fun k => [(0, .slice al hs.length cl), (1, .slice ax xs.length cx), (5, .int .i64 (k : Int))]) (fun k w => Upd (fun _ => False) w0 w ∧ (k ≤ hs.length) ∧ (((hs.take k).any (fun h : HS => !okSlr h.slr)) = false)) (fun k => hs.length - k) 0 ⟨rfl, rfl, rfl, trivial⟩ ⟨Upd.refl _ _, (Nat.zero_le _), rfl⟩ ?_)))))))))
 intro k w8 hW K7 hK7
 obtain ⟨u9, I10, I11⟩ := hW
 have zu9 := u9.size
 have E12 := E0.nx u9
 have hk := I10; clear I10
 have hno := I11; clear I11
 refine c_seq fun K13 hK13 => (c_seq fun K14 hK14 => (c_region (t_move rfl rfl rfl (t_move rfl rfl rfl (t_len underlying54 rfl rfl rfl rfl (t_cmp rfl rfl rfl rfl rfl (t_nil' (hK14 _ _ (c_condp rfl (fun g13 => ?_) (fun g13 => ?_))))))))))
 ·
  refine c_skip (hK13 _ _ (c_seq fun K15 hK15 => (c_block (c_seq fun K16 hK16 => (c_region (t_move rfl rfl rfl (t_move rfl rfl rfl ?_)))))))
  have i17 : k < hs.length := (by omega)
  refine t_index (j := k) underlying54 sizeOf79 rfl rfl rfl rfl ((hl.keep E12 (fun _ h => h)).addr (by omega)) rfl i17 (t_loadN (vs := [.int .i64 ((nth hs k).f), .int .i64 ((nth hs k).u), .slice ((nth hs k).ap) ((nth hs k).ps.length) ((nth hs k).cp), .slice ((nth hs k).ad) ((nth hs k).ds.length) ((nth hs k).cd)]) isAgg79 sizeOf79 rfl rfl rfl (((hl.keep E12 (fun _ h => h)).at_ k (by omega)).sub 0 4) rfl (t_call own34 rfl rfl rfl rfl (rSailor_c (nth hs k) _ ((hsm (nth hs k) (nth_mem (by omega))).ext E12)) (fun v18 w19 r21 => ?_)))
  obtain ⟨rfl, u20⟩ := r21
  have zu20 := u20.size
  refine t_not rfl rfl rfl (t_nil' (hK16 _ _ (c_cond rfl (fun g21 => ?_) (fun g21 => ?_))))
  ·
   refine c_seq fun K23 hK23 => (c_region (t_assign rfl rfl rfl (t_nil' (hK23 _ _ (c_ret (f_ret1 (v := .int .i64 2) results30 rfl ?_))))))
   exact ⟨congrArg (Value.int .i64) (by unfold allE; rw [List.length_map, if_neg (by omega), if_pos (by rw [← any_slr]; exact List.any_eq_true.2 ⟨_, nth_mem (show k < hs.length by omega), g21⟩)]), (E12.nx u20)⟩
  refine c_skip (hK15 _ _ (c_region (t_move rfl rfl rfl (t_ari rfl rfl rfl rfl rfl (by omega) (t_assign rfl rfl rfl (t_nil' ?_))))))
  exact hK7 (k + 1) _ _ (by omega) ⟨rfl, rfl, rfl, trivial⟩ ⟨(u9.nx u20), (by omega), (any_snoc (p := (fun h : HS => !okSlr h.slr)) (by omega) hno g21)⟩
 have hn1 : ¬ ((hs.map HS.slr).any fun s => !okSlr s) = true := by rw [← any_slr]; rw [List.take_of_length_le (by omega)] at hno; rw [hno]; decide
 clear hno
 refine c_exit (hK5 _ _ (c_seq fun K24 hK24 => (c_seq fun K25 hK25 => (c_region (t_move rfl rfl rfl (t_len underlying55 rfl rfl rfl rfl (t_cmp rfl rfl rfl rfl rfl (t_nil' (hK25 _ _ (c_condp rfl (fun g24 => ?_) (fun g24 => ?_)))))))))))
 ·
  refine c_seq fun K26 hK26 => (c_region (t_assign rfl rfl rfl (t_nil' (hK26 _ _ (c_ret (f_ret1 (v := .int .i64 5) results30 rfl ?_))))))
  exact ⟨congrArg (Value.int .i64) (by unfold allE; rw [List.length_map, if_neg (by omega), if_neg hn1, if_pos (by omega)]), E12⟩
 refine c_skip (hK24 _ _ (c_seq fun K27 hK27 => (c_seq fun K28 hK28 => (c_region (t_assign rfl rfl rfl (t_nil' (hK28 _ _ (c_block (c_loop (γ := Nat) (fun k => [(1, .slice ax xs.length cx), (6, .int .i64 (k : Int))]) (fun k w => Upd (fun _ => False) w8 w ∧ (k ≤ xs.length) ∧ (((xs.take k).any (fun x : Leg => !okLeg x)) = false)) (fun k => xs.length - k) 0 ⟨rfl, rfl, trivial⟩ ⟨Upd.refl _ _, (Nat.zero_le _), rfl⟩ ?_)))))))))
 intro k w30 hW K29 hK29
 obtain ⟨u31, I32, I33⟩ := hW
 have zu31 := u31.size
 have E34 := E12.nx u31
 have hk := I32; clear I32
 have hno := I33; clear I33
 refine c_seq fun K35 hK35 => (c_seq fun K36 hK36 => (c_region (t_move rfl rfl rfl (t_move rfl rfl rfl (t_len underlying55 rfl rfl rfl rfl (t_cmp rfl rfl rfl rfl rfl (t_nil' (hK36 _ _ (c_condp rfl (fun g28 => ?_) (fun g28 => ?_))))))))))
 ·
  refine c_skip (hK35 _ _ (c_seq fun K37 hK37 => (c_block (c_seq fun K38 hK38 => (c_region (t_move rfl rfl rfl (t_move rfl rfl rfl ?_)))))))
  have i39 : k < xs.length := (by omega)
  refine t_index (j := k) underlying55 sizeOf68 rfl rfl rfl rfl ((hxs.keep E34 (fun _ h => h)).addr (by omega)) rfl i39 (t_loadN (vs := [.int .i64 ((nth xs k).r), .int .i64 ((nth xs k).t.bl), .int .i64 ((nth xs k).t.bh), .int .i64 ((nth xs k).t.el), .int .i64 ((nth xs k).t.eh), .int .i64 ((nth xs k).h), .int .i64 ((nth xs k).p)]) isAgg68 sizeOf68 rfl rfl rfl (((hxs.keep E34 (fun _ h => h)).at_ k (by omega)).sub 0 7) rfl (t_call own35 rfl rfl rfl rfl (rLeg_c (nth xs k) _) (fun v40 w41 r43 => ?_)))
  obtain ⟨rfl, u42⟩ := r43
  have zu42 := u42.size
  refine t_not rfl rfl rfl (t_nil' (hK38 _ _ (c_cond rfl (fun g36 => ?_) (fun g36 => ?_))))
  ·
   refine c_seq fun K45 hK45 => (c_region (t_assign rfl rfl rfl (t_nil' (hK45 _ _ (c_ret (f_ret1 (v := .int .i64 2) results30 rfl ?_))))))
   exact ⟨congrArg (Value.int .i64) (by unfold allE; rw [List.length_map, if_neg (by omega), if_neg hn1, if_neg (by omega), if_pos (List.any_eq_true.2 ⟨_, nth_mem (show k < xs.length by omega), g36⟩)]), (E34.nx u42)⟩
  refine c_skip (hK37 _ _ (c_region (t_move rfl rfl rfl (t_ari rfl rfl rfl rfl rfl (by omega) (t_assign rfl rfl rfl (t_nil' ?_))))))
  exact hK29 (k + 1) _ _ (by omega) ⟨rfl, rfl, trivial⟩ ⟨(u31.nx u42), (by omega), (any_snoc (p := (fun x : Leg => !okLeg x)) (by omega) hno g36)⟩
 have hn2 : ¬ (xs.any fun x => !okLeg x) = true := by rw [List.take_of_length_le (by omega)] at hno; rw [hno]; decide
 refine c_exit (hK27 _ _ (c_seq fun K46 hK46 => (c_region (t_assign rfl rfl rfl (t_nil' (hK46 _ _ (c_ret (f_ret1 (v := .int .i64 0) results30 rfl ?_))))))))
 exact ⟨congrArg (Value.int .i64) (by unfold allE; rw [List.length_map, if_neg (by omega), if_neg hn1, if_neg (by omega), if_neg hn2]), E34⟩

set_option maxHeartbeats 1000000 in
theorem rMay_c (r : Rul) (h : HS) (x : Leg) (w0 : World) (hm : SlrM w0 h) (hpl : h.ps.length ≤ 1000000) (hr : okRul r = true) (hdl : h.ds.length ≤ 900) (hod : ∀ d ∈ h.ds, okDty d = true) (hx : okDty x.t = true) (_hpos : 0 < w0.heap.size) :
    CallsV Tryz.prog 36 [.agg #[.int .i64 r.rest, .int .i64 r.span, .int .i64 r.work, .int .i64 r.week, .int .i64 r.ww], .agg #[.int .i64 h.f, .int .i64 h.u, .slice h.ap h.ps.length h.cp, .slice h.ad h.ds.length h.cd], .agg #[.int .i64 x.r, .int .i64 x.t.bl, .int .i64 x.t.bh, .int .i64 x.t.el, .int .i64 x.t.eh, .int .i64 x.h, .int .i64 x.p]] w0 (fun v w' => v = .tuple #[.bool (MayR r h.slr x), .bool (pltP h.ps x)] ∧ Ext w0 w') := by
 have hod2 := ok_snoc hod hx
 refine f_enter (N := 75) func36 rfl rfl rfl (c_seq fun K1 hK1 => (c_region (t_box (cs := [.int .i64 r.rest, .int .i64 r.span, .int .i64 r.work, .int .i64 r.week, .int .i64 r.ww]) rfl rfl rfl rfl (fun bk2 w3 ebk2 sbk2 B4 u5 => ?_))))
 have zu5 := u5.size
 refine t_box (cs := [.int .i64 h.f, .int .i64 h.u, .slice h.ap h.ps.length h.cp, .slice h.ad h.ds.length h.cd]) rfl rfl rfl rfl (fun bk7 w8 ebk7 sbk7 B9 u10 => ?_)
 have zu10 := u10.size
 refine t_box (cs := [.int .i64 x.r, .int .i64 x.t.bl, .int .i64 x.t.bh, .int .i64 x.t.el, .int .i64 x.t.eh, .int .i64 x.h, .int .i64 x.p]) rfl rfl rfl rfl (fun bk12 w13 ebk12 sbk12 B14 u15 => ?_)
 have zu15 := u15.size
 refine t_assign rfl rfl rfl (t_assign rfl rfl rfl (t_nil' (hK1 _ _ (c_seq fun K17 hK17 => (c_region (t_assign rfl rfl rfl (t_nil' (hK17 _ _ (c_seq fun K18 hK18 => (c_seq fun K19 hK19 => (c_region (t_assign rfl rfl rfl (t_nil' (hK19 _ _ (c_block (c_loop (γ := Nat × Bool) (fun gg => [(3, .pointer (some ⟨bk2, 0, none⟩)), (4, .pointer (some ⟨bk7, 0, none⟩)), (5, .pointer (some ⟨bk12, 0, none⟩)), (8, .bool gg.2), (9, .int .i64 (gg.1 : Int))]) (fun gg w => Upd (fun _ => False) w13 w ∧ (gg.1 ≤ h.ps.length) ∧ (gg.2 = ((h.ps.take gg.1).any (pltB x)))) (fun gg => h.ps.length - gg.1) (0, false) ⟨rfl, rfl, rfl, rfl, rfl, trivial⟩ ⟨Upd.refl _ _, (Nat.zero_le _), rfl⟩ ?_))))))))))))))))
 intro gg w21 hW K20 hK20
 obtain ⟨k, pb⟩ := gg
 change WC _ _ _ _ _ _ [(3, .pointer (some ⟨bk2, 0, none⟩)), (4, .pointer (some ⟨bk7, 0, none⟩)), (5, .pointer (some ⟨bk12, 0, none⟩)), (8, .bool pb), (9, .int .i64 (k : Int))] _
 change Upd (fun _ => False) w13 w21 ∧ (k ≤ h.ps.length) ∧ (pb = ((h.ps.take k).any (pltB x))) at hW
 obtain ⟨u22, I23, I24⟩ := hW
 have zu22 := u22.size
 have E25 := ((((Upd.refl (fun _ => False) w0).nx u5).nx u10).nx u15).nx u22
 have hk := I23; clear I23
 have hpb := I24; clear I24
 refine c_seq fun K26 hK26 => (c_seq fun K27 hK27 => (c_region (t_move rfl rfl rfl (t_field underlying79 rfl sizeOf77 (2) rfl rfl rfl rfl ?_))))
 have B28 := ((B9.kx u15).kx u22)
 refine t_load isAgg77 rfl rfl rfl (B28.get rfl) (t_len underlying77 rfl rfl rfl rfl (t_cmp rfl rfl rfl rfl rfl (t_nil' (hK27 _ _ (c_condp rfl (fun g15 => ?_) (fun g15 => ?_))))))
 ·
  refine c_skip (hK26 _ _ (c_seq fun K29 hK29 => (c_block (c_drawnM follows (fun _ => False) (.look 0 (.look 1 (.look 2 (.look 3 (.look 4 (.look 5 (.look 6 (.look 7 (.look 8 (.look 9 (.look 10 (.look 11 (.look 12 (.look 13 (.look 14 (.look 15 (.look 16 (.look 17 (.look 18 (.look 19 (.look 20 (.look 21 (.look 22 (.look 23 (.look 24 (.look 25 .done)))))))))))))))))))))))))) (by kernel_rfl) fun w30 u31 => ?_))))
  have zu31 := u31.size
  have E32 := E25.nx u31
  refine y_move rfl rfl rfl (y_move rfl rfl rfl (y_split 19 rfl (fun g19 => ?_) (fun g19 => ?_)))
  ·
   refine y_skip rfl rfl rfl (y_skip rfl rfl rfl (y_skip rfl rfl rfl (y_skip rfl rfl rfl (y_skip rfl rfl rfl (y_skip rfl rfl rfl (y_skip rfl rfl rfl (y_skip rfl rfl rfl (y_skip rfl rfl rfl (y_skip rfl rfl rfl (y_skip rfl rfl rfl (y_skip rfl rfl rfl (y_skip rfl rfl rfl (y_skip rfl rfl rfl (y_skip rfl rfl rfl (y_skip rfl rfl rfl (y_skip rfl rfl rfl (y_skip rfl rfl rfl (y_skip rfl rfl rfl (y_skip rfl rfl rfl (y_skip rfl rfl rfl (y_skip rfl rfl rfl (y_pick_t rfl rfl rfl rfl (y_assign rfl rfl rfl ?_)))))))))))))))))))))))
   refine s_nil (hK29 _ _ (c_region (t_move rfl rfl rfl (t_ari rfl rfl rfl rfl rfl (by omega) (t_assign rfl rfl rfl (t_nil' ?_))))))
   exact hK20 (k + 1, true) _ _ (by show h.ps.length - (k + 1) < h.ps.length - k; omega) ⟨rfl, rfl, rfl, rfl, rfl, trivial⟩ ⟨(u22.nx u31), (by omega), (by rw [take_nth (by omega), List.any_append, ← hpb, g19]; rfl)⟩
  refine y_field underlying79 rfl sizeOf77 (2) rfl rfl rfl rfl ?_
  have B33 := (B28.kx u31)
  refine y_load isAgg77 rfl rfl rfl (B33.get rfl) (fun h => h) (y_move rfl rfl rfl ?_)
  have i34 : k < h.ps.length := (by omega)
  refine y_index (j := k) underlying77 sizeOf136 rfl rfl rfl rfl ((hm.hp.keep E32 (fun _ h => h)).addr (by omega)) rfl i34 (y_field underlying136 rfl sizeOf3 (h.op + k * 2 + 0) rfl rfl rfl rfl (y_load isAgg3 rfl rfl rfl (((hm.hp.keep E32 (fun _ h => h)).at_ k (by omega)) 0 _ rfl) (fun h => h) (y_field underlying68 rfl sizeOf3 (0) rfl rfl rfl rfl ?_)))
  have B35 := ((B14.kx u22).kx u31)
  refine y_load isAgg3 rfl rfl rfl (B35.get rfl) (fun h => h) (y_cmp rfl rfl rfl rfl rfl (y_move rfl rfl rfl (y_splitp 29 rfl (fun g29 => ?_) (fun g29 => ?_))))
  ·
   refine y_field underlying79 rfl sizeOf77 (2) rfl rfl rfl rfl (y_load isAgg77 rfl rfl rfl (B33.get rfl) (fun h => h) (y_move rfl rfl rfl ?_))
   have i36 : k < h.ps.length := (by omega)
   refine y_index (j := k) underlying77 sizeOf136 rfl rfl rfl rfl ((hm.hp.keep E32 (fun _ h => h)).addr (by omega)) rfl i36 (y_field underlying136 rfl sizeOf3 (h.op + k * 2 + 1) rfl rfl rfl rfl (y_load isAgg3 rfl rfl rfl (((hm.hp.keep E32 (fun _ h => h)).at_ k (by omega)) 1 _ rfl) (fun h => h) (y_field underlying68 rfl sizeOf37 (1) rfl rfl rfl rfl (y_field underlying37 rfl sizeOf35 (3) rfl rfl rfl rfl (y_field underlying35 rfl sizeOf3 (4) rfl rfl rfl rfl (y_load isAgg3 rfl rfl rfl (B35.get rfl) (fun h => h) (y_cmp rfl rfl rfl rfl rfl (y_pick_t rfl rfl rfl rfl (y_pick_f rfl rfl rfl rfl (y_assign rfl rfl rfl (s_nil (hK29 _ _ (c_region (t_move rfl rfl rfl (t_ari rfl rfl rfl rfl rfl (by omega) (t_assign rfl rfl rfl (t_nil' ?_)))))))))))))))))
   exact hK20 (k + 1, (decide (x.t.eh ≤ (nth h.ps k).u))) _ _ (by show h.ps.length - (k + 1) < h.ps.length - k; omega) ⟨rfl, rfl, rfl, rfl, rfl, trivial⟩ ⟨(u22.nx u31), (by omega), (by rw [take_nth (by omega), List.any_append, ← hpb, g19, Bool.false_or, List.any_cons, List.any_nil, Bool.or_false]; exact by rw [Bool.eq_iff_iff]; simp only [decide_eq_true_eq]; exact ⟨fun h => (by omega), fun h => (by omega)⟩)⟩
  refine y_skip rfl rfl rfl (y_skip rfl rfl rfl (y_skip rfl rfl rfl (y_skip rfl rfl rfl (y_skip rfl rfl rfl (y_skip rfl rfl rfl (y_skip rfl rfl rfl (y_skip rfl rfl rfl (y_skip rfl rfl rfl (y_skip rfl rfl rfl (y_skip rfl rfl rfl (y_pick_f rfl rfl rfl rfl (y_pick_f rfl rfl rfl rfl (y_assign rfl rfl rfl (s_nil (hK29 _ _ (c_region (t_move rfl rfl rfl (t_ari rfl rfl rfl rfl rfl (by omega) (t_assign rfl rfl rfl (t_nil' ?_))))))))))))))))))))
  exact hK20 (k + 1, false) _ _ (by show h.ps.length - (k + 1) < h.ps.length - k; omega) ⟨rfl, rfl, rfl, rfl, rfl, trivial⟩ ⟨(u22.nx u31), (by omega), (by rw [take_nth (by omega), List.any_append, ← hpb, g19, Bool.false_or, List.any_cons, List.any_nil, Bool.or_false]; exact (decide_eq_false (by omega)).symm)⟩
 have hpe : pb = pltP h.ps x := by rw [hpb, List.take_of_length_le (by omega)]; rfl
 refine c_exit (hK18 _ _ (c_seq fun K37 hK37 => (c_drawnM follows (fun _ => False) (.look 1 (.look 2 (.look 4 (.look 5 (.act 0 (.act 3 (.act 6 (.act 7 (.look 8 .done) .stop) .stop) (.act 6 (.act 3 (.act 7 (.look 8 .done) .stop) .stop) .stop)) (.act 6 (.act 0 (.act 3 (.act 7 (.look 8 .done) .stop) .stop) .stop) .stop)))))) (by kernel_rfl) fun w38 u39 => ?_)))
 have zu39 := u39.size
 have E40 := E25.nx u39
 refine y_field underlying79 rfl sizeOf24 (3) rfl rfl rfl rfl ?_
 have B41 := (B28.kx u39)
 refine y_load isAgg24 rfl rfl rfl (B41.get rfl) (fun h => h) (y_field underlying68 rfl sizeOf37 (1) rfl rfl rfl rfl ?_)
 have B42 := ((B14.kx u22).kx u39)
 refine y_loadN (vs := [.int .i64 x.t.bl, .int .i64 x.t.bh, .int .i64 x.t.el, .int .i64 x.t.eh]) isAgg37 sizeOf37 rfl rfl rfl (B42.at.sub 1 4) rfl (fun h => h) (s_or ?_ ?_)
 ·
  refine s_do (t_bslice (ps := []) (cs := []) (e := 37) rfl rfl ⟨rfl, rfl⟩ (fun w => by kernel_rfl) (fun bk43 w44 ebk43 sbk43 B45 u46 => ?_))
  have zu46 := u46.size
  have E47 := E40.nx u46
  refine s_next ((Upd.refl _ _).nx u46) (s_or ?_ ?_)
  ·
   refine s_do (t_copy (enc := encDty) (z := .agg #[.int .i64 0, .int .i64 0, .int .i64 0, .int .i64 0]) (bytes := 32) (k := 4) (ys := h.ds) underlying24 (by kernel_rfl) rfl (by decide) (fun _ => rfl) (by intro x; simp [encDty, Value.oneCell']) rfl rfl rfl rfl B45 (hm.hd.keep E47 (fun _ h => h)) (by omega) (by decide) (fun ao48 gb49 cp50 w51 A52 u53 gegb49 => ?_))
   have zu53 := u53.size
   have lt_gb49 := A52.lt
   refine s_next ((Upd.refl _ _).next u53 (fun i hi (h : (i = bk43 ∧ bk43 ≤ i)) => show w38.heap.size ≤ i ∨ (False) by first | omega | exact .inr h)) (s_do (t_bslice (ps := [(0, .agg #[.int .i64 x.t.bl, .int .i64 x.t.bh, .int .i64 x.t.el, .int .i64 x.t.eh])]) (cs := [.int .i64 x.t.bl, .int .i64 x.t.bh, .int .i64 x.t.el, .int .i64 x.t.eh]) (e := 37) rfl rfl ⟨rfl, rfl⟩ (fun w => by kernel_rfl) (fun bk55 w56 ebk55 sbk55 B57 u58 => ?_)))
   have zu58 := u58.size
   refine s_next ((Upd.refl _ _).nx u58) (s_do ?_)
   have D60 := (A52.kE u58)
   refine t_append (z := .agg #[.int .i64 0, .int .i64 0, .int .i64 0, .int .i64 0]) (bytes := 32) (k := 4) (base := bk43) x.t underlying24 (by kernel_rfl) rfl (by decide) (fun _ => rfl) (by intro x; simp [encDty, Value.oneCell']) rfl rfl rfl rfl D60 B57 (by omega) (by omega) (by decide) (fun ao61 gb62 cp63 w64 A65 u66 gegb62 lngb62 => ?_)
   have zu66 := u66.size
   have lt_gb62 := A65.lt
   refine s_next ((Upd.refl _ _).next u66 (fun i hi (h : (i = gb49 ∧ bk43 ≤ i)) => show w38.heap.size ≤ i ∨ (False) by first | omega | exact .inr h)) (y_assign rfl rfl rfl (s_nil (hK37 _ _ (c_seq fun K68 hK68 => (c_drawnM follows (fun _ => False) (.look 0 (.look 1 (.look 2 (.look 3 (.look 4 (.look 5 (.look 6 (.look 7 (.look 8 (.look 9 (.look 10 (.look 11 (.look 12 (.look 13 (.look 14 (.look 15 (.look 16 (.look 17 (.look 18 (.look 23 (.act 19 (.act 20 (.look 21 (.look 22 (.look 24 (.look 25 .done)))) .stop) .stop))))))))))))))))))))) (by kernel_rfl) fun w69 u70 => ?_)))))
   have zu70 := u70.size
   have E71 := (((E47.next u53 (fun i hi h => by omega)).nx u58).next u66 (fun i hi h => by omega)).nx u70
   refine y_field underlying68 rfl sizeOf37 (1) rfl rfl rfl rfl (y_field underlying37 rfl sizeOf35 (1) rfl rfl rfl rfl (y_field underlying35 rfl sizeOf3 (1) rfl rfl rfl rfl ?_))
   have B72 := (((((((B14.kx u22).kx u39).kx u46).keep u53 (by omega)).kx u58).keep u66 (by omega)).kx u70)
   refine y_load isAgg3 rfl rfl rfl (B72.get rfl) (fun h => h) (y_field underlying79 rfl sizeOf3 (0) rfl rfl rfl rfl ?_)
   have B73 := ((((((B28.kx u39).kx u46).keep u53 (by omega)).kx u58).keep u66 (by omega)).kx u70)
   refine y_load isAgg3 rfl rfl rfl (B73.get rfl) (fun h => h) (y_cmp rfl rfl rfl rfl rfl (y_move rfl rfl rfl (y_splitp 58 rfl (fun g58 => ?_) (fun g58 => ?_))))
   ·
    refine y_field underlying68 rfl sizeOf37 (1) rfl rfl rfl rfl (y_field underlying37 rfl sizeOf35 (3) rfl rfl rfl rfl (y_field underlying35 rfl sizeOf3 (4) rfl rfl rfl rfl (y_load isAgg3 rfl rfl rfl (B72.get rfl) (fun h => h) (y_field underlying79 rfl sizeOf3 (1) rfl rfl rfl rfl (y_load isAgg3 rfl rfl rfl (B73.get rfl) (fun h => h) (y_cmp rfl rfl rfl rfl rfl (y_pick_t rfl rfl rfl rfl (y_move rfl rfl rfl (y_splitp 67 rfl (fun g67 => ?_) (fun g67 => ?_))))))))))
    ·
     have B74 := (((((((((B4.kx u10).kx u15).kx u22).kx u39).kx u46).keep u53 (by omega)).kx u58).keep u66 (by omega)).kx u70)
     refine y_loadN (vs := [.int .i64 r.rest, .int .i64 r.span, .int .i64 r.work, .int .i64 r.week, .int .i64 r.ww]) isAgg23 sizeOf23 rfl rfl rfl (B74.at.sub 0 5) rfl (fun h => h) (y_move rfl rfl rfl (y_move rfl rfl rfl (s_do ?_)))
     have D75 := (A65.kE u70)
     refine t_call own16 rfl rfl rfl rfl (rLongest_c (h.ds ++ [x.t]) ao61 gb62 0 cp63 _ (D75.sl (fun _ => rfl)) (by rw [List.length_append, List.length_singleton]; omega) (by omega)) (fun v77 w78 r80 => ?_)
     obtain ⟨⟨aoL76, gL76, cL76, rfl, haL76⟩, u79⟩ := r80
     have zu79 := u79.size
     have lt_gL76 := haL76.lt
     refine s_next ((Upd.refl _ _).nx u79) (s_do (t_call own18 rfl rfl rfl rfl (rBroken_c r (srtS ((h.ds ++ [x.t]).map lngS)) aoL76 gL76 0 cL76 _ (haL76.sl (fun _ => rfl)) (by rw [srt_len, List.length_map]; exact (by rw [List.length_append, List.length_singleton]; omega)) (lngs_ok hod2) hr (by omega)) (fun v82 w83 r85 => ?_)))
     obtain ⟨rfl, u84⟩ := r85
     have zu84 := u84.size
     refine s_next ((Upd.refl _ _).nx u84) (y_cmp rfl rfl rfl rfl rfl (y_pick_t rfl rfl rfl rfl (y_assign rfl rfl rfl (y_assign rfl rfl rfl (s_nil (hK68 _ _ (c_ret (f_ret2 (v1 := .bool (decide ((brokP r (srtS ((h.ds ++ [x.t]).map lngS))) = 0))) (v2 := .bool pb) results36 rfl rfl ?_))))))))
     subst hpe
     have h9 : (decide ((brokP r (srtS ((h.ds ++ [x.t]).map lngS))) = 0)) = MayR r h.slr x := (by unfold MayR canB; rw [show winM h.slr.f h.slr.u x = true from decide_eq_true (by show h.f ≤ x.t.bl ∧ x.t.eh ≤ h.u; omega), Bool.true_and, show h.slr.ds = h.ds from rfl, ← lng_snoc])
     exact ⟨congrArg (fun z => Value.tuple #[.bool z, .bool (pltP h.ps x)]) h9, ((E71.nx u79).nx u84)⟩
    refine y_skip rfl rfl rfl (y_skip rfl rfl rfl (y_move rfl rfl rfl (s_do (t_skip rfl rfl rfl (s_next (Upd.refl _ _) (s_do (t_skip rfl rfl rfl (s_next (Upd.refl _ _) (y_skip rfl rfl rfl (y_pick_f rfl rfl rfl rfl (y_assign rfl rfl rfl (y_assign rfl rfl rfl (s_nil (hK68 _ _ (c_ret (f_ret2 (v1 := .bool false) (v2 := .bool pb) results36 rfl rfl ?_))))))))))))))))
    subst hpe
    have h9 : false = MayR r h.slr x := (by unfold MayR canB; rw [show winM h.slr.f h.slr.u x = false from decide_eq_false (by show ¬ (h.f ≤ x.t.bl ∧ x.t.eh ≤ h.u); omega), Bool.false_and])
    exact ⟨congrArg (fun z => Value.tuple #[.bool z, .bool (pltP h.ps x)]) h9, E71⟩
   refine y_skip rfl rfl rfl (y_skip rfl rfl rfl (y_skip rfl rfl rfl (y_skip rfl rfl rfl (y_skip rfl rfl rfl (y_skip rfl rfl rfl (y_skip rfl rfl rfl (y_pick_f rfl rfl rfl rfl (y_move rfl rfl rfl (y_skip rfl rfl rfl (y_skip rfl rfl rfl (y_move rfl rfl rfl (s_do (t_skip rfl rfl rfl (s_next (Upd.refl _ _) (s_do (t_skip rfl rfl rfl (s_next (Upd.refl _ _) (y_skip rfl rfl rfl (y_pick_f rfl rfl rfl rfl (y_assign rfl rfl rfl (y_assign rfl rfl rfl (s_nil (hK68 _ _ ?_)))))))))))))))))))))))
   refine c_ret (f_ret2 (v1 := .bool false) (v2 := .bool pb) results36 rfl rfl ?_)
   subst hpe
   have h9 : false = MayR r h.slr x := (by unfold MayR canB; rw [show winM h.slr.f h.slr.u x = false from decide_eq_false (by show ¬ (h.f ≤ x.t.bl ∧ x.t.eh ≤ h.u); omega), Bool.false_and])
   exact ⟨congrArg (fun z => Value.tuple #[.bool z, .bool (pltP h.ps x)]) h9, E71⟩
  refine s_do (t_bslice (ps := [(0, .agg #[.int .i64 x.t.bl, .int .i64 x.t.bh, .int .i64 x.t.el, .int .i64 x.t.eh])]) (cs := [.int .i64 x.t.bl, .int .i64 x.t.bh, .int .i64 x.t.el, .int .i64 x.t.eh]) (e := 37) rfl rfl ⟨rfl, rfl⟩ (fun w => by kernel_rfl) (fun bk87 w88 ebk87 sbk87 B89 u90 => ?_))
  have zu90 := u90.size
  have E91 := E47.nx u90
  refine s_next ((Upd.refl _ _).nx u90) (s_do ?_)
  have B92 := (B45.kx u90)
  refine t_copy (enc := encDty) (z := .agg #[.int .i64 0, .int .i64 0, .int .i64 0, .int .i64 0]) (bytes := 32) (k := 4) (ys := h.ds) underlying24 (by kernel_rfl) rfl (by decide) (fun _ => rfl) (by intro x; simp [encDty, Value.oneCell']) rfl rfl rfl rfl B92 (hm.hd.keep E91 (fun _ h => h)) (by omega) (by decide) (fun ao93 gb94 cp95 w96 A97 u98 gegb94 => ?_)
  have zu98 := u98.size
  have lt_gb94 := A97.lt
  refine s_next ((Upd.refl _ _).next u98 (fun i hi (h : (i = bk43 ∧ bk43 ≤ i)) => show w38.heap.size ≤ i ∨ (False) by first | omega | exact .inr h)) (s_do ?_)
  have B100 := (B89.keep u98 (by omega))
  refine t_append (z := .agg #[.int .i64 0, .int .i64 0, .int .i64 0, .int .i64 0]) (bytes := 32) (k := 4) (base := bk43) x.t underlying24 (by kernel_rfl) rfl (by decide) (fun _ => rfl) (by intro x; simp [encDty, Value.oneCell']) rfl rfl rfl rfl A97 B100 (by omega) (by omega) (by decide) (fun ao101 gb102 cp103 w104 A105 u106 gegb102 lngb102 => ?_)
  have zu106 := u106.size
  have lt_gb102 := A105.lt
  refine s_next ((Upd.refl _ _).next u106 (fun i hi (h : (i = gb94 ∧ bk43 ≤ i)) => show w38.heap.size ≤ i ∨ (False) by first | omega | exact .inr h)) (y_assign rfl rfl rfl (s_nil (hK37 _ _ (c_seq fun K108 hK108 => (c_drawnM follows (fun _ => False) (.look 0 (.look 1 (.look 2 (.look 3 (.look 4 (.look 5 (.look 6 (.look 7 (.look 8 (.look 9 (.look 10 (.look 11 (.look 12 (.look 13 (.look 14 (.look 15 (.look 16 (.look 17 (.look 18 (.look 23 (.act 19 (.act 20 (.look 21 (.look 22 (.look 24 (.look 25 .done)))) .stop) .stop))))))))))))))))))))) (by kernel_rfl) fun w109 u110 => ?_)))))
  have zu110 := u110.size
  have E111 := ((E91.next u98 (fun i hi h => by omega)).next u106 (fun i hi h => by omega)).nx u110
  refine y_field underlying68 rfl sizeOf37 (1) rfl rfl rfl rfl (y_field underlying37 rfl sizeOf35 (1) rfl rfl rfl rfl (y_field underlying35 rfl sizeOf3 (1) rfl rfl rfl rfl ?_))
  have B112 := (((((((B14.kx u22).kx u39).kx u46).kx u90).keep u98 (by omega)).keep u106 (by omega)).kx u110)
  refine y_load isAgg3 rfl rfl rfl (B112.get rfl) (fun h => h) (y_field underlying79 rfl sizeOf3 (0) rfl rfl rfl rfl ?_)
  have B113 := ((((((B28.kx u39).kx u46).kx u90).keep u98 (by omega)).keep u106 (by omega)).kx u110)
  refine y_load isAgg3 rfl rfl rfl (B113.get rfl) (fun h => h) (y_cmp rfl rfl rfl rfl rfl (y_move rfl rfl rfl (y_splitp 58 rfl (fun g58 => ?_) (fun g58 => ?_))))
  ·
   refine y_field underlying68 rfl sizeOf37 (1) rfl rfl rfl rfl (y_field underlying37 rfl sizeOf35 (3) rfl rfl rfl rfl (y_field underlying35 rfl sizeOf3 (4) rfl rfl rfl rfl (y_load isAgg3 rfl rfl rfl (B112.get rfl) (fun h => h) (y_field underlying79 rfl sizeOf3 (1) rfl rfl rfl rfl (y_load isAgg3 rfl rfl rfl (B113.get rfl) (fun h => h) (y_cmp rfl rfl rfl rfl rfl (y_pick_t rfl rfl rfl rfl (y_move rfl rfl rfl (y_splitp 67 rfl (fun g67 => ?_) (fun g67 => ?_))))))))))
   ·
    have B114 := (((((((((B4.kx u10).kx u15).kx u22).kx u39).kx u46).kx u90).keep u98 (by omega)).keep u106 (by omega)).kx u110)
    refine y_loadN (vs := [.int .i64 r.rest, .int .i64 r.span, .int .i64 r.work, .int .i64 r.week, .int .i64 r.ww]) isAgg23 sizeOf23 rfl rfl rfl (B114.at.sub 0 5) rfl (fun h => h) (y_move rfl rfl rfl (y_move rfl rfl rfl (s_do ?_)))
    have D115 := (A105.kE u110)
    refine t_call own16 rfl rfl rfl rfl (rLongest_c (h.ds ++ [x.t]) ao101 gb102 0 cp103 _ (D115.sl (fun _ => rfl)) (by rw [List.length_append, List.length_singleton]; omega) (by omega)) (fun v117 w118 r120 => ?_)
    obtain ⟨⟨aoL116, gL116, cL116, rfl, haL116⟩, u119⟩ := r120
    have zu119 := u119.size
    have lt_gL116 := haL116.lt
    refine s_next ((Upd.refl _ _).nx u119) (s_do (t_call own18 rfl rfl rfl rfl (rBroken_c r (srtS ((h.ds ++ [x.t]).map lngS)) aoL116 gL116 0 cL116 _ (haL116.sl (fun _ => rfl)) (by rw [srt_len, List.length_map]; exact (by rw [List.length_append, List.length_singleton]; omega)) (lngs_ok hod2) hr (by omega)) (fun v122 w123 r125 => ?_)))
    obtain ⟨rfl, u124⟩ := r125
    have zu124 := u124.size
    refine s_next ((Upd.refl _ _).nx u124) (y_cmp rfl rfl rfl rfl rfl (y_pick_t rfl rfl rfl rfl (y_assign rfl rfl rfl (y_assign rfl rfl rfl (s_nil (hK108 _ _ (c_ret (f_ret2 (v1 := .bool (decide ((brokP r (srtS ((h.ds ++ [x.t]).map lngS))) = 0))) (v2 := .bool pb) results36 rfl rfl ?_))))))))
    subst hpe
    have h9 : (decide ((brokP r (srtS ((h.ds ++ [x.t]).map lngS))) = 0)) = MayR r h.slr x := (by unfold MayR canB; rw [show winM h.slr.f h.slr.u x = true from decide_eq_true (by show h.f ≤ x.t.bl ∧ x.t.eh ≤ h.u; omega), Bool.true_and, show h.slr.ds = h.ds from rfl, ← lng_snoc])
    exact ⟨congrArg (fun z => Value.tuple #[.bool z, .bool (pltP h.ps x)]) h9, ((E111.nx u119).nx u124)⟩
   refine y_skip rfl rfl rfl (y_skip rfl rfl rfl (y_move rfl rfl rfl (s_do (t_skip rfl rfl rfl (s_next (Upd.refl _ _) (s_do (t_skip rfl rfl rfl (s_next (Upd.refl _ _) (y_skip rfl rfl rfl (y_pick_f rfl rfl rfl rfl (y_assign rfl rfl rfl (y_assign rfl rfl rfl (s_nil (hK108 _ _ (c_ret (f_ret2 (v1 := .bool false) (v2 := .bool pb) results36 rfl rfl ?_))))))))))))))))
   subst hpe
   have h9 : false = MayR r h.slr x := (by unfold MayR canB; rw [show winM h.slr.f h.slr.u x = false from decide_eq_false (by show ¬ (h.f ≤ x.t.bl ∧ x.t.eh ≤ h.u); omega), Bool.false_and])
   exact ⟨congrArg (fun z => Value.tuple #[.bool z, .bool (pltP h.ps x)]) h9, E111⟩
  refine y_skip rfl rfl rfl (y_skip rfl rfl rfl (y_skip rfl rfl rfl (y_skip rfl rfl rfl (y_skip rfl rfl rfl (y_skip rfl rfl rfl (y_skip rfl rfl rfl (y_pick_f rfl rfl rfl rfl (y_move rfl rfl rfl (y_skip rfl rfl rfl (y_skip rfl rfl rfl (y_move rfl rfl rfl (s_do (t_skip rfl rfl rfl (s_next (Upd.refl _ _) (s_do (t_skip rfl rfl rfl (s_next (Upd.refl _ _) (y_skip rfl rfl rfl (y_pick_f rfl rfl rfl rfl (y_assign rfl rfl rfl (y_assign rfl rfl rfl (s_nil (hK108 _ _ ?_)))))))))))))))))))))))
  refine c_ret (f_ret2 (v1 := .bool false) (v2 := .bool pb) results36 rfl rfl ?_)
  subst hpe
  have h9 : false = MayR r h.slr x := (by unfold MayR canB; rw [show winM h.slr.f h.slr.u x = false from decide_eq_false (by show ¬ (h.f ≤ x.t.bl ∧ x.t.eh ≤ h.u); omega), Bool.false_and])
  exact ⟨congrArg (fun z => Value.tuple #[.bool z, .bool (pltP h.ps x)]) h9, E111⟩
 refine s_do (t_bslice (ps := [(0, .agg #[.int .i64 x.t.bl, .int .i64 x.t.bh, .int .i64 x.t.el, .int .i64 x.t.eh])]) (cs := [.int .i64 x.t.bl, .int .i64 x.t.bh, .int .i64 x.t.el, .int .i64 x.t.eh]) (e := 37) rfl rfl ⟨rfl, rfl⟩ (fun w => by kernel_rfl) (fun bk127 w128 ebk127 sbk127 B129 u130 => ?_))
 have zu130 := u130.size
 refine s_next ((Upd.refl _ _).nx u130) (s_do (t_bslice (ps := []) (cs := []) (e := 37) rfl rfl ⟨rfl, rfl⟩ (fun w => by kernel_rfl) (fun bk132 w133 ebk132 sbk132 B134 u135 => ?_)))
 have zu135 := u135.size
 have E136 := (E40.nx u130).nx u135
 refine s_next ((Upd.refl _ _).nx u135) (s_do (t_copy (enc := encDty) (z := .agg #[.int .i64 0, .int .i64 0, .int .i64 0, .int .i64 0]) (bytes := 32) (k := 4) (ys := h.ds) underlying24 (by kernel_rfl) rfl (by decide) (fun _ => rfl) (by intro x; simp [encDty, Value.oneCell']) rfl rfl rfl rfl B134 (hm.hd.keep E136 (fun _ h => h)) (by omega) (by decide) (fun ao137 gb138 cp139 w140 A141 u142 gegb138 => ?_)))
 have zu142 := u142.size
 have lt_gb138 := A141.lt
 refine s_next ((Upd.refl _ _).next u142 (fun i hi (h : (i = bk132 ∧ bk132 ≤ i)) => show w38.heap.size ≤ i ∨ (False) by first | omega | exact .inr h)) (s_do ?_)
 have B144 := ((B129.kx u135).keep u142 (by omega))
 refine t_append (z := .agg #[.int .i64 0, .int .i64 0, .int .i64 0, .int .i64 0]) (bytes := 32) (k := 4) (base := bk132) x.t underlying24 (by kernel_rfl) rfl (by decide) (fun _ => rfl) (by intro x; simp [encDty, Value.oneCell']) rfl rfl rfl rfl A141 B144 (by omega) (by omega) (by decide) (fun ao145 gb146 cp147 w148 A149 u150 gegb146 lngb146 => ?_)
 have zu150 := u150.size
 have lt_gb146 := A149.lt
 refine s_next ((Upd.refl _ _).next u150 (fun i hi (h : (i = gb138 ∧ bk132 ≤ i)) => show w38.heap.size ≤ i ∨ (False) by first | omega | exact .inr h)) (y_assign rfl rfl rfl (s_nil (hK37 _ _ (c_seq fun K152 hK152 => (c_drawnM follows (fun _ => False) (.look 0 (.look 1 (.look 2 (.look 3 (.look 4 (.look 5 (.look 6 (.look 7 (.look 8 (.look 9 (.look 10 (.look 11 (.look 12 (.look 13 (.look 14 (.look 15 (.look 16 (.look 17 (.look 18 (.look 23 (.act 19 (.act 20 (.look 21 (.look 22 (.look 24 (.look 25 .done)))) .stop) .stop))))))))))))))))))))) (by kernel_rfl) fun w153 u154 => ?_)))))
 have zu154 := u154.size
 have E155 := ((E136.next u142 (fun i hi h => by omega)).next u150 (fun i hi h => by omega)).nx u154
 refine y_field underlying68 rfl sizeOf37 (1) rfl rfl rfl rfl (y_field underlying37 rfl sizeOf35 (1) rfl rfl rfl rfl (y_field underlying35 rfl sizeOf3 (1) rfl rfl rfl rfl ?_))
 have B156 := (((((((B14.kx u22).kx u39).kx u130).kx u135).keep u142 (by omega)).keep u150 (by omega)).kx u154)
 refine y_load isAgg3 rfl rfl rfl (B156.get rfl) (fun h => h) (y_field underlying79 rfl sizeOf3 (0) rfl rfl rfl rfl ?_)
 have B157 := ((((((B28.kx u39).kx u130).kx u135).keep u142 (by omega)).keep u150 (by omega)).kx u154)
 refine y_load isAgg3 rfl rfl rfl (B157.get rfl) (fun h => h) (y_cmp rfl rfl rfl rfl rfl (y_move rfl rfl rfl (y_splitp 58 rfl (fun g58 => ?_) (fun g58 => ?_))))
 ·
  refine y_field underlying68 rfl sizeOf37 (1) rfl rfl rfl rfl (y_field underlying37 rfl sizeOf35 (3) rfl rfl rfl rfl (y_field underlying35 rfl sizeOf3 (4) rfl rfl rfl rfl (y_load isAgg3 rfl rfl rfl (B156.get rfl) (fun h => h) (y_field underlying79 rfl sizeOf3 (1) rfl rfl rfl rfl (y_load isAgg3 rfl rfl rfl (B157.get rfl) (fun h => h) (y_cmp rfl rfl rfl rfl rfl (y_pick_t rfl rfl rfl rfl (y_move rfl rfl rfl (y_splitp 67 rfl (fun g67 => ?_) (fun g67 => ?_))))))))))
  ·
   have B158 := (((((((((B4.kx u10).kx u15).kx u22).kx u39).kx u130).kx u135).keep u142 (by omega)).keep u150 (by omega)).kx u154)
   refine y_loadN (vs := [.int .i64 r.rest, .int .i64 r.span, .int .i64 r.work, .int .i64 r.week, .int .i64 r.ww]) isAgg23 sizeOf23 rfl rfl rfl (B158.at.sub 0 5) rfl (fun h => h) (y_move rfl rfl rfl (y_move rfl rfl rfl (s_do ?_)))
   have D159 := (A149.kE u154)
   refine t_call own16 rfl rfl rfl rfl (rLongest_c (h.ds ++ [x.t]) ao145 gb146 0 cp147 _ (D159.sl (fun _ => rfl)) (by rw [List.length_append, List.length_singleton]; omega) (by omega)) (fun v161 w162 r164 => ?_)
   obtain ⟨⟨aoL160, gL160, cL160, rfl, haL160⟩, u163⟩ := r164
   have zu163 := u163.size
   have lt_gL160 := haL160.lt
   refine s_next ((Upd.refl _ _).nx u163) (s_do (t_call own18 rfl rfl rfl rfl (rBroken_c r (srtS ((h.ds ++ [x.t]).map lngS)) aoL160 gL160 0 cL160 _ (haL160.sl (fun _ => rfl)) (by rw [srt_len, List.length_map]; exact (by rw [List.length_append, List.length_singleton]; omega)) (lngs_ok hod2) hr (by omega)) (fun v166 w167 r169 => ?_)))
   obtain ⟨rfl, u168⟩ := r169
   have zu168 := u168.size
   refine s_next ((Upd.refl _ _).nx u168) (y_cmp rfl rfl rfl rfl rfl (y_pick_t rfl rfl rfl rfl (y_assign rfl rfl rfl (y_assign rfl rfl rfl (s_nil (hK152 _ _ (c_ret (f_ret2 (v1 := .bool (decide ((brokP r (srtS ((h.ds ++ [x.t]).map lngS))) = 0))) (v2 := .bool pb) results36 rfl rfl ?_))))))))
   subst hpe
   have h9 : (decide ((brokP r (srtS ((h.ds ++ [x.t]).map lngS))) = 0)) = MayR r h.slr x := (by unfold MayR canB; rw [show winM h.slr.f h.slr.u x = true from decide_eq_true (by show h.f ≤ x.t.bl ∧ x.t.eh ≤ h.u; omega), Bool.true_and, show h.slr.ds = h.ds from rfl, ← lng_snoc])
   exact ⟨congrArg (fun z => Value.tuple #[.bool z, .bool (pltP h.ps x)]) h9, ((E155.nx u163).nx u168)⟩
  refine y_skip rfl rfl rfl (y_skip rfl rfl rfl (y_move rfl rfl rfl (s_do (t_skip rfl rfl rfl (s_next (Upd.refl _ _) (s_do (t_skip rfl rfl rfl (s_next (Upd.refl _ _) (y_skip rfl rfl rfl (y_pick_f rfl rfl rfl rfl (y_assign rfl rfl rfl (y_assign rfl rfl rfl (s_nil (hK152 _ _ (c_ret (f_ret2 (v1 := .bool false) (v2 := .bool pb) results36 rfl rfl ?_))))))))))))))))
  subst hpe
  have h9 : false = MayR r h.slr x := (by unfold MayR canB; rw [show winM h.slr.f h.slr.u x = false from decide_eq_false (by show ¬ (h.f ≤ x.t.bl ∧ x.t.eh ≤ h.u); omega), Bool.false_and])
  exact ⟨congrArg (fun z => Value.tuple #[.bool z, .bool (pltP h.ps x)]) h9, E155⟩
 refine y_skip rfl rfl rfl (y_skip rfl rfl rfl (y_skip rfl rfl rfl (y_skip rfl rfl rfl (y_skip rfl rfl rfl (y_skip rfl rfl rfl (y_skip rfl rfl rfl (y_pick_f rfl rfl rfl rfl (y_move rfl rfl rfl (y_skip rfl rfl rfl (y_skip rfl rfl rfl (y_move rfl rfl rfl (s_do (t_skip rfl rfl rfl (s_next (Upd.refl _ _) (s_do (t_skip rfl rfl rfl (s_next (Upd.refl _ _) (y_skip rfl rfl rfl (y_pick_f rfl rfl rfl rfl (y_assign rfl rfl rfl (y_assign rfl rfl rfl (s_nil (hK152 _ _ ?_)))))))))))))))))))))))
 refine c_ret (f_ret2 (v1 := .bool false) (v2 := .bool pb) results36 rfl rfl ?_)
 subst hpe
 have h9 : false = MayR r h.slr x := (by unfold MayR canB; rw [show winM h.slr.f h.slr.u x = false from decide_eq_false (by show ¬ (h.f ≤ x.t.bl ∧ x.t.eh ≤ h.u); omega), Bool.false_and])
 exact ⟨congrArg (fun z => Value.tuple #[.bool z, .bool (pltP h.ps x)]) h9, E155⟩

end Go.Proofs.YtagmodjadmecdaaGreat
namespace Go.Proofs.YtagmodjadmecdaaGreat
open Go Go.RowKit

def AscN : Nat → Nat → List Nat → Prop
  | _, _, [] => True
  | i, n, k :: l => i ≤ k ∧ k < n ∧ AscN (k + 1) n l
theorem AscN.mem {n : Nat} : ∀ {l : List Nat} {i : Nat}, AscN i n l → ∀ {j}, j ∈ l → i ≤ j ∧ j < n
  | k :: l, i, h, j, hj => by
    rcases List.mem_cons.1 hj with e | hj
    · rw [e]; exact ⟨h.1, h.2.1⟩
    · have := AscN.mem h.2.2 hj; have h1 : i ≤ k := h.1; omega
theorem AscN.lt {n : Nat} : ∀ {l : List Nat} {i a : Nat}, AscN i n l → 0 < a → a < l.length → nth l (a - 1) < nth l a
  | [], _, a, _, _, h => absurd h (Nat.not_lt_zero _)
  | k :: l, i, a, h, h0, ha => by
    match a, h0, ha with
    | 1, _, ha =>
      have : nth l 0 ∈ l := nth_mem (by simpa using ha)
      have := AscN.mem h.2.2 this
      show k < nth l 0
      omega
    | a + 2, _, ha =>
      have := AscN.lt (a := a + 1) h.2.2 (by omega) (by simp at ha; omega)
      exact this
def aftN (x : Leg) : List Nat → List Mb → List Mb
  | [], ms => ms
  | k :: l, ms => aftN x l (ms.set k (aftM x (nth ms k)))
def pltN (x : Leg) (ms : List Mb) : List Nat → Int
  | [] => 0
  | k :: l => pltI (nth ms k) x + pltN x ms l
theorem pltN_set {x : Leg} {ms : List Mb} {k : Nat} {a : Mb} (hk : k < ms.length) : ∀ {l : List Nat}, k ∉ l → pltN x (ms.set k a) l = pltN x ms l
  | [], _ => rfl
  | j :: l, h => by
    simp only [List.mem_cons, not_or] at h
    rw [pltN, pltN, pltN_set hk h.2, nth_set' hk, if_neg (fun e => h.1 e.symm)]
theorem ext_nth {α : Type} [Inhabited α] {a b : List α} (hl : a.length = b.length) (h : ∀ i, i < a.length → nth a i = nth b i) : a = b := by
  refine List.ext_getElem hl fun i h1 h2 => ?_
  have := h i h1
  rwa [nth_eq h1, nth_eq h2] at this
abbrev castL (ns : List Nat) : List Int := ns.map fun (j : Nat) => (j : Int)
structure TeamN (r : Rul) (x : Leg) (ms : List Mb) (k i : Nat) (pl : Int) (ns : List Nat) : Prop where
  len : ns.length = k
  asc : AscN i ms.length ns
  can : ∀ j ∈ ns, canM r x (nth ms j) = true
  plt : x.p ≤ pl + pltN x ms ns
theorem mem_teams {r : Rul} {x : Leg} : ∀ {k i : Nat} {nums : List Int} {pl : Int} {ms : List Mb} {t : Tm}, t ∈ teamsP r x k i nums pl ms ↔ ∃ ns, TeamN r x ms k i pl ns ∧ t = ⟨nums ++ castL ns, pl + pltN x ms ns, aftN x ns ms⟩
  | 0, i, nums, pl, ms, t => by
    unfold teamsP
    constructor
    · intro h
      split at h
      · rename_i hp
        rw [List.mem_singleton.1 h]
        exact ⟨[], ⟨rfl, trivial, by simp, by simpa [pltN] using hp⟩, by simp [castL, pltN, aftN]⟩
      · cases h
    · rintro ⟨ns, h, e⟩
      obtain rfl := List.length_eq_zero_iff.1 h.len
      have hp := h.plt
      rw [show pl + pltN x ms [] = pl from Int.add_zero pl] at hp
      rw [if_pos hp, e]
      simp [castL, pltN, aftN]
  | k + 1, i, nums, pl, ms, t => by
    unfold teamsP
    rw [List.mem_flatMap]
    constructor
    · rintro ⟨j, hj, h⟩
      rw [List.mem_range'_1] at hj
      split at h
      · rename_i hc
        obtain ⟨ns, h1, e⟩ := mem_teams.1 h
        have hjl : j < ms.length := by omega
        have hasc := h1.asc; rw [List.length_set] at hasc
        have hnj : j ∉ ns := fun q => by have := hasc.mem q; omega
        refine ⟨j :: ns, ⟨by simp [h1.len], ⟨by omega, hjl, hasc⟩, fun a ha => ?_, ?_⟩, ?_⟩
        · rcases List.mem_cons.1 ha with q | q
          · rw [q]; exact hc
          · have h2 := h1.can a q
            rwa [nth_set' hjl, if_neg (fun e : a = j => hnj (e ▸ q))] at h2
        · have h2 := h1.plt
          rw [pltN_set hjl hnj] at h2
          simp only [pltN]; omega
        · rw [e, pltN_set hjl hnj]
          simp only [castL, List.map_cons, pltN, aftN, List.append_assoc, List.cons_append, List.nil_append]
          rw [Int.add_assoc]
      · cases h
    · rintro ⟨ns, h1, e⟩
      match ns, h1 with
      | j :: ns, h1 =>
        obtain ⟨a1, a2, a3⟩ := h1.asc
        have hnj : j ∉ ns := fun q => by have := a3.mem q; omega
        refine ⟨j, List.mem_range'_1.2 ⟨a1, by omega⟩, ?_⟩
        rw [if_pos (h1.can j (by simp))]
        refine mem_teams.2 ⟨ns, ⟨by have := h1.len; simpa using this, by rw [List.length_set]; exact a3, fun a ha => ?_, ?_⟩, ?_⟩
        · rw [nth_set' a2, if_neg (fun e : a = j => hnj (e ▸ ha))]; exact h1.can a (by simp [ha])
        · have h2 := h1.plt
          rw [pltN_set a2 hnj]
          simp only [pltN] at h2; omega
        · rw [e, pltN_set a2 hnj]
          simp only [castL, List.map_cons, pltN, aftN, List.append_assoc, List.cons_append, List.nil_append]
          rw [Int.add_assoc]
def planOk (r : Rul) : List Leg → List Mb → List (List Nat) → Prop
  | [], _, p => p = []
  | x :: xs, ms, p => ∃ ns p', p = ns :: p' ∧ TeamN r x ms x.h.toNat 0 0 ns ∧ planOk r xs (aftN x ns ms) p'
theorem planOk_len {r : Rul} : ∀ {xs : List Leg} {ms : List Mb} {p : List (List Nat)}, planOk r xs ms p → p.length = xs.length
  | [], _, p, h => by have e : p = [] := h; subst e; rfl
  | x :: xs, ms, p, h => by obtain ⟨ns, p', rfl, _, h2⟩ := h; simp [planOk_len h2]
theorem tryF_some {f : Tm → Nat → Option (List (List Int)) × Nat} : ∀ {ts : List Tm} {u : Nat} {q : List (List Int)}, (tryF f ts u).1 = some q → ∃ t ∈ ts, ∃ u p, (f t u).1 = some p ∧ q = t.nums :: p
  | [], _, _, h => by cases h
  | t :: ts, u, q, h => by
    rw [tryF] at h
    rcases hf : f t u with ⟨_ | p, u'⟩ <;> rw [hf] at h
    · obtain ⟨t', ht, r⟩ := tryF_some h
      exact ⟨t', by simp [ht], r⟩
    · exact ⟨t, by simp, u, p, by rw [hf], by simpa using h.symm⟩
theorem asg_some {r : Rul} : ∀ {xs : List Leg} {ms : List Mb} {k u : Nat} {q : List (List Int)}, (asgP r xs ms k u).1 = some q → ∃ p, planOk r xs ms p ∧ q = p.map castL
  | [], _, _, _, q, h => ⟨[], rfl, by have : some [] = some q := h; injection this with e; exact e.symm⟩
  | x :: xs, ms, k, u, q, h => by
    obtain ⟨t, ht, u1, p, h1, rfl⟩ := tryF_some h
    obtain ⟨ns, h2, rfl⟩ := mem_teams.1 ht
    obtain ⟨p', h3, rfl⟩ := asg_some h1
    exact ⟨ns :: p', ⟨ns, p', rfl, h2, h3⟩, rfl⟩
def dep (r : Rul) : List Leg → List Mb → Nat
  | [], _ => 0
  | x :: xs, ms => (teamsP r x x.h.toNat 0 [] 0 ms).foldl (fun d t => max d (1 + dep r xs t.ms)) 0
-- verifying
theorem giveP_len {r : Rul} {x : Leg} {l : List Int} {ms : List Mb} (h : (l.length : Int) ≠ x.h) : giveP r x l ms = none := by
  unfold giveP
  split
  · rw [if_neg (fun q => h q.1)]
  · rfl
theorem nth_map2 {α β : Type} [Inhabited α] [Inhabited β] (f : α → β) {l : List α} {i : Nat} (h : i < l.length) : nth (l.map f) i = f (nth l i) := nth_map' f h

end Go.Proofs.YtagmodjadmecdaaGreat
namespace Go.Proofs.YtagmodjadmecdaaGreat
open Go Go.RowKit
def encB (b : Bool) : List Value := [.bool b]
theorem SlB.own {w : World} {b : Nat} {t : TypeId} {xs : List Bool} (h : Blk w b t (xs.map Value.bool)) : Sl encB 1 w (some ⟨b, 0, none⟩) b 0 xs :=
  ⟨fun _ => rfl, fun _ => h.lt, fun i hi j v hv => by
    cases j with
    | zero =>
      rw [nth_eq hi] at hv
      simp [encB] at hv
      subst hv
      exact h.get (off := 0 + i * 1 + 0) (by simp [hi])
    | succ j => simp [encB] at hv⟩
section
variable {rd : Option Nat} {P : Program} {ops : Array Oper} {Q : Exit → Act → World → Prop} {N : Nat} {ds : List Deferred} {rest : List Oper} {L : Slots} {w : World}
variable {d : Nat} {ty : TypeId} {pos : String} {aft : Array Edge} {g : Option (Nat × Bool)}
end
end Go.Proofs.YtagmodjadmecdaaGreat
