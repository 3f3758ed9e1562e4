/-
  The reference: sailors, legs and May; CrewMays. Conditions: none.
-/
import Derived.Test.YtagmodjadmecdaaGreatMB3
import Derived.Test.YtagmodjadmecdaaGreatMA23
namespace Go.Proofs.YtagmodjadmecdaaGreat
open Go Go.RowKit

theorem okSlr_iff {h : HS} : okSlr h.slr = true ↔ ((0 ≤ h.f ∧ h.f ≤ h.u) ∧ h.u ≤ 20160) ∧ h.ps.length ≤ 10 ∧ chkD h.ds = 0 ∧ ∀ p ∈ h.ps, okPpr p = true := by
  unfold okSlr
  rw [decide_eq_true_eq]
  simp only [HS.slr]
  constructor
  · rintro ⟨h1, h2, h3, h4, h5⟩; exact ⟨by omega, h3, h5, h4⟩
  · rintro ⟨h1, h3, h5, h4⟩; exact ⟨by omega, by omega, h3, h4, h5⟩
abbrev pltB (x : Leg) (p : Ppr) : Bool := decide (p.r = x.r ∧ x.t.eh ≤ p.u)

theorem own34 : Own Tryz.prog 34 := ⟨Tryz.f34, Tryz.func34, by kernel_rfl, by kernel_rfl⟩
theorem own35 : Own Tryz.prog 35 := ⟨Tryz.f35, Tryz.func35, by kernel_rfl, by kernel_rfl⟩
theorem own36 : Own Tryz.prog 36 := ⟨Tryz.f36, Tryz.func36, by kernel_rfl, by kernel_rfl⟩
theorem rSailor_c (h : HS) (w0 : World) (hm : SlrM w0 h) :
    CallsV Tryz.prog 34 [.agg #[.int .i64 h.f, .int .i64 h.u, .slice h.ap h.ps.length h.cp, .slice h.ad h.ds.length h.cd]] w0 (fun v w' => v = .bool (okSlr h.slr) ∧ Ext w0 w') := by
 refine f_enter (N := 56) Tryz.func34 rfl rfl rfl (c_seq fun K1 hK1 => (c_region (t_box (cs := [.int .i64 h.f, .int .i64 h.u, .slice h.ap h.ps.length h.cp, .slice h.ad h.ds.length h.cd]) rfl rfl rfl rfl (fun bk2 w3 ebk2 sbk2 B4 u5 => ?_))))
 have zu5 := u5.size
 have E6 := (Upd.refl (fun _ => False) w0).nx u5
 refine t_assign rfl rfl rfl (t_nil' (hK1 _ _ (c_seq fun K7 hK7 => (c_cut (γ := Bool) (fun q => [(1, .pointer (some ⟨bk2, 0, none⟩)), (30, .bool q)]) (fun q w => Upd (fun _ => False) w3 w ∧ (q = true ↔ ¬ (((0 ≤ h.f ∧ h.f ≤ h.u) ∧ h.u ≤ 20160) ∧ h.ps.length ≤ 10 ∧ chkD h.ds = 0))) (fun K9 hK9 => ?_) ?_))))
 ·
  refine c_region (t_field Tryz.underlying79 rfl Tryz.sizeOf3 (0) rfl rfl rfl rfl (t_load Tryz.isAgg3 rfl rfl rfl (B4.get rfl) (t_cmp rfl rfl rfl rfl rfl (t_move rfl rfl rfl (t_splitp 7 rfl (fun g7 => ?_) (fun g7 => ?_))))))
  ·
   refine t_skip rfl rfl rfl (t_skip rfl rfl rfl (t_skip rfl rfl rfl (t_skip rfl rfl rfl (t_skip rfl rfl rfl (t_pick_t rfl rfl rfl rfl (t_move rfl rfl rfl (t_skip rfl rfl rfl (t_skip rfl rfl rfl (t_skip rfl rfl rfl (t_pick_t rfl rfl rfl rfl (t_move rfl rfl rfl (t_skip rfl rfl rfl (t_skip rfl rfl rfl (t_skip rfl rfl rfl (t_skip rfl rfl rfl (t_pick_t rfl rfl rfl rfl (t_move rfl rfl rfl (t_skip rfl rfl rfl (t_skip rfl rfl rfl (t_skip rfl rfl rfl (t_skip rfl rfl rfl (t_pick_t rfl rfl rfl rfl (t_nil' ?_)))))))))))))))))))))))
   exact hK9 true _ _ ⟨rfl, rfl, trivial⟩ ⟨(Upd.refl _ _), ⟨fun _ => by omega, fun _ => rfl⟩⟩
  refine t_field Tryz.underlying79 rfl Tryz.sizeOf3 (0) rfl rfl rfl rfl (t_load Tryz.isAgg3 rfl rfl rfl (B4.get rfl) (t_field Tryz.underlying79 rfl Tryz.sizeOf3 (1) rfl rfl rfl rfl (t_load Tryz.isAgg3 rfl rfl rfl (B4.get rfl) (t_cmp rfl rfl rfl rfl rfl (t_pick_f rfl rfl rfl rfl (t_move rfl rfl rfl (t_splitp 14 rfl (fun g14 => ?_) (fun g14 => ?_))))))))
  ·
   refine t_skip rfl rfl rfl (t_skip rfl rfl rfl (t_skip rfl rfl rfl (t_pick_t rfl rfl rfl rfl (t_move rfl rfl rfl (t_skip rfl rfl rfl (t_skip rfl rfl rfl (t_skip rfl rfl rfl (t_skip rfl rfl rfl (t_pick_t rfl rfl rfl rfl (t_move rfl rfl rfl (t_skip rfl rfl rfl (t_skip rfl rfl rfl (t_skip rfl rfl rfl (t_skip rfl rfl rfl (t_pick_t rfl rfl rfl rfl (t_nil' ?_))))))))))))))))
   exact hK9 true _ _ ⟨rfl, rfl, trivial⟩ ⟨(Upd.refl _ _), ⟨fun _ => by omega, fun _ => rfl⟩⟩
  refine t_field Tryz.underlying79 rfl Tryz.sizeOf3 (1) rfl rfl rfl rfl (t_load Tryz.isAgg3 rfl rfl rfl (B4.get rfl) (t_cmp rfl rfl rfl rfl rfl (t_pick_f rfl rfl rfl rfl (t_move rfl rfl rfl (t_splitp 19 rfl (fun g19 => ?_) (fun g19 => ?_))))))
  ·
   refine t_skip rfl rfl rfl (t_skip rfl rfl rfl (t_skip rfl rfl rfl (t_skip rfl rfl rfl (t_pick_t rfl rfl rfl rfl (t_move rfl rfl rfl (t_skip rfl rfl rfl (t_skip rfl rfl rfl (t_skip rfl rfl rfl (t_skip rfl rfl rfl (t_pick_t rfl rfl rfl rfl (t_nil' ?_)))))))))))
   exact hK9 true _ _ ⟨rfl, rfl, trivial⟩ ⟨(Upd.refl _ _), ⟨fun _ => by omega, fun _ => rfl⟩⟩
  refine t_field Tryz.underlying79 rfl Tryz.sizeOf77 (2) rfl rfl rfl rfl (t_load Tryz.isAgg77 rfl rfl rfl (B4.get rfl) (t_len Tryz.underlying77 rfl rfl rfl rfl (t_cmp rfl rfl rfl rfl rfl (t_pick_f rfl rfl rfl rfl (t_move rfl rfl rfl (t_splitp 25 rfl (fun g25 => ?_) (fun g25 => ?_)))))))
  ·
   refine t_skip rfl rfl rfl (t_skip rfl rfl rfl (t_skip rfl rfl rfl (t_skip rfl rfl rfl (t_pick_t rfl rfl rfl rfl (t_nil' ?_)))))
   exact hK9 true _ _ ⟨rfl, rfl, trivial⟩ ⟨(Upd.refl _ _), ⟨fun _ => by omega, fun _ => rfl⟩⟩
  refine t_field Tryz.underlying79 rfl Tryz.sizeOf24 (3) rfl rfl rfl rfl (t_load Tryz.isAgg24 rfl rfl rfl (B4.get rfl) (t_call own54 rfl rfl rfl rfl (rDuties_c h.ds h.ad h.bd h.od h.cd _ (hm.hd.keep E6 (fun _ h => h)) hm.hdl) (fun v12 w13 r15 => ?_)))
  obtain ⟨rfl, u14⟩ := r15
  have zu14 := u14.size
  refine t_cmp rfl rfl rfl rfl rfl (t_pick_f rfl rfl rfl rfl (t_nil' ?_))
  exact hK9 (decide ((chkD h.ds) ≠ 0)) _ _ ⟨rfl, rfl, trivial⟩ ⟨((Upd.refl _ _).next u14 (fun _ _ h => h.elim)), (by rw [decide_eq_true_eq]; constructor <;> intro h <;> omega)⟩
 intro q w10 hW
 obtain ⟨u11, I17⟩ := hW
 have zu11 := u11.size
 have E18 := E6.nx u11
 have hq := I17; clear I17
 refine c_cond rfl (fun g30 => ?_) (fun g30 => ?_)
 ·
  have hQ := hq.1 g30
  refine c_seq fun K19 hK19 => (c_region (t_assign rfl rfl rfl (t_nil' (hK19 _ _ (c_ret (f_ret1 (v := .bool false) Tryz.results34 rfl ?_))))))
  exact ⟨congrArg Value.bool (by rw [Bool.eq_iff_iff, okSlr_iff]; exact ⟨fun h => (by cases h), fun h => (by omega)⟩), E18⟩
 have hQ : ((0 ≤ h.f ∧ h.f ≤ h.u) ∧ h.u ≤ 20160) ∧ h.ps.length ≤ 10 ∧ chkD h.ds = 0 := Decidable.not_not.1 fun h => by rw [hq.2 h] at g30; cases g30
 refine c_skip (hK7 _ _ (c_seq fun K20 hK20 => (c_seq fun K21 hK21 => (c_region (t_assign rfl rfl rfl (t_nil' (hK21 _ _ (c_block (c_loop (γ := Nat) (fun k => [(1, .pointer (some ⟨bk2, 0, none⟩)), (3, .int .i64 (k : Int))]) (fun k w => Upd (fun _ => False) w10 w ∧ (k ≤ h.ps.length) ∧ (∀ j, j < k → okPpr (nth h.ps j) = true)) (fun k => h.ps.length - k) 0 ⟨rfl, rfl, trivial⟩ ⟨Upd.refl _ _, (Nat.zero_le _), (fun j hj => absurd hj (Nat.not_lt_zero _))⟩ ?_)))))))))
 intro k w23 hW K22 hK22
 obtain ⟨u24, I25, I26⟩ := hW
 have zu24 := u24.size
 have E27 := E18.nx u24
 have hk := I25; clear I25
 have hno := I26; clear I26
 refine c_seq fun K28 hK28 => (c_seq fun K29 hK29 => (c_region (t_move rfl rfl rfl (t_field Tryz.underlying79 rfl Tryz.sizeOf77 (2) rfl rfl rfl rfl ?_))))
 have B30 := ((B4.kx u11).kx u24)
 refine t_load Tryz.isAgg77 rfl rfl rfl (B30.get rfl) (t_len Tryz.underlying77 rfl rfl rfl rfl (t_cmp rfl rfl rfl rfl rfl (t_nil' (hK29 _ _ (c_condp rfl (fun g35 => ?_) (fun g35 => ?_))))))
 ·
  refine c_skip (hK28 _ _ (c_seq fun K31 hK31 => (c_block (c_seq fun K32 hK32 => (c_region (t_field Tryz.underlying79 rfl Tryz.sizeOf77 (2) rfl rfl rfl rfl (t_load Tryz.isAgg77 rfl rfl rfl (B30.get rfl) (t_move rfl rfl rfl ?_))))))))
  have i33 : k < h.ps.length := (by omega)
  refine t_index (j := k) Tryz.underlying77 Tryz.sizeOf136 rfl rfl rfl rfl ((hm.hp.keep E27 (fun _ h => h)).addr (by omega)) rfl i33 (t_field Tryz.underlying136 rfl Tryz.sizeOf3 (h.op + k * 2 + 0) rfl rfl rfl rfl (t_load Tryz.isAgg3 rfl rfl rfl (((hm.hp.keep E27 (fun _ h => h)).at_ k (by omega)) 0 _ rfl) (t_call own53 rfl rfl rfl rfl (rin_c ((nth h.ps k).r) 0 19 _) (fun v34 w35 r37 => ?_))))
  obtain ⟨rfl, u36⟩ := r37
  have zu36 := u36.size
  have E38 := E27.nx u36
  refine t_notp rfl rfl rfl (t_move rfl rfl rfl (t_splitp 46 rfl (fun g46 => ?_) (fun g46 => ?_)))
  ·
   refine t_skip rfl rfl rfl (t_skip rfl rfl rfl (t_skip rfl rfl rfl (t_skip rfl rfl rfl (t_skip rfl rfl rfl (t_skip rfl rfl rfl (t_skip rfl rfl rfl (t_skip rfl rfl rfl (t_pick_t rfl rfl rfl rfl (t_nil' (hK32 _ _ (c_cond_t rfl (c_seq fun K39 hK39 => (c_region (t_assign rfl rfl rfl (t_nil' (hK39 _ _ (c_ret (f_ret1 (v := .bool false) Tryz.results34 rfl ?_))))))))))))))))))
   exact ⟨congrArg Value.bool (by rw [Bool.eq_iff_iff, okSlr_iff]; exact ⟨fun h => (by cases h), fun h9 => (by have h8 := h9.2.2.2 _ (nth_mem (show k < h.ps.length by omega)); unfold okPpr at h8; rw [decide_eq_true_eq] at h8; omega)⟩), E38⟩
  refine t_field Tryz.underlying79 rfl Tryz.sizeOf77 (2) rfl rfl rfl rfl ?_
  have B40 := (B30.kx u36)
  refine t_load Tryz.isAgg77 rfl rfl rfl (B40.get rfl) (t_move rfl rfl rfl ?_)
  have i41 : k < h.ps.length := (by omega)
  refine t_index (j := k) Tryz.underlying77 Tryz.sizeOf136 rfl rfl rfl rfl ((hm.hp.keep E38 (fun _ h => h)).addr (by omega)) rfl i41 (t_field Tryz.underlying136 rfl Tryz.sizeOf3 (h.op + k * 2 + 1) rfl rfl rfl rfl (t_load Tryz.isAgg3 rfl rfl rfl (((hm.hp.keep E38 (fun _ h => h)).at_ k (by omega)) 1 _ rfl) (t_call own53 rfl rfl rfl rfl (rin_c ((nth h.ps k).u) 0 20160 _) (fun v42 w43 r45 => ?_))))
  obtain ⟨rfl, u44⟩ := r45
  have zu44 := u44.size
  refine t_notp rfl rfl rfl (t_pick_f rfl rfl rfl rfl (t_nil' (hK32 _ _ (c_condp rfl (fun g55 => ?_) (fun g55 => ?_)))))
  ·
   refine c_seq fun K47 hK47 => (c_region (t_assign rfl rfl rfl (t_nil' (hK47 _ _ (c_ret (f_ret1 (v := .bool false) Tryz.results34 rfl ?_))))))
   exact ⟨congrArg Value.bool (by rw [Bool.eq_iff_iff, okSlr_iff]; exact ⟨fun h => (by cases h), fun h9 => (by have h8 := h9.2.2.2 _ (nth_mem (show k < h.ps.length by omega)); unfold okPpr at h8; rw [decide_eq_true_eq] at h8; omega)⟩), (E38.nx u44)⟩
  refine c_skip (hK31 _ _ (c_region (t_move rfl rfl rfl (t_ari rfl rfl rfl rfl rfl (by omega) (t_assign rfl rfl rfl (t_nil' ?_))))))
  exact hK22 (k + 1) _ _ (by omega) ⟨rfl, rfl, trivial⟩ ⟨((u24.next u36 (fun _ _ h => h.elim)).next u44 (fun _ _ h => h.elim)), (by omega), (fun j hj => by
    rcases Nat.lt_or_ge j k with q | q
    · exact hno j q
    · rw [show j = k by omega]; unfold okPpr; rw [decide_eq_true_eq]; omega)⟩
 refine c_exit (hK20 _ _ (c_seq fun K48 hK48 => (c_region (t_assign rfl rfl rfl (t_nil' (hK48 _ _ (c_ret (f_ret1 (v := .bool true) Tryz.results34 rfl ?_))))))))
 exact ⟨congrArg Value.bool (Eq.symm (okSlr_iff.2 ⟨by omega, by omega, by omega, fun p hp => by
   obtain ⟨j, hj, rfl⟩ := List.getElem_of_mem hp
   rw [← nth_eq]; exact hno j (by omega)⟩)), E27⟩

theorem rLeg_c (x : Leg) (w0 : World) :
    CallsV Tryz.prog 35 [.agg #[.int .i64 x.r, .int .i64 x.t.bl, .int .i64 x.t.bh, .int .i64 x.t.el, .int .i64 x.t.eh, .int .i64 x.h, .int .i64 x.p]] w0 (fun v w' => v = .bool (okLeg x) ∧ Ext w0 w') := by
 refine f_enter (N := 23) Tryz.func35 rfl rfl rfl (c_seq fun K1 hK1 => (c_region (t_box (cs := [.int .i64 x.r, .int .i64 x.t.bl, .int .i64 x.t.bh, .int .i64 x.t.el, .int .i64 x.t.eh, .int .i64 x.h, .int .i64 x.p]) rfl rfl rfl rfl (fun bk2 w3 ebk2 sbk2 B4 u5 => ?_))))
 have zu5 := u5.size
 refine t_assign rfl rfl rfl (t_nil' (hK1 _ _ (c_seq fun K7 hK7 => (c_region (t_field Tryz.underlying68 rfl Tryz.sizeOf3 (0) rfl rfl rfl rfl (t_load Tryz.isAgg3 rfl rfl rfl (B4.get rfl) (t_call own53 rfl rfl rfl rfl (rin_c x.r 0 19 _) (fun v8 w9 r11 => ?_))))))))
 obtain ⟨rfl, u10⟩ := r11
 have zu10 := u10.size
 have E12 := ((Upd.refl (fun _ => False) w0).nx u5).nx u10
 refine t_move rfl rfl rfl (t_splitp 6 rfl (fun g6 => ?_) (fun g6 => ?_))
 ·
  refine t_field Tryz.underlying68 rfl Tryz.sizeOf37 (1) rfl rfl rfl rfl ?_
  have B13 := (B4.kx u10)
  refine t_loadN (vs := [.int .i64 x.t.bl, .int .i64 x.t.bh, .int .i64 x.t.el, .int .i64 x.t.eh]) Tryz.isAgg37 Tryz.sizeOf37 rfl rfl rfl (B13.at.sub 1 4) rfl (t_call own69 rfl rfl rfl rfl (rDuty_c x.t _) (fun v14 w15 r17 => ?_))
  obtain ⟨rfl, u16⟩ := r17
  have zu16 := u16.size
  have E18 := E12.nx u16
  refine t_pick_t rfl rfl rfl rfl (t_move rfl rfl rfl (t_split 11 rfl (fun g11 => ?_) (fun g11 => ?_)))
  ·
   refine t_field Tryz.underlying68 rfl Tryz.sizeOf3 (5) rfl rfl rfl rfl ?_
   have B19 := (B13.kx u16)
   refine t_load Tryz.isAgg3 rfl rfl rfl (B19.get rfl) (t_call own53 rfl rfl rfl rfl (rin_c x.h 1 3 _) (fun v20 w21 r23 => ?_))
   obtain ⟨rfl, u22⟩ := r23
   have zu22 := u22.size
   have E24 := E18.nx u22
   refine t_pick_t rfl rfl rfl rfl (t_move rfl rfl rfl (t_splitp 16 rfl (fun g16 => ?_) (fun g16 => ?_)))
   ·
    refine t_field Tryz.underlying68 rfl Tryz.sizeOf3 (6) rfl rfl rfl rfl ?_
    have B25 := (B19.kx u22)
    refine t_load Tryz.isAgg3 rfl rfl rfl (B25.get rfl) (t_field Tryz.underlying68 rfl Tryz.sizeOf3 (5) rfl rfl rfl rfl (t_load Tryz.isAgg3 rfl rfl rfl (B25.get rfl) (t_call own53 rfl rfl rfl rfl (rin_c x.p 0 x.h _) (fun v26 w27 r29 => ?_))))
    obtain ⟨rfl, u28⟩ := r29
    have zu28 := u28.size
    refine t_pick_t rfl rfl rfl rfl (t_assign rfl rfl rfl (t_nil' (hK7 _ _ (c_ret (f_ret1 (v := .bool (decide (0 ≤ x.p ∧ x.p ≤ x.h))) Tryz.results35 rfl ?_)))))
    exact ⟨congrArg Value.bool (by rw [Bool.eq_iff_iff]; unfold okLeg; simp only [decide_eq_true_eq] <;> first | omega | (simp [*] <;> omega)), (E24.nx u28)⟩
   refine t_skip rfl rfl rfl (t_skip rfl rfl rfl (t_skip rfl rfl rfl (t_skip rfl rfl rfl (t_skip rfl rfl rfl (t_pick_f rfl rfl rfl rfl (t_assign rfl rfl rfl (t_nil' (hK7 _ _ (c_ret (f_ret1 (v := .bool false) Tryz.results35 rfl ?_))))))))))
   exact ⟨congrArg Value.bool (by rw [Bool.eq_iff_iff]; unfold okLeg; simp only [decide_eq_true_eq] <;> first | omega | (simp [*] <;> omega)), E24⟩
  refine t_skip rfl rfl rfl (t_skip rfl rfl rfl (t_skip rfl rfl rfl (t_pick_f rfl rfl rfl rfl (t_move rfl rfl rfl (t_skip rfl rfl rfl (t_skip rfl rfl rfl (t_skip rfl rfl rfl (t_skip rfl rfl rfl (t_skip rfl rfl rfl (t_pick_f rfl rfl rfl rfl (t_assign rfl rfl rfl (t_nil' (hK7 _ _ (c_ret (f_ret1 (v := .bool false) Tryz.results35 rfl ?_)))))))))))))))
  exact ⟨congrArg Value.bool (by rw [Bool.eq_iff_iff]; unfold okLeg; simp only [decide_eq_true_eq] <;> first | omega | (simp [*] <;> omega)), E18⟩
 refine t_skip rfl rfl rfl (t_skip rfl rfl rfl (t_skip rfl rfl rfl (t_pick_f rfl rfl rfl rfl (t_move rfl rfl rfl (t_skip rfl rfl rfl (t_skip rfl rfl rfl (t_skip rfl rfl rfl (t_pick_f rfl rfl rfl rfl (t_move rfl rfl rfl (t_skip rfl rfl rfl (t_skip rfl rfl rfl (t_skip rfl rfl rfl (t_skip rfl rfl rfl (t_skip rfl rfl rfl (t_pick_f rfl rfl rfl rfl (t_assign rfl rfl rfl (t_nil' (hK7 _ _ (c_ret (f_ret1 (v := .bool false) Tryz.results35 rfl ?_))))))))))))))))))))
 exact ⟨congrArg Value.bool (by rw [Bool.eq_iff_iff]; unfold okLeg; simp only [decide_eq_true_eq] <;> first | omega | (simp [*] <;> omega)), E12⟩

set_option maxHeartbeats 1000000 in
theorem rMay_c (r : Rul) (h : HS) (x : Leg) (w0 : World) (hm : SlrM w0 h) (hpl : h.ps.length ≤ 1000000) (hr : okRul r = true) (hdl : h.ds.length ≤ 900) (hod : ∀ d ∈ h.ds, okDty d = true) (hx : okDty x.t = true) (hpos : 0 < w0.heap.size) :
    CallsV Tryz.prog 36 [.agg #[.int .i64 r.rest, .int .i64 r.span, .int .i64 r.work, .int .i64 r.week, .int .i64 r.ww], .agg #[.int .i64 h.f, .int .i64 h.u, .slice h.ap h.ps.length h.cp, .slice h.ad h.ds.length h.cd], .agg #[.int .i64 x.r, .int .i64 x.t.bl, .int .i64 x.t.bh, .int .i64 x.t.el, .int .i64 x.t.eh, .int .i64 x.h, .int .i64 x.p]] w0 (fun v w' => v = .tuple #[.bool (MayR r h.slr x), .bool (pltP h.ps x)] ∧ Ext w0 w') := by
 have hod2 := ok_snoc hod hx
 refine f_enter (N := 75) Tryz.func36 rfl rfl rfl (c_seq fun K1 hK1 => (c_region (t_box (cs := [.int .i64 r.rest, .int .i64 r.span, .int .i64 r.work, .int .i64 r.week, .int .i64 r.ww]) rfl rfl rfl rfl (fun bk2 w3 ebk2 sbk2 B4 u5 => ?_))))
 have zu5 := u5.size
 refine t_box (cs := [.int .i64 h.f, .int .i64 h.u, .slice h.ap h.ps.length h.cp, .slice h.ad h.ds.length h.cd]) rfl rfl rfl rfl (fun bk7 w8 ebk7 sbk7 B9 u10 => ?_)
 have zu10 := u10.size
 refine t_box (cs := [.int .i64 x.r, .int .i64 x.t.bl, .int .i64 x.t.bh, .int .i64 x.t.el, .int .i64 x.t.eh, .int .i64 x.h, .int .i64 x.p]) rfl rfl rfl rfl (fun bk12 w13 ebk12 sbk12 B14 u15 => ?_)
 have zu15 := u15.size
 refine t_assign rfl rfl rfl (t_assign rfl rfl rfl (t_nil' (hK1 _ _ (c_seq fun K17 hK17 => (c_region (t_assign rfl rfl rfl (t_nil' (hK17 _ _ (c_seq fun K18 hK18 => (c_seq fun K19 hK19 => (c_region (t_assign rfl rfl rfl (t_nil' (hK19 _ _ (c_block (c_loop (γ := Nat × Bool) (fun gg => [(3, .pointer (some ⟨bk2, 0, none⟩)), (4, .pointer (some ⟨bk7, 0, none⟩)), (5, .pointer (some ⟨bk12, 0, none⟩)), (8, .bool gg.2), (9, .int .i64 (gg.1 : Int))]) (fun gg w => Upd (fun _ => False) w13 w ∧ (gg.1 ≤ h.ps.length) ∧ (gg.2 = ((h.ps.take gg.1).any (pltB x)))) (fun gg => h.ps.length - gg.1) (0, false) ⟨rfl, rfl, rfl, rfl, rfl, trivial⟩ ⟨Upd.refl _ _, (Nat.zero_le _), rfl⟩ ?_))))))))))))))))
 intro gg w21 hW K20 hK20
 obtain ⟨k, pb⟩ := gg
 change WC _ _ _ _ _ _ [(3, .pointer (some ⟨bk2, 0, none⟩)), (4, .pointer (some ⟨bk7, 0, none⟩)), (5, .pointer (some ⟨bk12, 0, none⟩)), (8, .bool pb), (9, .int .i64 (k : Int))] _
 change Upd (fun _ => False) w13 w21 ∧ (k ≤ h.ps.length) ∧ (pb = ((h.ps.take k).any (pltB x))) at hW
 obtain ⟨u22, I23, I24⟩ := hW
 have zu22 := u22.size
 have E25 := ((((Upd.refl (fun _ => False) w0).nx u5).nx u10).nx u15).nx u22
 have hk := I23; clear I23
 have hpb := I24; clear I24
 refine c_seq fun K26 hK26 => (c_seq fun K27 hK27 => (c_region (t_move rfl rfl rfl (t_field Tryz.underlying79 rfl Tryz.sizeOf77 (2) rfl rfl rfl rfl ?_))))
 have B28 := ((B9.kx u15).kx u22)
 refine t_load Tryz.isAgg77 rfl rfl rfl (B28.get rfl) (t_len Tryz.underlying77 rfl rfl rfl rfl (t_cmp rfl rfl rfl rfl rfl (t_nil' (hK27 _ _ (c_condp rfl (fun g15 => ?_) (fun g15 => ?_))))))
 ·
  refine c_skip (hK26 _ _ (c_seq fun K29 hK29 => (c_block (c_drawnQ follows (by kernel_rfl) (p_move rfl rfl rfl (p_move rfl rfl rfl (p_split 19 rfl (fun g19 => ?_) (fun g19 => ?_))))))))
  ·
   refine p_skip rfl rfl rfl (p_skip rfl rfl rfl (p_skip rfl rfl rfl (p_skip rfl rfl rfl (p_skip rfl rfl rfl (p_skip rfl rfl rfl (p_skip rfl rfl rfl (p_skip rfl rfl rfl (p_skip rfl rfl rfl (p_skip rfl rfl rfl (p_skip rfl rfl rfl (p_skip rfl rfl rfl (p_skip rfl rfl rfl (p_skip rfl rfl rfl (p_skip rfl rfl rfl (p_skip rfl rfl rfl (p_skip rfl rfl rfl (p_skip rfl rfl rfl (p_skip rfl rfl rfl (p_skip rfl rfl rfl (p_skip rfl rfl rfl (p_skip rfl rfl rfl (p_pick_t rfl rfl rfl rfl (p_assign rfl rfl rfl ?_)))))))))))))))))))))))
   refine p_nil fun w33 u34 => ?_
   have zu34 := u34.size
   refine t_nil' (hK29 _ _ (c_region (t_move rfl rfl rfl (t_ari rfl rfl rfl rfl rfl (by omega) (t_assign rfl rfl rfl (t_nil' ?_))))))
   exact hK20 (k + 1, true) _ _ (by show h.ps.length - (k + 1) < h.ps.length - k; omega) ⟨rfl, rfl, rfl, rfl, rfl, trivial⟩ ⟨(u22.next u34 (fun _ _ h => h.elim)), (by omega), (by rw [take_nth (by omega), List.any_append, ← hpb, g19]; rfl)⟩
  refine p_field Tryz.underlying79 rfl Tryz.sizeOf77 (2) rfl rfl rfl rfl (p_load Tryz.isAgg77 rfl rfl rfl (B28.get rfl) (p_move rfl rfl rfl ?_))
  have i36 : k < h.ps.length := (by omega)
  refine p_index (j := k) Tryz.underlying77 Tryz.sizeOf136 rfl rfl rfl rfl ((hm.hp.keep E25 (fun _ h => h)).addr (by omega)) rfl i36 (p_field Tryz.underlying136 rfl Tryz.sizeOf3 (h.op + k * 2 + 0) rfl rfl rfl rfl (p_load Tryz.isAgg3 rfl rfl rfl (((hm.hp.keep E25 (fun _ h => h)).at_ k (by omega)) 0 _ rfl) (p_field Tryz.underlying68 rfl Tryz.sizeOf3 (0) rfl rfl rfl rfl ?_)))
  have B37 := (B14.kx u22)
  refine p_load Tryz.isAgg3 rfl rfl rfl (B37.get rfl) (p_cmp rfl rfl rfl rfl rfl (p_move rfl rfl rfl (p_splitp 29 rfl (fun g29 => ?_) (fun g29 => ?_))))
  ·
   refine p_field Tryz.underlying79 rfl Tryz.sizeOf77 (2) rfl rfl rfl rfl (p_load Tryz.isAgg77 rfl rfl rfl (B28.get rfl) (p_move rfl rfl rfl ?_))
   have i38 : k < h.ps.length := (by omega)
   refine p_index (j := k) Tryz.underlying77 Tryz.sizeOf136 rfl rfl rfl rfl ((hm.hp.keep E25 (fun _ h => h)).addr (by omega)) rfl i38 (p_field Tryz.underlying136 rfl Tryz.sizeOf3 (h.op + k * 2 + 1) rfl rfl rfl rfl (p_load Tryz.isAgg3 rfl rfl rfl (((hm.hp.keep E25 (fun _ h => h)).at_ k (by omega)) 1 _ rfl) (p_field Tryz.underlying68 rfl Tryz.sizeOf37 (1) rfl rfl rfl rfl (p_field Tryz.underlying37 rfl Tryz.sizeOf35 (3) rfl rfl rfl rfl (p_field Tryz.underlying35 rfl Tryz.sizeOf3 (4) rfl rfl rfl rfl (p_load Tryz.isAgg3 rfl rfl rfl (B37.get rfl) (p_cmp rfl rfl rfl rfl rfl (p_pick_t rfl rfl rfl rfl (p_pick_f rfl rfl rfl rfl (p_assign rfl rfl rfl (p_nil fun w39 u40 => ?_)))))))))))
   have zu40 := u40.size
   refine t_nil' (hK29 _ _ (c_region (t_move rfl rfl rfl (t_ari rfl rfl rfl rfl rfl (by omega) (t_assign rfl rfl rfl (t_nil' ?_))))))
   exact hK20 (k + 1, (decide (x.t.eh ≤ (nth h.ps k).u))) _ _ (by show h.ps.length - (k + 1) < h.ps.length - k; omega) ⟨rfl, rfl, rfl, rfl, rfl, trivial⟩ ⟨(u22.next u40 (fun _ _ h => h.elim)), (by omega), (by rw [take_nth (by omega), List.any_append, ← hpb, g19, Bool.false_or, List.any_cons, List.any_nil, Bool.or_false]; exact by rw [Bool.eq_iff_iff]; simp only [decide_eq_true_eq]; exact ⟨fun h => (by omega), fun h => (by omega)⟩)⟩
  refine p_skip rfl rfl rfl (p_skip rfl rfl rfl (p_skip rfl rfl rfl (p_skip rfl rfl rfl (p_skip rfl rfl rfl (p_skip rfl rfl rfl (p_skip rfl rfl rfl (p_skip rfl rfl rfl (p_skip rfl rfl rfl (p_skip rfl rfl rfl (p_skip rfl rfl rfl (p_pick_f rfl rfl rfl rfl (p_pick_f rfl rfl rfl rfl (p_assign rfl rfl rfl (p_nil fun w42 u43 => ?_))))))))))))))
  have zu43 := u43.size
  refine t_nil' (hK29 _ _ (c_region (t_move rfl rfl rfl (t_ari rfl rfl rfl rfl rfl (by omega) (t_assign rfl rfl rfl (t_nil' ?_))))))
  exact hK20 (k + 1, false) _ _ (by show h.ps.length - (k + 1) < h.ps.length - k; omega) ⟨rfl, rfl, rfl, rfl, rfl, trivial⟩ ⟨(u22.next u43 (fun _ _ h => h.elim)), (by omega), (by rw [take_nth (by omega), List.any_append, ← hpb, g19, Bool.false_or, List.any_cons, List.any_nil, Bool.or_false]; exact (decide_eq_false (by omega)).symm)⟩
 have hpe : pb = pltP h.ps x := by rw [hpb, List.take_of_length_le (by omega)]; rfl
 refine c_exit (hK18 _ _ (c_seq fun K45 hK45 => (c_drawnM follows (fun _ => False) (.look 1 (.look 2 (.look 4 (.look 5 (.act 0 (.act 3 (.act 6 (.act 7 (.look 8 .done) .stop) .stop) (.act 6 (.act 3 (.act 7 (.look 8 .done) .stop) .stop) .stop)) (.act 6 (.act 0 (.act 3 (.act 7 (.look 8 .done) .stop) .stop) .stop) .stop)))))) (by kernel_rfl) fun w46 u47 => ?_)))
 have zu47 := u47.size
 have E48 := E25.nx u47
 refine y_field Tryz.underlying79 rfl Tryz.sizeOf24 (3) rfl rfl rfl rfl ?_
 have B49 := (B28.kx u47)
 refine y_load Tryz.isAgg24 rfl rfl rfl (B49.get rfl) (fun h => h) (y_field Tryz.underlying68 rfl Tryz.sizeOf37 (1) rfl rfl rfl rfl ?_)
 have B50 := ((B14.kx u22).kx u47)
 refine y_loadN (vs := [.int .i64 x.t.bl, .int .i64 x.t.bh, .int .i64 x.t.el, .int .i64 x.t.eh]) Tryz.isAgg37 Tryz.sizeOf37 rfl rfl rfl (B50.at.sub 1 4) rfl (fun h => h) (s_or ?_ ?_)
 ·
  refine s_do (t_bslice (ps := []) (cs := []) (e := 37) rfl rfl ⟨rfl, rfl⟩ (fun w => by kernel_rfl) (fun bk51 w52 ebk51 sbk51 B53 u54 => ?_))
  have zu54 := u54.size
  have E55 := E48.nx u54
  refine s_next ((Upd.refl _ _).nx u54) (s_or ?_ ?_)
  ·
   refine s_do (t_copy (enc := encDty) (z := .agg #[.int .i64 0, .int .i64 0, .int .i64 0, .int .i64 0]) (bytes := 32) (k := 4) (ys := h.ds) Tryz.underlying24 (by kernel_rfl) rfl (by decide) (fun _ => rfl) (by intro x; simp [encDty, Value.oneCell']) rfl rfl rfl rfl B53 (hm.hd.keep E55 (fun _ h => h)) (by omega) (by decide) (fun ao56 gb57 cp58 w59 A60 u61 gegb57 => ?_))
   have zu61 := u61.size
   have lt_gb57 := A60.lt
   refine s_next ((Upd.refl _ _).next u61 (fun i hi (h : (i = bk51 ∧ bk51 ≤ i)) => show w46.heap.size ≤ i ∨ (False) by first | omega | exact .inr h)) (s_do (t_bslice (ps := [(0, .agg #[.int .i64 x.t.bl, .int .i64 x.t.bh, .int .i64 x.t.el, .int .i64 x.t.eh])]) (cs := [.int .i64 x.t.bl, .int .i64 x.t.bh, .int .i64 x.t.el, .int .i64 x.t.eh]) (e := 37) rfl rfl ⟨rfl, rfl⟩ (fun w => by kernel_rfl) (fun bk63 w64 ebk63 sbk63 B65 u66 => ?_)))
   have zu66 := u66.size
   refine s_next ((Upd.refl _ _).nx u66) (s_do ?_)
   have D68 := (A60.keep u66 (fun _ h => h))
   refine t_append (z := .agg #[.int .i64 0, .int .i64 0, .int .i64 0, .int .i64 0]) (bytes := 32) (k := 4) (base := bk51) x.t Tryz.underlying24 (by kernel_rfl) rfl (by decide) (fun _ => rfl) (by intro x; simp [encDty, Value.oneCell']) rfl rfl rfl rfl D68 B65 (by omega) (by omega) (by decide) (fun ao69 gb70 cp71 w72 A73 u74 gegb70 lngb70 => ?_)
   have zu74 := u74.size
   have lt_gb70 := A73.lt
   refine s_next ((Upd.refl _ _).next u74 (fun i hi (h : (i = gb57 ∧ bk51 ≤ i)) => show w46.heap.size ≤ i ∨ (False) by first | omega | exact .inr h)) (y_assign rfl rfl rfl (s_nil (hK45 _ _ (c_seq fun K76 hK76 => (c_drawnM follows (fun _ => False) (.look 0 (.look 1 (.look 2 (.look 3 (.look 4 (.look 5 (.look 6 (.look 7 (.look 8 (.look 9 (.look 10 (.look 11 (.look 12 (.look 13 (.look 14 (.look 15 (.look 16 (.look 17 (.look 18 (.look 23 (.act 19 (.act 20 (.look 21 (.look 22 (.look 24 (.look 25 .done)))) .stop) .stop))))))))))))))))))))) (by kernel_rfl) fun w77 u78 => ?_)))))
   have zu78 := u78.size
   have E79 := (((E55.next u61 (fun i hi h => by omega)).nx u66).next u74 (fun i hi h => by omega)).nx u78
   refine y_field Tryz.underlying68 rfl Tryz.sizeOf37 (1) rfl rfl rfl rfl (y_field Tryz.underlying37 rfl Tryz.sizeOf35 (1) rfl rfl rfl rfl (y_field Tryz.underlying35 rfl Tryz.sizeOf3 (1) rfl rfl rfl rfl ?_))
   have B80 := (((((((B14.kx u22).kx u47).kx u54).keep u61 (by omega)).kx u66).keep u74 (by omega)).kx u78)
   refine y_load Tryz.isAgg3 rfl rfl rfl (B80.get rfl) (fun h => h) (y_field Tryz.underlying79 rfl Tryz.sizeOf3 (0) rfl rfl rfl rfl ?_)
   have B81 := ((((((B28.kx u47).kx u54).keep u61 (by omega)).kx u66).keep u74 (by omega)).kx u78)
   refine y_load Tryz.isAgg3 rfl rfl rfl (B81.get rfl) (fun h => h) (y_cmp rfl rfl rfl rfl rfl (y_move rfl rfl rfl (y_splitp 58 rfl (fun g58 => ?_) (fun g58 => ?_))))
   ·
    refine y_field Tryz.underlying68 rfl Tryz.sizeOf37 (1) rfl rfl rfl rfl (y_field Tryz.underlying37 rfl Tryz.sizeOf35 (3) rfl rfl rfl rfl (y_field Tryz.underlying35 rfl Tryz.sizeOf3 (4) rfl rfl rfl rfl (y_load Tryz.isAgg3 rfl rfl rfl (B80.get rfl) (fun h => h) (y_field Tryz.underlying79 rfl Tryz.sizeOf3 (1) rfl rfl rfl rfl (y_load Tryz.isAgg3 rfl rfl rfl (B81.get rfl) (fun h => h) (y_cmp rfl rfl rfl rfl rfl (y_pick_t rfl rfl rfl rfl (y_move rfl rfl rfl (y_splitp 67 rfl (fun g67 => ?_) (fun g67 => ?_))))))))))
    ·
     have B82 := (((((((((B4.kx u10).kx u15).kx u22).kx u47).kx u54).keep u61 (by omega)).kx u66).keep u74 (by omega)).kx u78)
     refine y_loadN (vs := [.int .i64 r.rest, .int .i64 r.span, .int .i64 r.work, .int .i64 r.week, .int .i64 r.ww]) Tryz.isAgg23 Tryz.sizeOf23 rfl rfl rfl (B82.at.sub 0 5) rfl (fun h => h) (y_move rfl rfl rfl (y_move rfl rfl rfl (s_do ?_)))
     have D83 := (A73.keep u78 (fun _ h => h))
     refine t_call own16 rfl rfl rfl rfl (rLongest_c (h.ds ++ [x.t]) ao69 gb70 0 cp71 _ (D83.sl (fun _ => rfl)) (by rw [List.length_append, List.length_singleton]; omega) (by omega)) (fun v85 w86 r88 => ?_)
     obtain ⟨⟨aoL84, gL84, cL84, rfl, haL84⟩, u87⟩ := r88
     have zu87 := u87.size
     have lt_gL84 := haL84.lt
     refine s_next ((Upd.refl _ _).nx u87) (s_do (t_call own18 rfl rfl rfl rfl (rBroken_c r (srtS ((h.ds ++ [x.t]).map lngS)) aoL84 gL84 0 cL84 _ (haL84.sl (fun _ => rfl)) (by rw [srt_len, List.length_map]; exact (by rw [List.length_append, List.length_singleton]; omega)) (lngs_ok hod2) hr (by omega)) (fun v90 w91 r93 => ?_)))
     obtain ⟨rfl, u92⟩ := r93
     have zu92 := u92.size
     refine s_next ((Upd.refl _ _).nx u92) (y_cmp rfl rfl rfl rfl rfl (y_pick_t rfl rfl rfl rfl (y_assign rfl rfl rfl (y_assign rfl rfl rfl (s_nil (hK76 _ _ (c_ret (f_ret2 (v1 := .bool (decide ((brokP r (srtS ((h.ds ++ [x.t]).map lngS))) = 0))) (v2 := .bool pb) Tryz.results36 rfl rfl ?_))))))))
     subst hpe
     have h9 : (decide ((brokP r (srtS ((h.ds ++ [x.t]).map lngS))) = 0)) = MayR r h.slr x := (by unfold MayR canB; rw [show winM h.slr.f h.slr.u x = true from decide_eq_true (by show h.f ≤ x.t.bl ∧ x.t.eh ≤ h.u; omega), Bool.true_and, show h.slr.ds = h.ds from rfl, ← lng_snoc])
     exact ⟨congrArg (fun z => Value.tuple #[.bool z, .bool (pltP h.ps x)]) h9, ((E79.nx u87).nx u92)⟩
    refine y_skip rfl rfl rfl (y_skip rfl rfl rfl (y_move rfl rfl rfl (s_do (t_skip rfl rfl rfl (s_next (Upd.refl _ _) (s_do (t_skip rfl rfl rfl (s_next (Upd.refl _ _) (y_skip rfl rfl rfl (y_pick_f rfl rfl rfl rfl (y_assign rfl rfl rfl (y_assign rfl rfl rfl (s_nil (hK76 _ _ (c_ret (f_ret2 (v1 := .bool false) (v2 := .bool pb) Tryz.results36 rfl rfl ?_))))))))))))))))
    subst hpe
    have h9 : false = MayR r h.slr x := (by unfold MayR canB; rw [show winM h.slr.f h.slr.u x = false from decide_eq_false (by show ¬ (h.f ≤ x.t.bl ∧ x.t.eh ≤ h.u); omega), Bool.false_and])
    exact ⟨congrArg (fun z => Value.tuple #[.bool z, .bool (pltP h.ps x)]) h9, E79⟩
   refine y_skip rfl rfl rfl (y_skip rfl rfl rfl (y_skip rfl rfl rfl (y_skip rfl rfl rfl (y_skip rfl rfl rfl (y_skip rfl rfl rfl (y_skip rfl rfl rfl (y_pick_f rfl rfl rfl rfl (y_move rfl rfl rfl (y_skip rfl rfl rfl (y_skip rfl rfl rfl (y_move rfl rfl rfl (s_do (t_skip rfl rfl rfl (s_next (Upd.refl _ _) (s_do (t_skip rfl rfl rfl (s_next (Upd.refl _ _) (y_skip rfl rfl rfl (y_pick_f rfl rfl rfl rfl (y_assign rfl rfl rfl (y_assign rfl rfl rfl (s_nil (hK76 _ _ ?_)))))))))))))))))))))))
   refine c_ret (f_ret2 (v1 := .bool false) (v2 := .bool pb) Tryz.results36 rfl rfl ?_)
   subst hpe
   have h9 : false = MayR r h.slr x := (by unfold MayR canB; rw [show winM h.slr.f h.slr.u x = false from decide_eq_false (by show ¬ (h.f ≤ x.t.bl ∧ x.t.eh ≤ h.u); omega), Bool.false_and])
   exact ⟨congrArg (fun z => Value.tuple #[.bool z, .bool (pltP h.ps x)]) h9, E79⟩
  refine s_do (t_bslice (ps := [(0, .agg #[.int .i64 x.t.bl, .int .i64 x.t.bh, .int .i64 x.t.el, .int .i64 x.t.eh])]) (cs := [.int .i64 x.t.bl, .int .i64 x.t.bh, .int .i64 x.t.el, .int .i64 x.t.eh]) (e := 37) rfl rfl ⟨rfl, rfl⟩ (fun w => by kernel_rfl) (fun bk95 w96 ebk95 sbk95 B97 u98 => ?_))
  have zu98 := u98.size
  have E99 := E55.nx u98
  refine s_next ((Upd.refl _ _).nx u98) (s_do ?_)
  have B100 := (B53.kx u98)
  refine t_copy (enc := encDty) (z := .agg #[.int .i64 0, .int .i64 0, .int .i64 0, .int .i64 0]) (bytes := 32) (k := 4) (ys := h.ds) Tryz.underlying24 (by kernel_rfl) rfl (by decide) (fun _ => rfl) (by intro x; simp [encDty, Value.oneCell']) rfl rfl rfl rfl B100 (hm.hd.keep E99 (fun _ h => h)) (by omega) (by decide) (fun ao101 gb102 cp103 w104 A105 u106 gegb102 => ?_)
  have zu106 := u106.size
  have lt_gb102 := A105.lt
  refine s_next ((Upd.refl _ _).next u106 (fun i hi (h : (i = bk51 ∧ bk51 ≤ i)) => show w46.heap.size ≤ i ∨ (False) by first | omega | exact .inr h)) (s_do ?_)
  have B108 := (B97.keep u106 (by omega))
  refine t_append (z := .agg #[.int .i64 0, .int .i64 0, .int .i64 0, .int .i64 0]) (bytes := 32) (k := 4) (base := bk51) x.t Tryz.underlying24 (by kernel_rfl) rfl (by decide) (fun _ => rfl) (by intro x; simp [encDty, Value.oneCell']) rfl rfl rfl rfl A105 B108 (by omega) (by omega) (by decide) (fun ao109 gb110 cp111 w112 A113 u114 gegb110 lngb110 => ?_)
  have zu114 := u114.size
  have lt_gb110 := A113.lt
  refine s_next ((Upd.refl _ _).next u114 (fun i hi (h : (i = gb102 ∧ bk51 ≤ i)) => show w46.heap.size ≤ i ∨ (False) by first | omega | exact .inr h)) (y_assign rfl rfl rfl (s_nil (hK45 _ _ (c_seq fun K116 hK116 => (c_drawnM follows (fun _ => False) (.look 0 (.look 1 (.look 2 (.look 3 (.look 4 (.look 5 (.look 6 (.look 7 (.look 8 (.look 9 (.look 10 (.look 11 (.look 12 (.look 13 (.look 14 (.look 15 (.look 16 (.look 17 (.look 18 (.look 23 (.act 19 (.act 20 (.look 21 (.look 22 (.look 24 (.look 25 .done)))) .stop) .stop))))))))))))))))))))) (by kernel_rfl) fun w117 u118 => ?_)))))
  have zu118 := u118.size
  have E119 := ((E99.next u106 (fun i hi h => by omega)).next u114 (fun i hi h => by omega)).nx u118
  refine y_field Tryz.underlying68 rfl Tryz.sizeOf37 (1) rfl rfl rfl rfl (y_field Tryz.underlying37 rfl Tryz.sizeOf35 (1) rfl rfl rfl rfl (y_field Tryz.underlying35 rfl Tryz.sizeOf3 (1) rfl rfl rfl rfl ?_))
  have B120 := (((((((B14.kx u22).kx u47).kx u54).kx u98).keep u106 (by omega)).keep u114 (by omega)).kx u118)
  refine y_load Tryz.isAgg3 rfl rfl rfl (B120.get rfl) (fun h => h) (y_field Tryz.underlying79 rfl Tryz.sizeOf3 (0) rfl rfl rfl rfl ?_)
  have B121 := ((((((B28.kx u47).kx u54).kx u98).keep u106 (by omega)).keep u114 (by omega)).kx u118)
  refine y_load Tryz.isAgg3 rfl rfl rfl (B121.get rfl) (fun h => h) (y_cmp rfl rfl rfl rfl rfl (y_move rfl rfl rfl (y_splitp 58 rfl (fun g58 => ?_) (fun g58 => ?_))))
  ·
   refine y_field Tryz.underlying68 rfl Tryz.sizeOf37 (1) rfl rfl rfl rfl (y_field Tryz.underlying37 rfl Tryz.sizeOf35 (3) rfl rfl rfl rfl (y_field Tryz.underlying35 rfl Tryz.sizeOf3 (4) rfl rfl rfl rfl (y_load Tryz.isAgg3 rfl rfl rfl (B120.get rfl) (fun h => h) (y_field Tryz.underlying79 rfl Tryz.sizeOf3 (1) rfl rfl rfl rfl (y_load Tryz.isAgg3 rfl rfl rfl (B121.get rfl) (fun h => h) (y_cmp rfl rfl rfl rfl rfl (y_pick_t rfl rfl rfl rfl (y_move rfl rfl rfl (y_splitp 67 rfl (fun g67 => ?_) (fun g67 => ?_))))))))))
   ·
    have B122 := (((((((((B4.kx u10).kx u15).kx u22).kx u47).kx u54).kx u98).keep u106 (by omega)).keep u114 (by omega)).kx u118)
    refine y_loadN (vs := [.int .i64 r.rest, .int .i64 r.span, .int .i64 r.work, .int .i64 r.week, .int .i64 r.ww]) Tryz.isAgg23 Tryz.sizeOf23 rfl rfl rfl (B122.at.sub 0 5) rfl (fun h => h) (y_move rfl rfl rfl (y_move rfl rfl rfl (s_do ?_)))
    have D123 := (A113.keep u118 (fun _ h => h))
    refine t_call own16 rfl rfl rfl rfl (rLongest_c (h.ds ++ [x.t]) ao109 gb110 0 cp111 _ (D123.sl (fun _ => rfl)) (by rw [List.length_append, List.length_singleton]; omega) (by omega)) (fun v125 w126 r128 => ?_)
    obtain ⟨⟨aoL124, gL124, cL124, rfl, haL124⟩, u127⟩ := r128
    have zu127 := u127.size
    have lt_gL124 := haL124.lt
    refine s_next ((Upd.refl _ _).nx u127) (s_do (t_call own18 rfl rfl rfl rfl (rBroken_c r (srtS ((h.ds ++ [x.t]).map lngS)) aoL124 gL124 0 cL124 _ (haL124.sl (fun _ => rfl)) (by rw [srt_len, List.length_map]; exact (by rw [List.length_append, List.length_singleton]; omega)) (lngs_ok hod2) hr (by omega)) (fun v130 w131 r133 => ?_)))
    obtain ⟨rfl, u132⟩ := r133
    have zu132 := u132.size
    refine s_next ((Upd.refl _ _).nx u132) (y_cmp rfl rfl rfl rfl rfl (y_pick_t rfl rfl rfl rfl (y_assign rfl rfl rfl (y_assign rfl rfl rfl (s_nil (hK116 _ _ (c_ret (f_ret2 (v1 := .bool (decide ((brokP r (srtS ((h.ds ++ [x.t]).map lngS))) = 0))) (v2 := .bool pb) Tryz.results36 rfl rfl ?_))))))))
    subst hpe
    have h9 : (decide ((brokP r (srtS ((h.ds ++ [x.t]).map lngS))) = 0)) = MayR r h.slr x := (by unfold MayR canB; rw [show winM h.slr.f h.slr.u x = true from decide_eq_true (by show h.f ≤ x.t.bl ∧ x.t.eh ≤ h.u; omega), Bool.true_and, show h.slr.ds = h.ds from rfl, ← lng_snoc])
    exact ⟨congrArg (fun z => Value.tuple #[.bool z, .bool (pltP h.ps x)]) h9, ((E119.nx u127).nx u132)⟩
   refine y_skip rfl rfl rfl (y_skip rfl rfl rfl (y_move rfl rfl rfl (s_do (t_skip rfl rfl rfl (s_next (Upd.refl _ _) (s_do (t_skip rfl rfl rfl (s_next (Upd.refl _ _) (y_skip rfl rfl rfl (y_pick_f rfl rfl rfl rfl (y_assign rfl rfl rfl (y_assign rfl rfl rfl (s_nil (hK116 _ _ (c_ret (f_ret2 (v1 := .bool false) (v2 := .bool pb) Tryz.results36 rfl rfl ?_))))))))))))))))
   subst hpe
   have h9 : false = MayR r h.slr x := (by unfold MayR canB; rw [show winM h.slr.f h.slr.u x = false from decide_eq_false (by show ¬ (h.f ≤ x.t.bl ∧ x.t.eh ≤ h.u); omega), Bool.false_and])
   exact ⟨congrArg (fun z => Value.tuple #[.bool z, .bool (pltP h.ps x)]) h9, E119⟩
  refine y_skip rfl rfl rfl (y_skip rfl rfl rfl (y_skip rfl rfl rfl (y_skip rfl rfl rfl (y_skip rfl rfl rfl (y_skip rfl rfl rfl (y_skip rfl rfl rfl (y_pick_f rfl rfl rfl rfl (y_move rfl rfl rfl (y_skip rfl rfl rfl (y_skip rfl rfl rfl (y_move rfl rfl rfl (s_do (t_skip rfl rfl rfl (s_next (Upd.refl _ _) (s_do (t_skip rfl rfl rfl (s_next (Upd.refl _ _) (y_skip rfl rfl rfl (y_pick_f rfl rfl rfl rfl (y_assign rfl rfl rfl (y_assign rfl rfl rfl (s_nil (hK116 _ _ ?_)))))))))))))))))))))))
  refine c_ret (f_ret2 (v1 := .bool false) (v2 := .bool pb) Tryz.results36 rfl rfl ?_)
  subst hpe
  have h9 : false = MayR r h.slr x := (by unfold MayR canB; rw [show winM h.slr.f h.slr.u x = false from decide_eq_false (by show ¬ (h.f ≤ x.t.bl ∧ x.t.eh ≤ h.u); omega), Bool.false_and])
  exact ⟨congrArg (fun z => Value.tuple #[.bool z, .bool (pltP h.ps x)]) h9, E119⟩
 refine s_do (t_bslice (ps := [(0, .agg #[.int .i64 x.t.bl, .int .i64 x.t.bh, .int .i64 x.t.el, .int .i64 x.t.eh])]) (cs := [.int .i64 x.t.bl, .int .i64 x.t.bh, .int .i64 x.t.el, .int .i64 x.t.eh]) (e := 37) rfl rfl ⟨rfl, rfl⟩ (fun w => by kernel_rfl) (fun bk135 w136 ebk135 sbk135 B137 u138 => ?_))
 have zu138 := u138.size
 refine s_next ((Upd.refl _ _).nx u138) (s_do (t_bslice (ps := []) (cs := []) (e := 37) rfl rfl ⟨rfl, rfl⟩ (fun w => by kernel_rfl) (fun bk140 w141 ebk140 sbk140 B142 u143 => ?_)))
 have zu143 := u143.size
 have E144 := (E48.nx u138).nx u143
 refine s_next ((Upd.refl _ _).nx u143) (s_do (t_copy (enc := encDty) (z := .agg #[.int .i64 0, .int .i64 0, .int .i64 0, .int .i64 0]) (bytes := 32) (k := 4) (ys := h.ds) Tryz.underlying24 (by kernel_rfl) rfl (by decide) (fun _ => rfl) (by intro x; simp [encDty, Value.oneCell']) rfl rfl rfl rfl B142 (hm.hd.keep E144 (fun _ h => h)) (by omega) (by decide) (fun ao145 gb146 cp147 w148 A149 u150 gegb146 => ?_)))
 have zu150 := u150.size
 have lt_gb146 := A149.lt
 refine s_next ((Upd.refl _ _).next u150 (fun i hi (h : (i = bk140 ∧ bk140 ≤ i)) => show w46.heap.size ≤ i ∨ (False) by first | omega | exact .inr h)) (s_do ?_)
 have B152 := ((B137.kx u143).keep u150 (by omega))
 refine t_append (z := .agg #[.int .i64 0, .int .i64 0, .int .i64 0, .int .i64 0]) (bytes := 32) (k := 4) (base := bk140) x.t Tryz.underlying24 (by kernel_rfl) rfl (by decide) (fun _ => rfl) (by intro x; simp [encDty, Value.oneCell']) rfl rfl rfl rfl A149 B152 (by omega) (by omega) (by decide) (fun ao153 gb154 cp155 w156 A157 u158 gegb154 lngb154 => ?_)
 have zu158 := u158.size
 have lt_gb154 := A157.lt
 refine s_next ((Upd.refl _ _).next u158 (fun i hi (h : (i = gb146 ∧ bk140 ≤ i)) => show w46.heap.size ≤ i ∨ (False) by first | omega | exact .inr h)) (y_assign rfl rfl rfl (s_nil (hK45 _ _ (c_seq fun K160 hK160 => (c_drawnM follows (fun _ => False) (.look 0 (.look 1 (.look 2 (.look 3 (.look 4 (.look 5 (.look 6 (.look 7 (.look 8 (.look 9 (.look 10 (.look 11 (.look 12 (.look 13 (.look 14 (.look 15 (.look 16 (.look 17 (.look 18 (.look 23 (.act 19 (.act 20 (.look 21 (.look 22 (.look 24 (.look 25 .done)))) .stop) .stop))))))))))))))))))))) (by kernel_rfl) fun w161 u162 => ?_)))))
 have zu162 := u162.size
 have E163 := ((E144.next u150 (fun i hi h => by omega)).next u158 (fun i hi h => by omega)).nx u162
 refine y_field Tryz.underlying68 rfl Tryz.sizeOf37 (1) rfl rfl rfl rfl (y_field Tryz.underlying37 rfl Tryz.sizeOf35 (1) rfl rfl rfl rfl (y_field Tryz.underlying35 rfl Tryz.sizeOf3 (1) rfl rfl rfl rfl ?_))
 have B164 := (((((((B14.kx u22).kx u47).kx u138).kx u143).keep u150 (by omega)).keep u158 (by omega)).kx u162)
 refine y_load Tryz.isAgg3 rfl rfl rfl (B164.get rfl) (fun h => h) (y_field Tryz.underlying79 rfl Tryz.sizeOf3 (0) rfl rfl rfl rfl ?_)
 have B165 := ((((((B28.kx u47).kx u138).kx u143).keep u150 (by omega)).keep u158 (by omega)).kx u162)
 refine y_load Tryz.isAgg3 rfl rfl rfl (B165.get rfl) (fun h => h) (y_cmp rfl rfl rfl rfl rfl (y_move rfl rfl rfl (y_splitp 58 rfl (fun g58 => ?_) (fun g58 => ?_))))
 ·
  refine y_field Tryz.underlying68 rfl Tryz.sizeOf37 (1) rfl rfl rfl rfl (y_field Tryz.underlying37 rfl Tryz.sizeOf35 (3) rfl rfl rfl rfl (y_field Tryz.underlying35 rfl Tryz.sizeOf3 (4) rfl rfl rfl rfl (y_load Tryz.isAgg3 rfl rfl rfl (B164.get rfl) (fun h => h) (y_field Tryz.underlying79 rfl Tryz.sizeOf3 (1) rfl rfl rfl rfl (y_load Tryz.isAgg3 rfl rfl rfl (B165.get rfl) (fun h => h) (y_cmp rfl rfl rfl rfl rfl (y_pick_t rfl rfl rfl rfl (y_move rfl rfl rfl (y_splitp 67 rfl (fun g67 => ?_) (fun g67 => ?_))))))))))
  ·
   have B166 := (((((((((B4.kx u10).kx u15).kx u22).kx u47).kx u138).kx u143).keep u150 (by omega)).keep u158 (by omega)).kx u162)
   refine y_loadN (vs := [.int .i64 r.rest, .int .i64 r.span, .int .i64 r.work, .int .i64 r.week, .int .i64 r.ww]) Tryz.isAgg23 Tryz.sizeOf23 rfl rfl rfl (B166.at.sub 0 5) rfl (fun h => h) (y_move rfl rfl rfl (y_move rfl rfl rfl (s_do ?_)))
   have D167 := (A157.keep u162 (fun _ h => h))
   refine t_call own16 rfl rfl rfl rfl (rLongest_c (h.ds ++ [x.t]) ao153 gb154 0 cp155 _ (D167.sl (fun _ => rfl)) (by rw [List.length_append, List.length_singleton]; omega) (by omega)) (fun v169 w170 r172 => ?_)
   obtain ⟨⟨aoL168, gL168, cL168, rfl, haL168⟩, u171⟩ := r172
   have zu171 := u171.size
   have lt_gL168 := haL168.lt
   refine s_next ((Upd.refl _ _).nx u171) (s_do (t_call own18 rfl rfl rfl rfl (rBroken_c r (srtS ((h.ds ++ [x.t]).map lngS)) aoL168 gL168 0 cL168 _ (haL168.sl (fun _ => rfl)) (by rw [srt_len, List.length_map]; exact (by rw [List.length_append, List.length_singleton]; omega)) (lngs_ok hod2) hr (by omega)) (fun v174 w175 r177 => ?_)))
   obtain ⟨rfl, u176⟩ := r177
   have zu176 := u176.size
   refine s_next ((Upd.refl _ _).nx u176) (y_cmp rfl rfl rfl rfl rfl (y_pick_t rfl rfl rfl rfl (y_assign rfl rfl rfl (y_assign rfl rfl rfl (s_nil (hK160 _ _ (c_ret (f_ret2 (v1 := .bool (decide ((brokP r (srtS ((h.ds ++ [x.t]).map lngS))) = 0))) (v2 := .bool pb) Tryz.results36 rfl rfl ?_))))))))
   subst hpe
   have h9 : (decide ((brokP r (srtS ((h.ds ++ [x.t]).map lngS))) = 0)) = MayR r h.slr x := (by unfold MayR canB; rw [show winM h.slr.f h.slr.u x = true from decide_eq_true (by show h.f ≤ x.t.bl ∧ x.t.eh ≤ h.u; omega), Bool.true_and, show h.slr.ds = h.ds from rfl, ← lng_snoc])
   exact ⟨congrArg (fun z => Value.tuple #[.bool z, .bool (pltP h.ps x)]) h9, ((E163.nx u171).nx u176)⟩
  refine y_skip rfl rfl rfl (y_skip rfl rfl rfl (y_move rfl rfl rfl (s_do (t_skip rfl rfl rfl (s_next (Upd.refl _ _) (s_do (t_skip rfl rfl rfl (s_next (Upd.refl _ _) (y_skip rfl rfl rfl (y_pick_f rfl rfl rfl rfl (y_assign rfl rfl rfl (y_assign rfl rfl rfl (s_nil (hK160 _ _ (c_ret (f_ret2 (v1 := .bool false) (v2 := .bool pb) Tryz.results36 rfl rfl ?_))))))))))))))))
  subst hpe
  have h9 : false = MayR r h.slr x := (by unfold MayR canB; rw [show winM h.slr.f h.slr.u x = false from decide_eq_false (by show ¬ (h.f ≤ x.t.bl ∧ x.t.eh ≤ h.u); omega), Bool.false_and])
  exact ⟨congrArg (fun z => Value.tuple #[.bool z, .bool (pltP h.ps x)]) h9, E163⟩
 refine y_skip rfl rfl rfl (y_skip rfl rfl rfl (y_skip rfl rfl rfl (y_skip rfl rfl rfl (y_skip rfl rfl rfl (y_skip rfl rfl rfl (y_skip rfl rfl rfl (y_pick_f rfl rfl rfl rfl (y_move rfl rfl rfl (y_skip rfl rfl rfl (y_skip rfl rfl rfl (y_move rfl rfl rfl (s_do (t_skip rfl rfl rfl (s_next (Upd.refl _ _) (s_do (t_skip rfl rfl rfl (s_next (Upd.refl _ _) (y_skip rfl rfl rfl (y_pick_f rfl rfl rfl rfl (y_assign rfl rfl rfl (y_assign rfl rfl rfl (s_nil (hK160 _ _ ?_)))))))))))))))))))))))
 refine c_ret (f_ret2 (v1 := .bool false) (v2 := .bool pb) Tryz.results36 rfl rfl ?_)
 subst hpe
 have h9 : false = MayR r h.slr x := (by unfold MayR canB; rw [show winM h.slr.f h.slr.u x = false from decide_eq_false (by show ¬ (h.f ≤ x.t.bl ∧ x.t.eh ≤ h.u); omega), Bool.false_and])
 exact ⟨congrArg (fun z => Value.tuple #[.bool z, .bool (pltP h.ps x)]) h9, E163⟩

theorem May_d (r : Rul) (f u : Int) (ps : List Ppr) (ap : Option Addr) (bp op cp : Nat) (ds : List Dty) (ad : Option Addr) (bd od cd : Nat) (x : Leg) (w0 : World) (hm : SlrM w0 ⟨f, u, ps, ap, bp, op, cp, ds, ad, bd, od, cd⟩) (hpos : 0 < w0.heap.size) :
    CallsV Tryz.prog 33 [.agg #[.int .i64 r.rest, .int .i64 r.span, .int .i64 r.work, .int .i64 r.week, .int .i64 r.ww], .agg #[.int .i64 f, .int .i64 u, .slice ap ps.length cp, .slice ad ds.length cd], .agg #[.int .i64 x.r, .int .i64 x.t.bl, .int .i64 x.t.bh, .int .i64 x.t.el, .int .i64 x.t.eh, .int .i64 x.h, .int .i64 x.p]] w0 (fun v w' =>
      (v = .tuple #[.bool false, .bool false, .int .i64 2] ∧ ¬ (okRul r = true ∧ okSlr ⟨f, u, ps, ds⟩ = true ∧ okLeg x = true) ∧ Ext w0 w') ∨
      (v = .tuple #[.bool (MayR r ⟨f, u, ps, ds⟩ x), .bool (pltP ps x), .int .i64 0] ∧ (okRul r = true ∧ okSlr ⟨f, u, ps, ds⟩ = true ∧ okLeg x = true) ∧ Ext w0 w')) :=
  (May_c r f u ps ap bp op cp ds ad bd od cd x w0 hm.hp hm.hpl hm.hd hm.hdl hpos).mono fun v w' ⟨⟨m, p, e, h1, h2⟩, u⟩ => by
    rcases h2 with ⟨h2, rfl, rfl, rfl⟩ | ⟨h2, rfl, rfl, rfl⟩
    · exact .inl ⟨h1, h2, u⟩
    · exact .inr ⟨h1, h2, u⟩

set_option maxHeartbeats 1000000 in
theorem CrewMays_c (r : Rul) (h : HS) (x : Leg) (w0 : World) (hp : Sl encPpr 2 w0 h.ap h.bp h.op h.ps) (hd : Sl encDty 4 w0 h.ad h.bd h.od h.ds) (hpl9 : h.ps.length ≤ 9223372036854775807) (hdl9 : h.ds.length ≤ 9223372036854775807) :
    CallsV Tryz.prog 6 [.agg #[.int .i64 r.rest, .int .i64 r.span, .int .i64 r.work, .int .i64 r.week, .int .i64 r.ww], .agg #[.int .i64 h.f, .int .i64 h.u, .slice h.ap h.ps.length h.cp, .slice h.ad h.ds.length h.cd], .agg #[.int .i64 x.r, .int .i64 x.t.bl, .int .i64 x.t.bh, .int .i64 x.t.el, .int .i64 x.t.eh, .int .i64 x.h, .int .i64 x.p]] w0 (fun v w' => v = .bool true ∧ Ext w0 w') := by
 refine f_enter (N := 78) Tryz.func6 rfl rfl rfl (c_seq fun K1 hK1 => (c_region (t_box (cs := [.int .i64 r.rest, .int .i64 r.span, .int .i64 r.work, .int .i64 r.week, .int .i64 r.ww]) rfl rfl rfl rfl (fun bk2 w3 ebk2 sbk2 B4 u5 => ?_))))
 have zu5 := u5.size
 refine t_box (cs := [.int .i64 h.f, .int .i64 h.u, .slice h.ap h.ps.length h.cp, .slice h.ad h.ds.length h.cd]) rfl rfl rfl rfl (fun bk7 w8 ebk7 sbk7 B9 u10 => ?_)
 have zu10 := u10.size
 refine t_box (cs := [.int .i64 x.r, .int .i64 x.t.bl, .int .i64 x.t.bh, .int .i64 x.t.el, .int .i64 x.t.eh, .int .i64 x.h, .int .i64 x.p]) rfl rfl rfl rfl (fun bk12 w13 ebk12 sbk12 B14 u15 => ?_)
 have zu15 := u15.size
 refine t_assign rfl rfl rfl (t_nil' (hK1 _ _ (c_seq fun K17 hK17 => (c_seq fun K18 hK18 => (c_region ?_)))))
 have B19 := (B9.kx u15)
 refine t_loadN (vs := [.int .i64 h.f, .int .i64 h.u, .slice h.ap h.ps.length h.cp, .slice h.ad h.ds.length h.cd]) Tryz.isAgg79 Tryz.sizeOf79 rfl rfl rfl (B19.at.sub 0 4) rfl (t_bslice (ps := [(0, .agg #[.int .i64 h.f, .int .i64 h.u, .slice h.ap h.ps.length h.cp, .slice h.ad h.ds.length h.cd])]) (cs := [.int .i64 h.f, .int .i64 h.u, .slice h.ap h.ps.length h.cp, .slice h.ad h.ds.length h.cd]) (e := 79) rfl rfl ⟨rfl, rfl⟩ (fun w => by kernel_rfl) (fun bk20 w21 ebk20 sbk20 B22 u23 => ?_))
 have zu23 := u23.size
 refine t_call own22 rfl rfl rfl rfl (great_c ([h] : List HS) (some ⟨bk20, 0, none⟩) bk20 0 1 none 0 0 _ (Sl.ofBlk (enc := encHS) (xs := [h]) (fun _ => rfl) B22) (by first | omega | decide | simp)) (fun v25 w26 r28 => ?_)
 obtain ⟨rfl, u27⟩ := r28
 have zu27 := u27.size
 have E29 := (((((Upd.refl (fun _ => False) w0).nx u5).nx u10).nx u15).nx u23).nx u27
 refine t_nil' (hK18 _ _ (c_cond rfl (fun g15 => ?_) (fun g15 => ?_)))
 ·
  refine c_seq fun K30 hK30 => (c_region (t_call own8 rfl rfl rfl rfl (known_c _) (fun v31 w32 r34 => ?_)))
  obtain ⟨rfl, u33⟩ := r34
  have zu33 := u33.size
  refine t_assign rfl rfl rfl (t_nil' (hK30 _ _ (c_ret (f_ret1 (v := .bool true) Tryz.results6 rfl ?_))))
  exact ⟨rfl, (E29.nx u33)⟩
 obtain ⟨_, _, hgr⟩ := grt_no g15
 have hgh := hgr h (by simp)
 refine c_skip (hK17 _ _ (c_seq fun K36 hK36 => (c_region ?_)))
 have B37 := ((B19.kx u23).kx u27)
 refine t_loadN (vs := [.int .i64 h.f, .int .i64 h.u, .slice h.ap h.ps.length h.cp, .slice h.ad h.ds.length h.cd]) Tryz.isAgg79 Tryz.sizeOf79 rfl rfl rfl (B37.at.sub 0 4) rfl (t_bslice (ps := [(0, .agg #[.int .i64 h.f, .int .i64 h.u, .slice h.ap h.ps.length h.cp, .slice h.ad h.ds.length h.cd])]) (cs := [.int .i64 h.f, .int .i64 h.u, .slice h.ap h.ps.length h.cp, .slice h.ad h.ds.length h.cd]) (e := 79) rfl rfl ⟨rfl, rfl⟩ (fun w => by kernel_rfl) (fun bk38 w39 ebk38 sbk38 B40 u41 => ?_))
 have zu41 := u41.size
 have E42 := E29.nx u41
 refine t_call own24 rfl rfl rfl rfl (sailors_c ([h] : List HS) (some ⟨bk38, 0, none⟩) bk38 0 1 _ (Sl.ofBlk (enc := encHS) (xs := [h]) (fun _ => rfl) B40) (by simp) (fun h9 hh => by rw [List.mem_singleton.1 hh]; exact ⟨hp.keep E42 (fun _ => fun h => h), by omega, hd.keep E42 (fun _ => fun h => h), by omega⟩) (by omega)) (fun v44 w45 r47 => ?_)
 obtain ⟨⟨aoW43, gW43, cW43, oW43, rfl, haW43, hmW43, hsW43⟩, u46⟩ := r47
 have zu46 := u46.size
 have lt_gW43 := haW43.lt
 have hlW43 : oW43.length = ([h] : List HS).length := by have := congrArg List.length hmW43; simpa using this
 obtain ⟨h2, rfl⟩ : ∃ h2, oW43 = [h2] := List.length_eq_one_iff.1 hlW43
 have hsl2 : h2.slr = h.slr := by simpa using hmW43
 have hm2 := (hsW43 h2 (by simp)).slrM
 have hf2 : h2.f = h.f := congrArg Slr.f hsl2
 have hu2 : h2.u = h.u := congrArg Slr.u hsl2
 have hp2 : h2.ps = h.ps := congrArg Slr.ps hsl2
 have hd2 : h2.ds = h.ds := congrArg Slr.ds hsl2
 refine t_assign rfl rfl rfl (t_nil' (hK36 _ _ (c_seq fun K49 hK49 => (c_drawnM follows (fun _ => False) (.look 0 (.look 1 (.look 2 (.look 3 (.look 4 (.act 5 (.look 6 (.look 7 (.look 8 (.look 9 (.look 10 (.look 11 (.look 12 .done))))))) .stop)))))) (by kernel_rfl) fun w50 u51 => ?_))))
 have zu51 := u51.size
 have E52 := (E42.nx u46).nx u51
 have B53 := (((((((B4.kx u10).kx u15).kx u23).kx u27).kx u41).kx u46).kx u51)
 refine y_loadN (vs := [.int .i64 r.rest, .int .i64 r.span, .int .i64 r.work, .int .i64 r.week, .int .i64 r.ww]) Tryz.isAgg23 Tryz.sizeOf23 rfl rfl rfl (B53.at.sub 0 5) rfl (fun h => h) (y_move rfl rfl rfl ?_)
 have D54 := (haW43.keep u51 (fun _ h => h))
 have i55 : 0 < ([h2] : List HS).length := (by simp)
 refine y_index (j := 0) Tryz.underlying54 Tryz.sizeOf79 rfl rfl rfl rfl ((D54.sl (fun _ => rfl)).addr (by omega)) rfl i55 ?_
 have D56 := (haW43.keep u51 (fun _ h => h))
 refine y_loadN (vs := [.int .i64 h2.f, .int .i64 h2.u, .slice h2.ap h2.ps.length h2.cp, .slice h2.ad h2.ds.length h2.cd]) Tryz.isAgg79 Tryz.sizeOf79 rfl rfl rfl (((D56.sl (fun _ => rfl)).at_ 0 (by simp)).sub 0 4) rfl (fun h => h) ?_
 have B57 := (((((B14.kx u23).kx u27).kx u41).kx u46).kx u51)
 refine y_loadN (vs := [.int .i64 x.r, .int .i64 x.t.bl, .int .i64 x.t.bh, .int .i64 x.t.el, .int .i64 x.t.eh, .int .i64 x.h, .int .i64 x.p]) Tryz.isAgg68 Tryz.sizeOf68 rfl rfl rfl (B57.at.sub 0 7) rfl (fun h => h) (s_do (t_call own33 rfl rfl rfl rfl (May_d r h2.f h2.u h2.ps h2.ap h2.bp h2.op h2.cp h2.ds h2.ad h2.bd h2.od h2.cd x _ (hm2.ext ((Upd.refl (fun _ => False) _).nx u51)) (by omega)) (fun v58 w59 r61 => ?_)))
 rcases r61 with ⟨rfl, hbad, u60⟩ | ⟨rfl, hok, u60⟩
 ·
  have zu60 := u60.size
  refine s_next ((Upd.refl _ _).nx u60) (y_move rfl rfl rfl (y_extract rfl rfl rfl rfl (y_extract rfl rfl rfl rfl (y_extract rfl rfl rfl rfl (y_assign rfl rfl rfl (y_assign rfl rfl rfl (y_assign rfl rfl rfl (s_nil (hK49 _ _ (c_seq fun K63 hK63 => (c_seq fun K64 hK64 => (c_region ?_))))))))))))
  have B65 := ((((((((B4.kx u10).kx u15).kx u23).kx u27).kx u41).kx u46).kx u51).kx u60)
  refine t_loadN (vs := [.int .i64 r.rest, .int .i64 r.span, .int .i64 r.work, .int .i64 r.week, .int .i64 r.ww]) Tryz.isAgg23 Tryz.sizeOf23 rfl rfl rfl (B65.at.sub 0 5) rfl (t_call own13 rfl rfl rfl rfl (rRules_c r _) (fun v66 w67 r69 => ?_))
  obtain ⟨rfl, u68⟩ := r69
  have zu68 := u68.size
  have E70 := (E52.nx u60).nx u68
  refine t_not rfl rfl rfl (t_same 32 (v := .bool (!(okRul r))) rfl rfl (t_move rfl rfl rfl (t_split 33 rfl (fun g33 => ?_) (fun g33 => ?_))))
  ·
   refine t_skip rfl rfl rfl (t_skip rfl rfl rfl (t_skip rfl rfl rfl (t_pick_t rfl rfl rfl rfl (t_move rfl rfl rfl (t_skip rfl rfl rfl (t_skip rfl rfl rfl (t_skip rfl rfl rfl (t_pick_t rfl rfl rfl rfl (t_nil' (hK64 _ _ (c_cond_t rfl (c_seq fun K71 hK71 => (c_region (t_move rfl rfl rfl (t_cmp rfl rfl rfl rfl rfl (t_samehd (v := .bool true) rfl (t_move rfl rfl rfl (t_move rfl rfl rfl (t_not rfl rfl rfl (t_pick_t rfl rfl rfl rfl (t_move rfl rfl rfl (t_move rfl rfl rfl (t_not rfl rfl rfl ?_)))))))))))))))))))))))
   refine t_pick_t rfl rfl rfl rfl (t_move rfl rfl rfl (t_call own8 rfl rfl rfl rfl (known_c _) (fun v72 w73 r75 => ?_)))
   obtain ⟨rfl, u74⟩ := r75
   have zu74 := u74.size
   refine t_pick_t rfl rfl rfl rfl (t_assign rfl rfl rfl (t_nil' (hK71 _ _ (c_ret (f_ret1 (v := .bool true) Tryz.results6 rfl ?_)))))
   exact ⟨rfl, (E70.nx u74)⟩
  have B77 := (((((B37.kx u41).kx u46).kx u51).kx u60).kx u68)
  refine t_loadN (vs := [.int .i64 h.f, .int .i64 h.u, .slice h.ap h.ps.length h.cp, .slice h.ad h.ds.length h.cd]) Tryz.isAgg79 Tryz.sizeOf79 rfl rfl rfl (B77.at.sub 0 4) rfl (t_call own34 rfl rfl rfl rfl (rSailor_c h _ ⟨hp.keep E70 (fun _ => fun h => h), by omega, hd.keep E70 (fun _ => fun h => h), by omega⟩) (fun v78 w79 r81 => ?_))
  obtain ⟨rfl, u80⟩ := r81
  have zu80 := u80.size
  have E82 := E70.nx u80
  refine t_not rfl rfl rfl (t_same 36 (v := .bool (!(okSlr h.slr))) rfl rfl (t_pick_f rfl rfl rfl rfl (t_move rfl rfl rfl (t_split 38 rfl (fun g38 => ?_) (fun g38 => ?_)))))
  ·
   refine t_skip rfl rfl rfl (t_skip rfl rfl rfl (t_skip rfl rfl rfl (t_pick_t rfl rfl rfl rfl (t_nil' (hK64 _ _ (c_cond_t rfl (c_seq fun K83 hK83 => (c_region (t_move rfl rfl rfl (t_cmp rfl rfl rfl rfl rfl (t_samehd (v := .bool true) rfl (t_move rfl rfl rfl (t_move rfl rfl rfl (t_not rfl rfl rfl (t_pick_t rfl rfl rfl rfl (t_move rfl rfl rfl (t_move rfl rfl rfl (t_not rfl rfl rfl (t_pick_t rfl rfl rfl rfl (t_move rfl rfl rfl (t_call own8 rfl rfl rfl rfl (known_c _) (fun v84 w85 r87 => ?_))))))))))))))))))))))
   obtain ⟨rfl, u86⟩ := r87
   have zu86 := u86.size
   refine t_pick_t rfl rfl rfl rfl (t_assign rfl rfl rfl (t_nil' (hK83 _ _ (c_ret (f_ret1 (v := .bool true) Tryz.results6 rfl ?_)))))
   exact ⟨rfl, (E82.nx u86)⟩
  have B89 := ((((((((B14.kx u23).kx u27).kx u41).kx u46).kx u51).kx u60).kx u68).kx u80)
  refine t_loadN (vs := [.int .i64 x.r, .int .i64 x.t.bl, .int .i64 x.t.bh, .int .i64 x.t.el, .int .i64 x.t.eh, .int .i64 x.h, .int .i64 x.p]) Tryz.isAgg68 Tryz.sizeOf68 rfl rfl rfl (B89.at.sub 0 7) rfl (t_call own35 rfl rfl rfl rfl (rLeg_c x _) (fun v90 w91 r93 => ?_))
  obtain ⟨rfl, u92⟩ := r93
  have zu92 := u92.size
  refine t_not rfl rfl rfl ?_
  refine t_same 41 (v := .bool true) rfl (congrArg Value.bool (by cases hq : okLeg x with
    | false => rfl
    | true => exact absurd ⟨by simpa using g33, by rw [show (⟨h2.f, h2.u, h2.ps, h2.ds⟩ : Slr) = h.slr from hsl2]; simpa using g38, hq⟩ hbad)) ?_
  refine t_pick_f rfl rfl rfl rfl (t_nil' (hK64 _ _ (c_cond_t rfl (c_seq fun K95 hK95 => (c_region (t_move rfl rfl rfl (t_cmp rfl rfl rfl rfl rfl (t_samehd (v := .bool true) rfl (t_move rfl rfl rfl (t_move rfl rfl rfl (t_not rfl rfl rfl (t_pick_t rfl rfl rfl rfl (t_move rfl rfl rfl (t_move rfl rfl rfl (t_not rfl rfl rfl (t_pick_t rfl rfl rfl rfl (t_move rfl rfl rfl (t_call own8 rfl rfl rfl rfl (known_c _) (fun v96 w97 r99 => ?_)))))))))))))))))))
  obtain ⟨rfl, u98⟩ := r99
  have zu98 := u98.size
  refine t_pick_t rfl rfl rfl rfl (t_assign rfl rfl rfl (t_nil' (hK95 _ _ (c_ret (f_ret1 (v := .bool true) Tryz.results6 rfl ?_)))))
  exact ⟨rfl, ((E82.nx u92).nx u98)⟩
 have zu60 := u60.size
 obtain ⟨hor, hos, hox⟩ := hok
 refine s_next ((Upd.refl _ _).nx u60) (y_move rfl rfl rfl (y_extract rfl rfl rfl rfl (y_extract rfl rfl rfl rfl (y_extract rfl rfl rfl rfl (y_assign rfl rfl rfl (y_assign rfl rfl rfl (y_assign rfl rfl rfl (s_nil (hK49 _ _ (c_seq fun K102 hK102 => (c_seq fun K103 hK103 => (c_region ?_))))))))))))
 have B104 := ((((((((B4.kx u10).kx u15).kx u23).kx u27).kx u41).kx u46).kx u51).kx u60)
 refine t_loadN (vs := [.int .i64 r.rest, .int .i64 r.span, .int .i64 r.work, .int .i64 r.week, .int .i64 r.ww]) Tryz.isAgg23 Tryz.sizeOf23 rfl rfl rfl (B104.at.sub 0 5) rfl (t_call own13 rfl rfl rfl rfl (rRules_c r _) (fun v105 w106 r108 => ?_))
 obtain ⟨rfl, u107⟩ := r108
 have zu107 := u107.size
 have E109 := (E52.nx u60).nx u107
 refine t_not rfl rfl rfl (t_same 32 (v := .bool false) rfl (by rw [hor]; rfl) (t_move rfl rfl rfl ?_))
 have B110 := (((((B37.kx u41).kx u46).kx u51).kx u60).kx u107)
 refine t_loadN (vs := [.int .i64 h.f, .int .i64 h.u, .slice h.ap h.ps.length h.cp, .slice h.ad h.ds.length h.cd]) Tryz.isAgg79 Tryz.sizeOf79 rfl rfl rfl (B110.at.sub 0 4) rfl (t_call own34 rfl rfl rfl rfl (rSailor_c h _ ⟨hp.keep E109 (fun _ => fun h => h), by omega, hd.keep E109 (fun _ => fun h => h), by omega⟩) (fun v111 w112 r114 => ?_))
 obtain ⟨rfl, u113⟩ := r114
 have zu113 := u113.size
 refine t_not rfl rfl rfl (t_same 36 (v := .bool false) rfl (congrArg Value.bool (by rw [← hsl2, show h2.slr = ⟨h2.f, h2.u, h2.ps, h2.ds⟩ from rfl, hos]; rfl)) (t_pick_f rfl rfl rfl rfl (t_move rfl rfl rfl ?_)))
 have B116 := ((((((((B14.kx u23).kx u27).kx u41).kx u46).kx u51).kx u60).kx u107).kx u113)
 refine t_loadN (vs := [.int .i64 x.r, .int .i64 x.t.bl, .int .i64 x.t.bh, .int .i64 x.t.el, .int .i64 x.t.eh, .int .i64 x.h, .int .i64 x.p]) Tryz.isAgg68 Tryz.sizeOf68 rfl rfl rfl (B116.at.sub 0 7) rfl (t_call own35 rfl rfl rfl rfl (rLeg_c x _) (fun v117 w118 r120 => ?_))
 obtain ⟨rfl, u119⟩ := r120
 have zu119 := u119.size
 have E121 := (E109.nx u113).nx u119
 refine t_not rfl rfl rfl (t_same 41 (v := .bool false) rfl (by rw [hox]; rfl) (t_pick_f rfl rfl rfl rfl (t_nil' (hK103 _ _ (c_cond_f rfl (c_skip (hK102 _ _ (c_seq fun K122 hK122 => (c_region ?_)))))))))
 have B123 := (((B104.kx u107).kx u113).kx u119)
 refine t_loadN (vs := [.int .i64 r.rest, .int .i64 r.span, .int .i64 r.work, .int .i64 r.week, .int .i64 r.ww]) Tryz.isAgg23 Tryz.sizeOf23 rfl rfl rfl (B123.at.sub 0 5) rfl ?_
 have B124 := ((B110.kx u113).kx u119)
 refine t_loadN (vs := [.int .i64 h.f, .int .i64 h.u, .slice h.ap h.ps.length h.cp, .slice h.ad h.ds.length h.cd]) Tryz.isAgg79 Tryz.sizeOf79 rfl rfl rfl (B124.at.sub 0 4) rfl ?_
 have B125 := (B116.kx u119)
 refine t_loadN (vs := [.int .i64 x.r, .int .i64 x.t.bl, .int .i64 x.t.bh, .int .i64 x.t.el, .int .i64 x.t.eh, .int .i64 x.h, .int .i64 x.p]) Tryz.isAgg68 Tryz.sizeOf68 rfl rfl rfl (B125.at.sub 0 7) rfl (t_call own36 rfl rfl rfl rfl (rMay_c r h x _ ⟨hp.keep E121 (fun _ => fun h => h), by omega, hd.keep E121 (fun _ => fun h => h), by omega⟩ (by omega) hor (by omega) (by rw [← hd2]; exact (okSlr_ok hos).2.2.2) (okLeg_ok hox).1 (by omega)) (fun v126 w127 r129 => ?_))
 obtain ⟨rfl, u128⟩ := r129
 have zu128 := u128.size
 refine t_move rfl rfl rfl (t_extract rfl rfl rfl rfl (t_extract rfl rfl rfl rfl (t_assign rfl rfl rfl (t_assign rfl rfl rfl (t_nil' (hK122 _ _ (c_seq fun K131 hK131 => (c_region (t_move rfl rfl rfl (t_cmp rfl rfl rfl rfl rfl (t_samehd (v := .bool true) rfl (t_move rfl rfl rfl (t_move rfl rfl rfl (t_move rfl rfl rfl (t_eqB Tryz.underlying4 rfl rfl rfl rfl (t_same 68 (v := .bool true) rfl (congrArg Value.bool (decide_eq_true (congrArg (fun z => MayR r z x) hsl2))) (t_pick_t rfl rfl rfl rfl (t_move rfl rfl rfl (t_move rfl rfl rfl (t_move rfl rfl rfl (t_eqB Tryz.underlying4 rfl rfl rfl rfl (t_same 73 (v := .bool true) rfl (congrArg Value.bool (decide_eq_true (congrArg (fun z => pltP z x) hp2))) (t_pick_t rfl rfl rfl rfl ?_)))))))))))))))))))))))
 refine t_move rfl rfl rfl (t_call own8 rfl rfl rfl rfl (known_c _) (fun v132 w133 r135 => ?_))
 obtain ⟨rfl, u134⟩ := r135
 have zu134 := u134.size
 refine t_pick_t rfl rfl rfl rfl (t_assign rfl rfl rfl (t_nil' (hK131 _ _ (c_ret (f_ret1 (v := .bool true) Tryz.results6 rfl ?_)))))
 exact ⟨rfl, ((E121.nx u128).nx u134)⟩

end Go.Proofs.YtagmodjadmecdaaGreat
