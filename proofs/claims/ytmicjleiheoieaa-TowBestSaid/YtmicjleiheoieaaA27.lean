/-
  Contracts of truths. Conditions: none.
-/
import Derived.Test.YtmicjleiheoieaaA17
import Derived.Test.YtmicjleiheoieaaUnr
namespace Go.Proofs.Ytmicjleiheoieaa
open Go Go.RowKit
def pck (b : Bnd) (y : Int) : Int := b.lo + (b.hi - b.lo) * y / 255
def prt (l : List Int) (i : Nat) : Int := if l.length = 0 then 0 else nth l (i % l.length)
theorem prt_rng {l : List Int} {i : Nat} (h : ∀ x ∈ l, 0 ≤ x ∧ x ≤ 255) : 0 ≤ prt l i ∧ prt l i ≤ 255 := by
  unfold prt; split
  · decide
  · exact h _ (nth_mem (Nat.mod_lt _ (by omega)))
theorem pck_rng {b : Bnd} {y : Int} (h : b.lo ≤ b.hi) (hy : 0 ≤ y ∧ y ≤ 255) : b.lo ≤ pck b y ∧ pck b y ≤ b.hi := by
  have h1 : 0 ≤ (b.hi - b.lo) * y := Int.mul_nonneg (by omega) hy.1
  have h2 : (b.hi - b.lo) * y ≤ (b.hi - b.lo) * 255 := Int.mul_le_mul_of_nonneg_left hy.2 (by omega)
  have h3 : (b.hi - b.lo) * y / 255 ≤ b.hi - b.lo := by
    have := Int.ediv_le_ediv (by decide : (0 : Int) < 255) h2
    rwa [Int.mul_ediv_cancel _ (by decide)] at this
  have h4 : 0 ≤ (b.hi - b.lo) * y / 255 := Int.ediv_nonneg h1 (by decide)
  unfold pck; omega
/-- Minutes in a truth. -/
def truGo (tp tw : List Int) (p : Int) : Nat → List Run → Int → Int
  | _, [], _ => -1
  | i, r :: rs, m => if p = r.frm then m else if pck r.sp (prt tp i) < 1 then -1 else
    if (0 < p - r.frm ↔ r.frm < r.to) ∧ max (p - r.frm) (-(p - r.frm)) ≤ max (r.to - r.frm) (r.frm - r.to) then
      m + pck r.wt (prt tw i) + (60 * max (p - r.frm) (-(p - r.frm)) + pck r.sp (prt tp i) - 1) / pck r.sp (prt tp i)
    else truGo tp tw p (i + 1) rs (m + pck r.wt (prt tw i) + (60 * max (r.to - r.frm) (r.frm - r.to) + pck r.sp (prt tp i) - 1) / pck r.sp (prt tp i))
def tru (v : Voy) (ts : Int) (tp tw : List Int) (p : Int) : Int := truGo tp tw p 0 v.runs (pck v.st ts)
theorem tg_here {tp tw : List Int} {p m u : Int} {rs : List Run} {k : Nat} (hi : u = truGo tp tw p k (rs.drop k) m) (h : k < rs.length) (hb : p = (nth rs k).frm) : u = m := by
  rw [hi, drop_nth h]; unfold truGo; rw [if_pos hb]
theorem tg_stop {tp tw : List Int} {p m u : Int} {rs : List Run} {k : Nat} (hi : u = truGo tp tw p k (rs.drop k) m) (h : k < rs.length) (hb : ¬ p = (nth rs k).frm) (hs : ¬ pck (nth rs k).sp (prt tp k) < 1)
    (hc : (0 < p - (nth rs k).frm ↔ (nth rs k).frm < (nth rs k).to) ∧ max (p - (nth rs k).frm) (-(p - (nth rs k).frm)) ≤ max ((nth rs k).to - (nth rs k).frm) ((nth rs k).frm - (nth rs k).to)) :
    u = m + pck (nth rs k).wt (prt tw k) + (60 * max (p - (nth rs k).frm) (-(p - (nth rs k).frm)) + pck (nth rs k).sp (prt tp k) - 1) / pck (nth rs k).sp (prt tp k) := by
  rw [hi, drop_nth h]; unfold truGo; rw [if_neg hb, if_neg hs, if_pos hc]
theorem tg_next {tp tw : List Int} {p m u : Int} {rs : List Run} {k : Nat} (hi : u = truGo tp tw p k (rs.drop k) m) (h : k < rs.length) (hb : ¬ p = (nth rs k).frm) (hs : ¬ pck (nth rs k).sp (prt tp k) < 1)
    (hc : ¬ ((0 < p - (nth rs k).frm ↔ (nth rs k).frm < (nth rs k).to) ∧ max (p - (nth rs k).frm) (-(p - (nth rs k).frm)) ≤ max ((nth rs k).to - (nth rs k).frm) ((nth rs k).frm - (nth rs k).to))) :
    u = truGo tp tw p (k + 1) (rs.drop (k + 1)) (m + pck (nth rs k).wt (prt tw k) + (60 * max ((nth rs k).to - (nth rs k).frm) ((nth rs k).frm - (nth rs k).to) + pck (nth rs k).sp (prt tp k) - 1) / pck (nth rs k).sp (prt tp k)) := by
  rw [hi, drop_nth h]; conv => lhs; unfold truGo
  rw [if_neg hb, if_neg hs, if_neg hc]
theorem tg_slow {tp tw : List Int} {p m u : Int} {rs : List Run} {k : Nat} (hi : u = truGo tp tw p k (rs.drop k) m) (h : k < rs.length) (hb : ¬ p = (nth rs k).frm) (hs : pck (nth rs k).sp (prt tp k) < 1) : u = -1 := by
  rw [hi, drop_nth h]; unfold truGo; rw [if_neg hb, if_pos hs]
theorem tg_end {tp tw : List Int} {p m u : Int} {rs : List Run} {k : Nat} (hi : u = truGo tp tw p k (rs.drop k) m) (h : rs.length ≤ k) : u = -1 := by
  rw [hi, List.drop_eq_nil_of_le h]; rfl

theorem own35 : Own Try.prog 35 := ⟨Try.f35, Try.func35, by kernel_rfl, by kernel_rfl⟩
theorem own45 : Own Try.prog 45 := ⟨Try.f45, Try.func45, by kernel_rfl, by kernel_rfl⟩
theorem own51 : Own Try.prog 51 := ⟨Try.f51, Try.func51, by kernel_rfl, by kernel_rfl⟩
theorem own85 : Own Try.prog 85 := ⟨Try.f85, Try.func85, by kernel_rfl, by kernel_rfl⟩

theorem sound_c (v : Voy) (ao : Option Addr) (b o cap : Nat) (w0 : World) (hs : Sl encRun 6 w0 ao b o v.runs) :
    CallsV Try.prog 35 [.agg #[.int .i64 v.st.lo, .int .i64 v.st.hi, .slice ao ((v.runs).length) cap, .int .i64 v.len, .int .i64 v.wid]] w0 (fun x w' => x = .bool (okVoy v) ∧ Ext w0 w') := by
 have E0 := Upd.refl (fun _ => False) w0
 refine f_enter (N := 19) Try.func35 rfl rfl rfl ?_
 change WC _ _ _ _ _ _ [(0, .agg #[.int .i64 v.st.lo, .int .i64 v.st.hi, .slice ao ((v.runs).length) cap, .int .i64 v.len, .int .i64 v.wid])] _
 refine c_seq fun K1 hK1 => (c_region (t_box (cs := [.int .i64 v.st.lo, .int .i64 v.st.hi, .slice ao ((v.runs).length) cap, .int .i64 v.len, .int .i64 v.wid]) rfl rfl rfl rfl (fun bk2 w3 ebk2 sbk2 B4 u5 => ?_)))
 have zu5 := u5.size
 have E6 := E0.next u5 (fun _ _ h => h.elim)
 refine t_assign rfl rfl rfl (t_nil' (hK1 _ _ (c_seq fun K7 hK7 => (c_region (t_field Try.underlying48 rfl Try.sizeOf46 (2) rfl rfl rfl rfl (t_load Try.isAgg46 rfl rfl rfl (B4.get rfl) (t_len Try.underlying46 rfl rfl rfl rfl (t_cmp rfl rfl rfl rfl rfl (t_move rfl rfl rfl (t_splitp 7 rfl (fun g7 => ?_) (fun g7 => ?_)))))))))))
 ·
  refine t_field Try.underlying48 rfl Try.sizeOf46 (2) rfl rfl rfl rfl (t_load Try.isAgg46 rfl rfl rfl (B4.get rfl) (t_len Try.underlying46 rfl rfl rfl rfl (t_cmp rfl rfl rfl rfl rfl (t_pick_t rfl rfl rfl rfl (t_move rfl rfl rfl (t_splitp 13 rfl (fun g13 => ?_) (fun g13 => ?_)))))))
  ·
   refine t_loadN (vs := [.int .i64 v.st.lo, .int .i64 v.st.hi, .slice ao ((v.runs).length) cap, .int .i64 v.len, .int .i64 v.wid]) Try.isAgg48 Try.sizeOf48 rfl rfl rfl (B4.at.sub 0 5) rfl (t_call (vs := [.agg #[.int .i64 v.st.lo, .int .i64 v.st.hi, .slice ao ((v.runs).length) cap, .int .i64 v.len, .int .i64 v.wid]]) own28 rfl rfl rfl rfl (copied_c v ao b o cap _ (hs.keep E6 (fun _ h => h)) (by omega)) (fun v9 w10 r12 => ?_))
   obtain ⟨⟨aoC8, bC8, cpC8, rfl, hC8, gebC8⟩, u11⟩ := r12
   have zu11 := u11.size
   have E13 := E6.next u11 (fun _ _ h => h.elim)
   refine t_call (vs := [.agg #[.int .i64 v.st.lo, .int .i64 v.st.hi, .slice aoC8 ((v.runs).length) cpC8, .int .i64 v.len, .int .i64 v.wid]]) own29 rfl rfl rfl rfl (Check_c v aoC8 bC8 0 cpC8 _ hC8 (by omega)) (fun v14 w15 r17 => ?_)
   obtain ⟨rfl, u16⟩ := r17
   have zu16 := u16.size
   have E18 := E13.next u16 (fun _ _ h => h.elim)
   refine t_cmp rfl rfl rfl rfl rfl (t_pick_t rfl rfl rfl rfl (t_assign rfl rfl rfl (t_nil' (hK7 _ _ (c_ret (f_ret1 (v := .bool (decide ((chk v) = 0))) Try.results35 rfl ?_))))))
   exact ⟨congrArg Value.bool (by unfold chk; cases okVoy v <;> simp), E18⟩
  ·
   refine t_skip rfl rfl rfl (t_skip rfl rfl rfl (t_skip rfl rfl rfl (t_skip rfl rfl rfl (t_pick_f rfl rfl rfl rfl (t_assign rfl rfl rfl (t_nil' (hK7 _ _ (c_ret (f_ret1 (v := .bool false) Try.results35 rfl ?_)))))))))
   have hb : okVoy v = false := by
    cases hk : okVoy v with
    | false => rfl
    | true => exact absurd (Bool.and_eq_true_iff.1 hk).1 (by unfold okVoy0; rw [decide_eq_true_eq]; omega)
   exact ⟨by rw [hb], E6⟩
 ·
  refine t_skip rfl rfl rfl (t_skip rfl rfl rfl (t_skip rfl rfl rfl (t_skip rfl rfl rfl (t_pick_f rfl rfl rfl rfl (t_move rfl rfl rfl (t_skip rfl rfl rfl (t_skip rfl rfl rfl (t_skip rfl rfl rfl (t_skip rfl rfl rfl (t_pick_f rfl rfl rfl rfl (t_assign rfl rfl rfl (t_nil' (hK7 _ _ (c_ret (f_ret1 (v := .bool false) Try.results35 rfl ?_)))))))))))))))
  have hb : okVoy v = false := by
   cases hk : okVoy v with
   | false => rfl
   | true => exact absurd (Bool.and_eq_true_iff.1 hk).1 (by unfold okVoy0; rw [decide_eq_true_eq]; omega)
  exact ⟨by rw [hb], E6⟩

theorem pick_c (b : Bnd) (y : Int) (w0 : World) (hb : (-1000000000 ≤ b.lo ∧ b.lo ≤ 1000000000) ∧ (b.lo ≤ b.hi ∧ b.hi ≤ 1000000000)) (hy : 0 ≤ y ∧ y ≤ 255) :
    CallsV Try.prog 85 [.agg #[.int .i64 b.lo, .int .i64 b.hi], .int .u8 y] w0 (fun x w' => x = .int .i64 (pck b y) ∧ Ext w0 w') := by
 have h1 := Int.mul_nonneg (show 0 ≤ b.hi - b.lo by omega) hy.1
 have h2 : (b.hi - b.lo) * y ≤ (b.hi - b.lo) * 255 := Int.mul_le_mul_of_nonneg_left hy.2 (by omega)
 have h3 := pck_rng (b := b) (by omega) hy
 have h4 : 0 ≤ (b.hi - b.lo) * y / 255 := Int.ediv_nonneg h1 (by decide)
 unfold pck at h3
 have E0 := Upd.refl (fun _ => False) w0
 refine f_enter (N := 17) Try.func85 rfl rfl rfl ?_
 change WC _ _ _ _ _ _ [(0, .agg #[.int .i64 b.lo, .int .i64 b.hi]), (1, .int .u8 y)] _
 refine c_seq fun K1 hK1 => (c_region (t_box (cs := [.int .i64 b.lo, .int .i64 b.hi]) rfl rfl rfl rfl (fun bk2 w3 ebk2 sbk2 B4 u5 => ?_)))
 have zu5 := u5.size
 have E6 := E0.next u5 (fun _ _ h => h.elim)
 refine t_assign rfl rfl rfl (t_nil' (hK1 _ _ (c_seq fun K7 hK7 => (c_region (t_field Try.underlying45 rfl Try.sizeOf3 (0) rfl rfl rfl rfl (t_load Try.isAgg3 rfl rfl rfl (B4.get rfl) (t_field Try.underlying45 rfl Try.sizeOf3 (1) rfl rfl rfl rfl (t_load Try.isAgg3 rfl rfl rfl (B4.get rfl) (t_field Try.underlying45 rfl Try.sizeOf3 (0) rfl rfl rfl rfl (t_load Try.isAgg3 rfl rfl rfl (B4.get rfl) (t_ari rfl rfl rfl rfl rfl (by omega) (t_move rfl rfl rfl (t_conv Try.underlying5 Try.underlying3 rfl rfl rfl (IntWalk.i64_in _ (by omega)) (t_ari rfl rfl rfl rfl rfl (by omega) (t_quo rfl rfl rfl rfl (by omega) (by omega) (t_ari rfl rfl rfl rfl rfl (by omega) (t_assign rfl rfl rfl (t_nil' (hK7 _ _ (c_ret (f_ret1 (v := .int .i64 (b.lo + (((b.hi - b.lo) * y) / 255))) Try.results85 rfl ?_)))))))))))))))))))))
 exact ⟨rfl, E6⟩

theorem part_c (l : List Int) (i : Nat) (ao : Option Addr) (b o cap : Nat) (w0 : World) (hs : Sl encU8 1 w0 ao b o l) (hl : l.length ≤ 9223372036854775807) :
    CallsV Try.prog 45 [.slice ao l.length cap, .int .i64 (i : Int)] w0 (fun x w' => x = .int .u8 (prt l i) ∧ Ext w0 w') := by
 have E0 := Upd.refl (fun _ => False) w0
 refine f_enter (N := 15) Try.func45 rfl rfl rfl ?_
 change WC _ _ _ _ _ _ [(0, .slice ao l.length cap), (1, .int .i64 (i : Int))] _
 refine c_seq fun K1 hK1 => (c_region (t_assign rfl rfl rfl (t_nil' (hK1 _ _ (c_seq fun K2 hK2 => (c_seq fun K3 hK3 => (c_region (t_move rfl rfl rfl (t_len Try.underlying79 rfl rfl rfl rfl (t_cmp rfl rfl rfl rfl rfl (t_nil' (hK3 _ _ (c_condp rfl (fun g7 => ?_) (fun g7 => ?_))))))))))))))
 ·
  refine c_seq fun K4 hK4 => (c_region (t_assign rfl rfl rfl (t_nil' (hK4 _ _ (c_ret (f_ret1 (v := .int .u8 0) Try.results45 rfl ?_))))))
  exact ⟨congrArg (Value.int .u8) (by unfold prt; rw [if_pos (by omega)]), E0⟩
 ·
  refine c_skip (hK2 _ _ (c_seq fun K5 hK5 => (c_region (t_move rfl rfl rfl (t_move rfl rfl rfl (t_move rfl rfl rfl (t_len Try.underlying79 rfl rfl rfl rfl (t_rem rfl rfl rfl rfl (by omega) (by omega) ?_))))))))
  have i6 : (i % l.length) < l.length := (Nat.mod_lt _ (by omega))
  refine t_index (j := (i % l.length)) Try.underlying79 Try.sizeOf5 rfl rfl rfl rfl (hs.addr (by omega)) (by simp) i6 (t_load Try.isAgg5 rfl rfl rfl ((hs.at_ (i % l.length) (Nat.mod_lt _ (by omega))) 0 _ rfl) (t_assign rfl rfl rfl (t_nil' (hK5 _ _ (c_ret (f_ret1 (v := .int .u8 (nth l (i % l.length))) Try.results45 rfl ?_))))))
  exact ⟨congrArg (Value.int .u8) (by unfold prt; rw [if_neg (by omega)]), E0⟩


theorem div_rng {d s : Int} (hd : 0 ≤ d ∧ d ≤ 100000) (hs : 1 ≤ s ∧ s ≤ 400) : 0 ≤ (60 * d + s - 1) / s ∧ (60 * d + s - 1) / s ≤ 6000400 :=
  ⟨Int.ediv_nonneg (by omega) (by omega), Int.le_trans (Int.ediv_le_self _ (by omega)) (by omega)⟩
theorem okVoy_sp {v : Voy} (h : okVoy v = true) : ∀ r ∈ v.runs, r.sp.lo ≤ r.sp.hi ∧ r.wt.lo ≤ r.wt.hi := by
  have key : ∀ {way : Int} (rs : List Run) (a : Int), okRuns way a rs = true → ∀ r ∈ rs, r.sp.lo ≤ r.sp.hi ∧ r.wt.lo ≤ r.wt.hi := by
    intro way rs
    induction rs with
    | nil => intro _ _ r hr; cases hr
    | cons x rs ih =>
      intro a h r hr
      simp only [okRuns, Bool.and_eq_true] at h
      rcases List.mem_cons.1 hr with rfl | hr
      · have h1 := h.1
        unfold okRun at h1
        rw [decide_eq_true_eq] at h1
        exact ⟨h1.2.2.2.2.1.1, h1.2.2.2.2.2.1⟩
      · exact ih _ h.2 r hr
  exact key v.runs _ (Bool.and_eq_true_iff.1 h).2
theorem okVoy_st {v : Voy} (h : okVoy v = true) : v.st.lo ≤ v.st.hi ∧ (0 ≤ v.st.lo ∧ v.st.hi ≤ 1000000) := by
  have h0 : okVoy0 v = true := (Bool.and_eq_true_iff.1 h).1
  unfold okVoy0 at h0; rw [decide_eq_true_eq] at h0
  omega

set_option maxHeartbeats 1000000 in
theorem truly_c (v : Voy) (ao : Option Addr) (b o cap : Nat) (ts : Int) (tp tw : List Int) (atp : Option Addr) (btp otp ctp : Nat) (atw : Option Addr) (btw otw ctw : Nat) (p : Int) (w0 : World) (hs : Sl encRun 6 w0 ao b o v.runs) (hts : 0 ≤ ts ∧ ts ≤ 255) (htp : Sl encU8 1 w0 atp btp otp tp) (htw : Sl encU8 1 w0 atw btw otw tw) (hp8 : ∀ x ∈ tp, 0 ≤ x ∧ x ≤ 255) (hw8 : ∀ x ∈ tw, 0 ≤ x ∧ x ≤ 255) (hpl : tp.length ≤ 9223372036854775807) (hwl : tw.length ≤ 9223372036854775807) (hk : okVoy v = true) (hpp : -10000000 ≤ p ∧ p ≤ 10000000) :
    CallsV Try.prog 51 [.agg #[.int .i64 v.st.lo, .int .i64 v.st.hi, .slice ao ((v.runs).length) cap, .int .i64 v.len, .int .i64 v.wid], .agg #[.int .u8 ts, .slice atp tp.length ctp, .slice atw tw.length ctw], .int .i64 p] w0 (fun x w' => x = .int .i64 (tru v ts tp tw p) ∧ Ext w0 w') := by
 have hv := okVoy_rng hk
 have hsp := okVoy_sp hk
 have hst := okVoy_st hk
 have hvf := hv.few
 have E0 := Upd.refl (fun _ => False) w0
 refine f_enter (N := 105) Try.func51 rfl rfl rfl ?_
 change WC _ _ _ _ _ _ [(0, .agg #[.int .i64 v.st.lo, .int .i64 v.st.hi, .slice ao ((v.runs).length) cap, .int .i64 v.len, .int .i64 v.wid]), (1, .agg #[.int .u8 ts, .slice atp tp.length ctp, .slice atw tw.length ctw]), (2, .int .i64 p)] _
 refine c_seq fun K1 hK1 => (c_region (t_box (cs := [.int .i64 v.st.lo, .int .i64 v.st.hi, .slice ao ((v.runs).length) cap, .int .i64 v.len, .int .i64 v.wid]) rfl rfl rfl rfl (fun bk2 w3 ebk2 sbk2 B4 u5 => ?_)))
 have zu5 := u5.size
 have E6 := E0.next u5 (fun _ _ h => h.elim)
 refine t_box (cs := [.int .u8 ts, .slice atp tp.length ctp, .slice atw tw.length ctw]) rfl rfl rfl rfl (fun bk7 w8 ebk7 sbk7 B9 u10 => ?_)
 have zu10 := u10.size
 have E11 := E6.next u10 (fun _ _ h => h.elim)
 refine t_assign rfl rfl rfl (t_nil' (hK1 _ _ (c_seq fun K12 hK12 => (c_region (t_field Try.underlying48 rfl Try.sizeOf45 (0) rfl rfl rfl rfl ?_)))))
 have B13 := (B4.keep u10 (fun h => h))
 refine t_loadN (vs := [.int .i64 v.st.lo, .int .i64 v.st.hi]) Try.isAgg45 Try.sizeOf45 rfl rfl rfl (B13.at.sub 0 2) rfl (t_field Try.underlying96 rfl Try.sizeOf5 (0) rfl rfl rfl rfl (t_load Try.isAgg5 rfl rfl rfl (B9.get rfl) (t_call (vs := [.agg #[.int .i64 v.st.lo, .int .i64 v.st.hi], .int .u8 ts]) own85 rfl rfl rfl rfl (pick_c v.st ts _ (by omega) (by omega)) (fun v14 w15 r17 => ?_))))
 obtain ⟨rfl, u16⟩ := r17
 have zu16 := u16.size
 have E18 := E11.next u16 (fun _ _ h => h.elim)
 refine t_assign rfl rfl rfl (t_nil' (hK12 _ _ (c_seq fun K19 hK19 => (c_seq fun K20 hK20 => (c_region (t_assign rfl rfl rfl (t_nil' (hK20 _ _ (c_block (c_loop (γ := Nat × Int) (fun gg => [(2, .int .i64 p), (3, .pointer (some ⟨bk2, 0, none⟩)), (4, .pointer (some ⟨bk7, 0, none⟩)), (7, .int .i64 gg.2), (8, .int .i64 (gg.1 : Int))]) (fun gg w => Upd (fun _ => False) w15 w ∧ (gg.1 ≤ v.runs.length) ∧ (tru v ts tp tw p = truGo tp tw p gg.1 (v.runs.drop gg.1) gg.2) ∧ (0 ≤ gg.2 ∧ gg.2 ≤ 1000000 + 6005400 * (gg.1 : Int))) (fun gg => v.runs.length - gg.1) (0, pck v.st ts) ⟨rfl, rfl, rfl, rfl, rfl, trivial⟩ ⟨Upd.refl _ _, Nat.zero_le _, rfl, (by have := pck_rng (b := v.st) (y := ts) (by omega) hts; simp only []; omega)⟩ ?_))))))))))
 intro gg w22 hW K21 hK21
 obtain ⟨k, m⟩ := gg
 change WC _ _ _ _ _ _ [(2, .int .i64 p), (3, .pointer (some ⟨bk2, 0, none⟩)), (4, .pointer (some ⟨bk7, 0, none⟩)), (7, .int .i64 m), (8, .int .i64 (k : Int))] _
 change Upd (fun _ => False) w15 w22 ∧ (k ≤ v.runs.length) ∧ (tru v ts tp tw p = truGo tp tw p k (v.runs.drop k) m) ∧ (0 ≤ m ∧ m ≤ 1000000 + 6005400 * (k : Int)) at hW
 obtain ⟨u23, I24, I25, I26⟩ := hW
 have zu23 := u23.size
 have E27 := E18.next u23 (fun _ _ h => h.elim)
 have hle := I24; clear I24
 have hinv := I25; clear I25
 have hm := I26; clear I26
 have hpr := prt_rng (l := tp) (i := k) hp8
 have hwr := prt_rng (l := tw) (i := k) hw8
 refine c_seq fun K28 hK28 => (c_seq fun K29 hK29 => (c_region (t_move rfl rfl rfl (t_field Try.underlying48 rfl Try.sizeOf46 (2) rfl rfl rfl rfl ?_))))
 have B30 := ((B13.keep u16 (fun h => h)).keep u23 (fun h => h))
 refine t_load Try.isAgg46 rfl rfl rfl (B30.get rfl) (t_len Try.underlying46 rfl rfl rfl rfl (t_cmp rfl rfl rfl rfl rfl (t_nil' (hK29 _ _ (c_condp rfl (fun g22 => ?_) (fun g22 => ?_))))))
 ·
  refine c_skip (hK28 _ _ (c_seq fun K31 hK31 => (c_block (c_seq fun K32 hK32 => (c_region (t_field Try.underlying48 rfl Try.sizeOf46 (2) rfl rfl rfl rfl (t_load Try.isAgg46 rfl rfl rfl (B30.get rfl) (t_move rfl rfl rfl ?_))))))))
  have i33 : k < v.runs.length := (by omega)
  refine t_index (j := k) Try.underlying46 Try.sizeOf59 rfl rfl rfl rfl ((hs.keep E27 (fun _ h => h)).addr (by omega)) rfl i33 (t_loadN (vs := [.int .i64 ((nth v.runs k).frm), .int .i64 ((nth v.runs k).to), .int .i64 ((nth v.runs k).sp.lo), .int .i64 ((nth v.runs k).sp.hi), .int .i64 ((nth v.runs k).wt.lo), .int .i64 ((nth v.runs k).wt.hi)]) Try.isAgg59 Try.sizeOf59 rfl rfl rfl (((hs.keep E27 (fun _ h => h)).at_ k (by omega)).sub 0 6) rfl ?_)
  obtain ⟨r1, r2, r3, r4, r5, r6⟩ := hv.run _ (nth_mem (xs := v.runs) (i := k) (by omega))
  have hbk := hsp _ (nth_mem (xs := v.runs) (i := k) (by omega))
  have hs1 := pck_rng (b := (nth v.runs k).sp) (y := prt tp k) hbk.1 hpr
  have hs2 := pck_rng (b := (nth v.runs k).wt) (y := prt tw k) hbk.2 hwr
  refine t_alloc (cs := [.int .i64 0, .int .i64 0, .int .i64 0, .int .i64 0, .int .i64 0, .int .i64 0]) Try.zeroValue59 rfl rfl rfl (fun bk34 w35 ebk34 sbk34 B36 u37 => ?_)
  have zu37 := u37.size
  have E38 := E27.next u37 (fun _ _ h => h.elim)
  refine t_store (vs := [.int .i64 ((nth v.runs k).frm), .int .i64 ((nth v.runs k).to), .int .i64 ((nth v.runs k).sp.lo), .int .i64 ((nth v.runs k).sp.hi), .int .i64 ((nth v.runs k).wt.lo), .int .i64 ((nth v.runs k).wt.hi)]) Try.sizeOf59 rfl rfl rfl B36 rfl rfl (Nat.le_of_ble_eq_true rfl) (by simp [Value.oneCell']) (fun w39 sw39 B41 u40 => ?_)
  have zu40 := u40.size
  have E42 := E38.next u40 (fun i hi (h : i = bk34) => show False by first | omega | assumption)
  have B41 : Blk w39 bk34 59 [.int .i64 ((nth v.runs k).frm), .int .i64 ((nth v.runs k).to), .int .i64 ((nth v.runs k).sp.lo), .int .i64 ((nth v.runs k).sp.hi), .int .i64 ((nth v.runs k).wt.lo), .int .i64 ((nth v.runs k).wt.hi)] := B41
  refine t_nil' (hK32 _ _ (c_seq fun K43 hK43 => (c_seq fun K44 hK44 => (c_region (t_move rfl rfl rfl (t_field Try.underlying59 rfl Try.sizeOf3 (0) rfl rfl rfl rfl (t_load Try.isAgg3 rfl rfl rfl (B41.get rfl) (t_cmp rfl rfl rfl rfl rfl (t_nil' (hK44 _ _ (c_condp rfl (fun g33 => ?_) (fun g33 => ?_))))))))))))
  ·
   refine c_seq fun K45 hK45 => (c_region (t_move rfl rfl rfl (t_assign rfl rfl rfl (t_nil' (hK45 _ _ (c_ret (f_ret1 (v := .int .i64 m) Try.results51 rfl ?_)))))))
   exact ⟨congrArg (Value.int .i64) (by rw [tg_here hinv (by omega) g33]), E42⟩
  ·
   refine c_skip (hK43 _ _ (c_seq fun K46 hK46 => ?_))
   have B47 := ((((B9.keep u16 (fun h => h)).keep u23 (fun h => h)).keep u37 (fun h => h)).keep u40 (show ¬ (bk7 = bk34) by first | omega | assumption))
   refine WC.weak [(2, .int .i64 p), (3, .pointer (some ⟨bk2, 0, none⟩)), (4, .pointer (some ⟨bk7, 0, none⟩)), (7, .int .i64 m), (8, .int .i64 (k : Int)), (9, .pointer (some ⟨bk34, 0, none⟩))] ⟨rfl, rfl, rfl, rfl, rfl, rfl, trivial⟩ (c_drawn follows 20 [some (35, some (.pointer (some ⟨bk34, 2, none⟩))), some (36, some (.agg #[.int .i64 ((nth v.runs k).sp.lo), .int .i64 ((nth v.runs k).sp.hi)])), some (37, some (.pointer (some ⟨bk7, 1, none⟩))), some (38, some (.slice atp tp.length ctp)), some (39, some (.int .i64 (k : Int))), some (40, some (.int .u8 (prt tp k))), some (41, some (.int .i64 (pck ((nth v.runs k).sp) (prt tp k)))), some (42, some (.pointer (some ⟨bk34, 1, none⟩))), some (43, some (.int .i64 ((nth v.runs k).to))), some (44, some (.pointer (some ⟨bk34, 0, none⟩))), some (45, some (.int .i64 ((nth v.runs k).frm))), some (46, some (.int .i64 (((nth v.runs k).to) - ((nth v.runs k).frm)))), some (47, some (.pointer (some ⟨bk34, 0, none⟩))), some (48, some (.int .i64 ((nth v.runs k).frm))), some (49, some (.pointer (some ⟨bk34, 1, none⟩))), some (50, some (.int .i64 ((nth v.runs k).to))), some (51, some (.int .i64 (((nth v.runs k).frm) - ((nth v.runs k).to)))), some (52, some (.int .i64 (max (((nth v.runs k).to) - ((nth v.runs k).frm)) (((nth v.runs k).frm) - ((nth v.runs k).to))))), some (10, some (.int .i64 (pck ((nth v.runs k).sp) (prt tp k)))), some (11, some (.int .i64 (max (((nth v.runs k).to) - ((nth v.runs k).frm)) (((nth v.runs k).frm) - ((nth v.runs k).to)))))] [[],[0],[],[2],[],[3,4],[1,5,5],[],[7],[],[9],[8,10],[],[12],[],[14],[13,15],[11,16],[6,6,0,1,2,3,4,5,6],[17,18,0,1,2,3,4,5,6,7,8,9,10,11,12,13,14,15,16,17,18]] (fun _ _ w => Upd (fun _ => False) w39 w) rfl rfl rfl (by kernel_rfl) (by kernel_rfl) (Upd.drew _).to ⟨?_, ?_, ?_, ?_, ?_, ?_, ?_, ?_, ?_, ?_, ?_, ?_, ?_, ?_, ?_, ?_, ?_, ?_, ?_, ?_, trivial⟩ ?_)
   · exact pzf Try.underlying59 rfl Try.sizeOf45 (2) rfl rfl rfl rfl rfl fun _ _ _ h => h
   ·
    intro D ρ w59 hcD hnD hdD hW
    have zhW := hW.size
    refine ⟨_, kf_fr [35], fun Lr => ?_⟩
    have B62 := (B41.keep hW (fun h => h))
    refine t_loadN (vs := [.int .i64 ((nth v.runs k).sp.lo), .int .i64 ((nth v.runs k).sp.hi)]) Try.isAgg45 Try.sizeOf45 rfl rfl rfl (B62.at.sub 2 2) rfl ?_
    exact dz rfl hW
   · exact pzf Try.underlying96 rfl Try.sizeOf79 (1) rfl rfl rfl rfl rfl fun _ _ _ h => h
   ·
    intro D ρ w63 hcD hnD hdD hW
    have zhW := hW.size
    refine ⟨_, kf_fr [37], fun Lr => ?_⟩
    have B66 := (B47.keep hW (fun h => h))
    refine t_load Try.isAgg79 rfl rfl rfl (B66.get rfl) ?_
    exact dz rfl hW
   · exact pz rfl rfl rfl rfl fun _ _ _ h => h
   ·
    intro D ρ w67 hcD hnD hdD hW
    have zhW := hW.size
    have E69 := E42.next hW (fun _ _ h => h.elim)
    refine ⟨_, kf_fr [38, 39], fun Lr => ?_⟩
    refine t_call (vs := [.slice atp tp.length ctp, .int .i64 (k : Int)]) own45 rfl rfl rfl rfl (part_c tp k atp btp otp ctp _ (htp.keep E69 (fun _ h => h)) hpl) (fun v70 w71 r73 => ?_)
    obtain ⟨rfl, u72⟩ := r73
    have zu72 := u72.size
    exact dz rfl (hW.next u72 (fun _ _ h => h.elim))
   ·
    intro D ρ w75 hcD hnD hdD hW
    have zhW := hW.size
    refine ⟨_, kf_fr [36, 40], fun Lr => ?_⟩
    refine t_call (vs := [.agg #[.int .i64 ((nth v.runs k).sp.lo), .int .i64 ((nth v.runs k).sp.hi)], .int .u8 (prt tp k)]) own85 rfl rfl rfl rfl (pick_c ((nth v.runs k).sp) (prt tp k) _ (by omega) (by omega)) (fun v78 w79 r81 => ?_)
    obtain ⟨rfl, u80⟩ := r81
    have zu80 := u80.size
    exact dz rfl (hW.next u80 (fun _ _ h => h.elim))
   · exact pzf Try.underlying59 rfl Try.sizeOf3 (1) rfl rfl rfl rfl rfl fun _ _ _ h => h
   ·
    intro D ρ w83 hcD hnD hdD hW
    have zhW := hW.size
    refine ⟨_, kf_fr [42], fun Lr => ?_⟩
    have B86 := (B41.keep hW (fun h => h))
    refine t_load Try.isAgg3 rfl rfl rfl (B86.get rfl) ?_
    exact dz rfl hW
   · exact pzf Try.underlying59 rfl Try.sizeOf3 (0) rfl rfl rfl rfl rfl fun _ _ _ h => h
   ·
    intro D ρ w87 hcD hnD hdD hW
    have zhW := hW.size
    refine ⟨_, kf_fr [44], fun Lr => ?_⟩
    have B90 := (B41.keep hW (fun h => h))
    refine t_load Try.isAgg3 rfl rfl rfl (B90.get rfl) ?_
    exact dz rfl hW
   ·
    intro D ρ w91 hcD hnD hdD hW
    have zhW := hW.size
    refine ⟨_, kf_fr [43, 45], fun Lr => ?_⟩
    refine t_ari rfl rfl rfl rfl rfl (by omega) ?_
    exact dz rfl hW
   · exact pzf Try.underlying59 rfl Try.sizeOf3 (0) rfl rfl rfl rfl rfl fun _ _ _ h => h
   ·
    intro D ρ w94 hcD hnD hdD hW
    have zhW := hW.size
    refine ⟨_, kf_fr [47], fun Lr => ?_⟩
    have B97 := (B41.keep hW (fun h => h))
    refine t_load Try.isAgg3 rfl rfl rfl (B97.get rfl) ?_
    exact dz rfl hW
   · exact pzf Try.underlying59 rfl Try.sizeOf3 (1) rfl rfl rfl rfl rfl fun _ _ _ h => h
   ·
    intro D ρ w98 hcD hnD hdD hW
    have zhW := hW.size
    refine ⟨_, kf_fr [49], fun Lr => ?_⟩
    have B101 := (B41.keep hW (fun h => h))
    refine t_load Try.isAgg3 rfl rfl rfl (B101.get rfl) ?_
    exact dz rfl hW
   ·
    intro D ρ w102 hcD hnD hdD hW
    have zhW := hW.size
    refine ⟨_, kf_fr [48, 50], fun Lr => ?_⟩
    refine t_ari rfl rfl rfl rfl rfl (by omega) ?_
    exact dz rfl hW
   ·
    intro D ρ w105 hcD hnD hdD hW
    have zhW := hW.size
    refine ⟨_, kf_fr [46, 51], fun Lr => ?_⟩
    refine t_max rfl rfl rfl rfl ?_
    exact dz rfl hW
   · exact pz rfl rfl rfl rfl fun _ _ _ h => h
   · exact pz rfl rfl rfl rfl fun _ _ _ h => h
   intro ρ w108 hW
   have u109 : Upd (fun _ => False) w39 w108 := hW
   have zu109 := u109.size
   have E110 := E42.next u109 (fun _ _ h => h.elim)
   refine QK.weak [(2, .int .i64 p), (3, .pointer (some ⟨bk2, 0, none⟩)), (4, .pointer (some ⟨bk7, 0, none⟩)), (7, .int .i64 m), (8, .int .i64 (k : Int)), (9, .pointer (some ⟨bk34, 0, none⟩)), (10, .int .i64 (pck ((nth v.runs k).sp) (prt tp k))), (11, .int .i64 (max (((nth v.runs k).to) - ((nth v.runs k).frm)) (((nth v.runs k).frm) - ((nth v.runs k).to))))] ⟨rfl, rfl, rfl, rfl, rfl, rfl, rfl, rfl, trivial⟩ (hK46 _ _ (c_seq fun K111 hK111 => (c_seq fun K112 hK112 => (c_region (t_move rfl rfl rfl (t_cmp rfl rfl rfl rfl rfl (t_nil' (hK112 _ _ (c_condp rfl (fun g54 => ?_) (fun g54 => ?_))))))))))
   ·
    refine c_seq fun K113 hK113 => (c_region (t_assign rfl rfl rfl (t_nil' (hK113 _ _ (c_ret (f_ret1 (v := .int .i64 (-1)) Try.results51 rfl ?_))))))
    exact ⟨congrArg (Value.int .i64) (by rw [tg_slow hinv (by omega) g33 g54]), E110⟩
   ·
    refine c_skip (hK111 _ _ (c_seq fun K114 hK114 => ?_))
    have B115 := (B47.keep u109 (fun h => h))
    have B116 := (B41.keep u109 (fun h => h))
    refine WC.weak [(2, .int .i64 p), (3, .pointer (some ⟨bk2, 0, none⟩)), (4, .pointer (some ⟨bk7, 0, none⟩)), (7, .int .i64 m), (8, .int .i64 (k : Int)), (9, .pointer (some ⟨bk34, 0, none⟩)), (10, .int .i64 (pck ((nth v.runs k).sp) (prt tp k))), (11, .int .i64 (max (((nth v.runs k).to) - ((nth v.runs k).frm)) (((nth v.runs k).frm) - ((nth v.runs k).to))))] ⟨rfl, rfl, rfl, rfl, rfl, rfl, rfl, rfl, trivial⟩ (c_drawn follows 10 [some (55, some (.int .i64 m)), some (56, some (.pointer (some ⟨bk34, 4, none⟩))), some (57, some (.agg #[.int .i64 ((nth v.runs k).wt.lo), .int .i64 ((nth v.runs k).wt.hi)])), some (58, some (.pointer (some ⟨bk7, 2, none⟩))), some (59, some (.slice atw tw.length ctw)), some (60, some (.int .i64 (k : Int))), some (61, some (.int .u8 (prt tw k))), some (62, some (.int .i64 (pck ((nth v.runs k).wt) (prt tw k)))), some (63, some (.int .i64 (m + (pck ((nth v.runs k).wt) (prt tw k))))), some (7, some (.int .i64 (m + (pck ((nth v.runs k).wt) (prt tw k)))))] [[],[],[1],[],[3],[],[4,5],[2,6,6],[0,7],[8,7,0,1,2,3,4,5,6,7,8]] (fun _ _ w => Upd (fun _ => False) w108 w) rfl rfl rfl (by kernel_rfl) (by kernel_rfl) (Upd.drew _).to ⟨?_, ?_, ?_, ?_, ?_, ?_, ?_, ?_, ?_, ?_, trivial⟩ ?_)
    · exact pz rfl rfl rfl rfl fun _ _ _ h => h
    · exact pzf Try.underlying59 rfl Try.sizeOf45 (4) rfl rfl rfl rfl rfl fun _ _ _ h => h
    ·
     intro D ρ w127 hcD hnD hdD hW
     have zhW := hW.size
     refine ⟨_, kf_fr [56], fun Lr => ?_⟩
     have B130 := (B116.keep hW (fun h => h))
     refine t_loadN (vs := [.int .i64 ((nth v.runs k).wt.lo), .int .i64 ((nth v.runs k).wt.hi)]) Try.isAgg45 Try.sizeOf45 rfl rfl rfl (B130.at.sub 4 2) rfl ?_
     exact dz rfl hW
    · exact pzf Try.underlying96 rfl Try.sizeOf79 (2) rfl rfl rfl rfl rfl fun _ _ _ h => h
    ·
     intro D ρ w131 hcD hnD hdD hW
     have zhW := hW.size
     refine ⟨_, kf_fr [58], fun Lr => ?_⟩
     have B134 := (B115.keep hW (fun h => h))
     refine t_load Try.isAgg79 rfl rfl rfl (B134.get rfl) ?_
     exact dz rfl hW
    · exact pz rfl rfl rfl rfl fun _ _ _ h => h
    ·
     intro D ρ w135 hcD hnD hdD hW
     have zhW := hW.size
     have E137 := E110.next hW (fun _ _ h => h.elim)
     refine ⟨_, kf_fr [59, 60], fun Lr => ?_⟩
     refine t_call (vs := [.slice atw tw.length ctw, .int .i64 (k : Int)]) own45 rfl rfl rfl rfl (part_c tw k atw btw otw ctw _ (htw.keep E137 (fun _ h => h)) hwl) (fun v138 w139 r141 => ?_)
     obtain ⟨rfl, u140⟩ := r141
     have zu140 := u140.size
     exact dz rfl (hW.next u140 (fun _ _ h => h.elim))
    ·
     intro D ρ w143 hcD hnD hdD hW
     have zhW := hW.size
     refine ⟨_, kf_fr [57, 61], fun Lr => ?_⟩
     refine t_call (vs := [.agg #[.int .i64 ((nth v.runs k).wt.lo), .int .i64 ((nth v.runs k).wt.hi)], .int .u8 (prt tw k)]) own85 rfl rfl rfl rfl (pick_c ((nth v.runs k).wt) (prt tw k) _ (by omega) (by omega)) (fun v146 w147 r149 => ?_)
     obtain ⟨rfl, u148⟩ := r149
     have zu148 := u148.size
     exact dz rfl (hW.next u148 (fun _ _ h => h.elim))
    ·
     intro D ρ w151 hcD hnD hdD hW
     have zhW := hW.size
     refine ⟨_, kf_fr [55, 62], fun Lr => ?_⟩
     refine t_ari rfl rfl rfl rfl rfl (by omega) ?_
     exact dz rfl hW
    · exact pz rfl rfl rfl rfl fun _ _ _ h => h
    intro ρ w154 hW
    have u155 : Upd (fun _ => False) w108 w154 := hW
    have zu155 := u155.size
    have E156 := E110.next u155 (fun _ _ h => h.elim)
    refine QK.weak [(2, .int .i64 p), (3, .pointer (some ⟨bk2, 0, none⟩)), (4, .pointer (some ⟨bk7, 0, none⟩)), (7, .int .i64 (m + (pck ((nth v.runs k).wt) (prt tw k)))), (8, .int .i64 (k : Int)), (9, .pointer (some ⟨bk34, 0, none⟩)), (10, .int .i64 (pck ((nth v.runs k).sp) (prt tp k))), (11, .int .i64 (max (((nth v.runs k).to) - ((nth v.runs k).frm)) (((nth v.runs k).frm) - ((nth v.runs k).to))))] ⟨rfl, rfl, rfl, rfl, rfl, rfl, rfl, rfl, trivial⟩ (hK114 _ _ (c_seq fun K157 hK157 => (c_seq fun K158 hK158 => (c_region (t_move rfl rfl rfl (t_field Try.underlying59 rfl Try.sizeOf3 (0) rfl rfl rfl rfl ?_))))))
    have B159 := (B116.keep u155 (fun h => h))
    refine t_load Try.isAgg3 rfl rfl rfl (B159.get rfl) (t_ari rfl rfl rfl rfl rfl (by omega) (t_assign rfl rfl rfl (t_nil' (hK158 _ _ (c_seq fun K160 hK160 => (c_region (t_move rfl rfl rfl (t_cmp rfl rfl rfl rfl rfl (t_field Try.underlying59 rfl Try.sizeOf3 (1) rfl rfl rfl rfl (t_load Try.isAgg3 rfl rfl rfl (B159.get rfl) (t_field Try.underlying59 rfl Try.sizeOf3 (0) rfl rfl rfl rfl (t_load Try.isAgg3 rfl rfl rfl (B159.get rfl) (t_cmp rfl rfl rfl rfl rfl (t_eqB Try.underlying4 rfl rfl rfl rfl (t_move rfl rfl rfl (t_splitp 76 rfl (fun g76 => ?_) (fun g76 => ?_)))))))))))))))))
    ·
     refine t_move rfl rfl rfl (t_move rfl rfl rfl (t_neg rfl rfl rfl (by omega) (t_max rfl rfl rfl rfl (t_move rfl rfl rfl (t_cmp rfl rfl rfl rfl rfl (t_pick_t rfl rfl rfl rfl (t_nil' (hK160 _ _ (c_condp rfl (fun g83 => ?_) (fun g83 => ?_))))))))))
     ·
      refine c_seq fun K161 hK161 => (c_region (t_move rfl rfl rfl (t_move rfl rfl rfl (t_move rfl rfl rfl (t_neg rfl rfl rfl (by omega) (t_max rfl rfl rfl rfl (t_ari rfl rfl rfl rfl rfl (by omega) (t_move rfl rfl rfl (t_ari rfl rfl rfl rfl rfl (by omega) (t_ari rfl rfl rfl rfl rfl (by omega) (t_move rfl rfl rfl ?_)))))))))))
      have hq1 := div_rng (d := max (p - (nth v.runs k).frm) (-(p - (nth v.runs k).frm))) (s := pck (nth v.runs k).sp (prt tp k)) (by omega) (by omega)
      refine t_quo rfl rfl rfl rfl (by omega) (by omega) (t_ari rfl rfl rfl rfl rfl (by omega) (t_assign rfl rfl rfl (t_nil' (hK161 _ _ (c_ret (f_ret1 (v := .int .i64 ((m + (pck ((nth v.runs k).wt) (prt tw k))) + ((((60 * (max (p - ((nth v.runs k).frm)) (-(p - ((nth v.runs k).frm))))) + (pck ((nth v.runs k).sp) (prt tp k))) - 1) / (pck ((nth v.runs k).sp) (prt tp k))))) Try.results51 rfl ?_))))))
      exact ⟨congrArg (Value.int .i64) (by rw [tg_stop hinv (by omega) g33 g54 ⟨decide_eq_decide.1 g76, g83⟩]), E156⟩
     ·
      refine c_skip (hK157 _ _ (c_region (t_move rfl rfl rfl (t_move rfl rfl rfl (t_ari rfl rfl rfl rfl rfl (by omega) (t_move rfl rfl rfl (t_ari rfl rfl rfl rfl rfl (by omega) (t_ari rfl rfl rfl rfl rfl (by omega) (t_move rfl rfl rfl ?_)))))))))
      have hq1 := div_rng (d := max ((nth v.runs k).to - (nth v.runs k).frm) ((nth v.runs k).frm - (nth v.runs k).to)) (s := pck (nth v.runs k).sp (prt tp k)) (by omega) (by omega)
      refine t_quo rfl rfl rfl rfl (by omega) (by omega) (t_ari rfl rfl rfl rfl rfl (by omega) (t_assign rfl rfl rfl (t_nil' (hK31 _ _ (c_region (t_move rfl rfl rfl (t_ari rfl rfl rfl rfl rfl (by omega) (t_assign rfl rfl rfl (t_nil' ?_)))))))))
      exact hK21 (k + 1, ((m + (pck ((nth v.runs k).wt) (prt tw k))) + ((((60 * (max (((nth v.runs k).to) - ((nth v.runs k).frm)) (((nth v.runs k).frm) - ((nth v.runs k).to)))) + (pck ((nth v.runs k).sp) (prt tp k))) - 1) / (pck ((nth v.runs k).sp) (prt tp k))))) _ _ (by show v.runs.length - (k + 1) < v.runs.length - k; omega) ⟨rfl, rfl, rfl, rfl, rfl, trivial⟩ ⟨((((u23.next u37 (fun _ _ h => h.elim)).next u40 (fun i hi (h : i = bk34) => show False by first | omega | assumption)).next u109 (fun _ _ h => h.elim)).next u155 (fun _ _ h => h.elim)), (by omega), (tg_next hinv (by omega) g33 g54 (fun h => g83 h.2)), (by show (0 : Int) ≤ ((m + (pck ((nth v.runs k).wt) (prt tw k))) + ((((60 * (max (((nth v.runs k).to) - ((nth v.runs k).frm)) (((nth v.runs k).frm) - ((nth v.runs k).to)))) + (pck ((nth v.runs k).sp) (prt tp k))) - 1) / (pck ((nth v.runs k).sp) (prt tp k)))) ∧ (((m + (pck ((nth v.runs k).wt) (prt tw k))) + ((((60 * (max (((nth v.runs k).to) - ((nth v.runs k).frm)) (((nth v.runs k).frm) - ((nth v.runs k).to)))) + (pck ((nth v.runs k).sp) (prt tp k))) - 1) / (pck ((nth v.runs k).sp) (prt tp k)))) : Int) ≤ _; omega)⟩
    ·
     refine t_skip rfl rfl rfl (t_skip rfl rfl rfl (t_skip rfl rfl rfl (t_skip rfl rfl rfl (t_skip rfl rfl rfl (t_skip rfl rfl rfl (t_pick_f rfl rfl rfl rfl (t_nil' (hK160 _ _ (c_cond_f rfl (c_skip (hK157 _ _ (c_region (t_move rfl rfl rfl (t_move rfl rfl rfl (t_ari rfl rfl rfl rfl rfl (by omega) (t_move rfl rfl rfl (t_ari rfl rfl rfl rfl rfl (by omega) (t_ari rfl rfl rfl rfl rfl (by omega) (t_move rfl rfl rfl ?_)))))))))))))))))))
     have hq1 := div_rng (d := max ((nth v.runs k).to - (nth v.runs k).frm) ((nth v.runs k).frm - (nth v.runs k).to)) (s := pck (nth v.runs k).sp (prt tp k)) (by omega) (by omega)
     refine t_quo rfl rfl rfl rfl (by omega) (by omega) (t_ari rfl rfl rfl rfl rfl (by omega) (t_assign rfl rfl rfl (t_nil' (hK31 _ _ (c_region (t_move rfl rfl rfl (t_ari rfl rfl rfl rfl rfl (by omega) (t_assign rfl rfl rfl (t_nil' ?_)))))))))
     exact hK21 (k + 1, ((m + (pck ((nth v.runs k).wt) (prt tw k))) + ((((60 * (max (((nth v.runs k).to) - ((nth v.runs k).frm)) (((nth v.runs k).frm) - ((nth v.runs k).to)))) + (pck ((nth v.runs k).sp) (prt tp k))) - 1) / (pck ((nth v.runs k).sp) (prt tp k))))) _ _ (by show v.runs.length - (k + 1) < v.runs.length - k; omega) ⟨rfl, rfl, rfl, rfl, rfl, trivial⟩ ⟨((((u23.next u37 (fun _ _ h => h.elim)).next u40 (fun i hi (h : i = bk34) => show False by first | omega | assumption)).next u109 (fun _ _ h => h.elim)).next u155 (fun _ _ h => h.elim)), (by omega), (tg_next hinv (by omega) g33 g54 (fun h => g76 (decide_eq_decide.2 h.1))), (by show (0 : Int) ≤ ((m + (pck ((nth v.runs k).wt) (prt tw k))) + ((((60 * (max (((nth v.runs k).to) - ((nth v.runs k).frm)) (((nth v.runs k).frm) - ((nth v.runs k).to)))) + (pck ((nth v.runs k).sp) (prt tp k))) - 1) / (pck ((nth v.runs k).sp) (prt tp k)))) ∧ (((m + (pck ((nth v.runs k).wt) (prt tw k))) + ((((60 * (max (((nth v.runs k).to) - ((nth v.runs k).frm)) (((nth v.runs k).frm) - ((nth v.runs k).to)))) + (pck ((nth v.runs k).sp) (prt tp k))) - 1) / (pck ((nth v.runs k).sp) (prt tp k)))) : Int) ≤ _; omega)⟩
 ·
  refine c_exit (hK19 _ _ (c_seq fun K162 hK162 => (c_region (t_assign rfl rfl rfl (t_nil' (hK162 _ _ (c_ret (f_ret1 (v := .int .i64 (-1)) Try.results51 rfl ?_))))))))
  exact ⟨congrArg (Value.int .i64) (by rw [tg_end hinv (by omega)]), E27⟩

end Go.Proofs.Ytmicjleiheoieaa
