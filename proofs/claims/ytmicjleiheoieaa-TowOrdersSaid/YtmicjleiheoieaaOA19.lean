/-
  Contracts of the reference's functions on voyages and arrivals. Conditions: none.
-/
import Derived.Test.YtmicjleiheoieaaOA17
namespace Go.Proofs.Ytmicjleiheoieaa
open Go Go.RowKit


def prv (v : Voy) (k : Nat) : Int := if k = 0 then frst v else (nth v.runs (k - 1)).to
theorem prv_succ (v : Voy) (k : Nat) : prv v (k + 1) = (nth v.runs k).to := by simp [prv]
def basR (r : Run) : Prop := ((0 ≤ r.frm ∧ r.frm ≤ 100000) ∧ (0 ≤ r.to ∧ r.to ≤ 100000)) ∧ r.frm ≠ r.to ∧ (r.sp.lo ≤ r.sp.hi ∧ (1 ≤ r.sp.lo ∧ r.sp.lo ≤ 400) ∧ (1 ≤ r.sp.hi ∧ r.sp.hi ≤ 400)) ∧ (r.wt.lo ≤ r.wt.hi ∧ (0 ≤ r.wt.lo ∧ r.wt.lo ≤ 5000) ∧ (0 ≤ r.wt.hi ∧ r.wt.hi ≤ 5000))
theorem okRun_iff {v : Voy} {k : Nat} (hp : 0 < v.runs.length) (hne : 0 < k → (nth v.runs 0).to ≠ (nth v.runs 0).frm) : okRun (prv v k) (way0 v) (nth v.runs k) = true ↔
    basR (nth v.runs k) ∧ (0 < k → (nth v.runs k).frm = (nth v.runs (k - 1)).to ∧ ((nth v.runs k).frm < (nth v.runs k).to ↔ (nth v.runs 0).frm < (nth v.runs 0).to)) := by
  rw [way0_eq hp, frst_eq hp]
  unfold okRun basR
  rw [decide_eq_true_eq]
  by_cases h0 : k = 0
  · subst h0
    unfold prv
    rw [if_pos rfl, frst_eq hp]
    generalize nth v.runs 0 = r
    constructor
    · intro h; exact ⟨⟨h.1, fun e => h.2.2.1 e.symm, h.2.2.2.2⟩, fun h => absurd h (by omega)⟩
    · intro h; exact ⟨h.1.1, rfl, fun e => h.1.2.1 e.symm, rfl, h.1.2.2⟩
  · have hn := hne (by omega)
    unfold prv
    rw [if_neg h0]
    generalize nth v.runs k = r
    generalize (nth v.runs (k - 1)).to = a
    generalize nth v.runs 0 = f at hn ⊢
    unfold sgn
    constructor
    · intro ⟨h1, h2, h3, h4, h5⟩
      refine ⟨⟨h1, fun e => h3 (e.symm.trans h2), h5⟩, fun _ => ⟨h2, ?_⟩⟩
      split at h4 <;> split at h4 <;> omega
    · intro ⟨⟨h1, h2, h3⟩, h4⟩
      obtain ⟨h5, h6⟩ := h4 (by omega)
      refine ⟨h1, h5, fun e => h2 (h5.trans e.symm), ?_, h3⟩
      split <;> split <;> omega

set_option maxHeartbeats 4000000 in
theorem rVoyage_c (v : Voy) (ao : Option Addr) (b o cap : Nat) (w0 : World) (hs : Sl encRun 6 w0 ao b o v.runs) (hl : v.runs.length ≤ 1000000) :
    CallsV Try.prog 32 [.agg #[.int .i64 v.st.lo, .int .i64 v.st.hi, .slice ao ((v.runs).length) cap, .int .i64 v.len, .int .i64 v.wid]] w0 (fun x w' => x = .bool (okVoy v) ∧ Ext w0 w') := by
 have E0 := Upd.refl (fun _ => False) w0
 refine f_enter (N := 102) Try.func32 rfl rfl rfl ?_
 change WC _ _ _ _ _ _ [(0, .agg #[.int .i64 v.st.lo, .int .i64 v.st.hi, .slice ao ((v.runs).length) cap, .int .i64 v.len, .int .i64 v.wid])] _
 refine c_seq fun K1 hK1 => (c_region (t_box (cs := [.int .i64 v.st.lo, .int .i64 v.st.hi, .slice ao ((v.runs).length) cap, .int .i64 v.len, .int .i64 v.wid]) rfl rfl rfl rfl (fun bk2 w3 ebk2 sbk2 B4 u5 => ?_)))
 have zu5 := u5.size
 have E6 := E0.next u5 (fun _ _ h => h.elim)
 refine t_assign rfl rfl rfl (t_nil' (hK1 _ _ (c_seq fun K7 hK7 => (c_seq fun K8 hK8 => (c_region (t_field Try.underlying48 rfl Try.sizeOf45 (0) rfl rfl rfl rfl (t_loadN (vs := [.int .i64 v.st.lo, .int .i64 v.st.hi]) Try.isAgg45 Try.sizeOf45 rfl rfl rfl (B4.at.sub 0 2) rfl (t_call (vs := [.agg #[.int .i64 v.st.lo, .int .i64 v.st.hi], .int .i64 0, .int .i64 1000000]) own71 rfl rfl rfl rfl (rValid_c v.st.lo v.st.hi 0 1000000 _) (fun v9 w10 r12 => ?_)))))))))
 obtain ⟨rfl, u11⟩ := r12
 have zu11 := u11.size
 have E13 := E6.next u11 (fun _ _ h => h.elim)
 refine t_notp rfl rfl rfl (t_move rfl rfl rfl (t_splitp 9 rfl (fun g9 => ?_) (fun g9 => ?_)))
 ·
  refine t_skip rfl rfl rfl (t_skip rfl rfl rfl (t_skip rfl rfl rfl (t_skip rfl rfl rfl (t_skip rfl rfl rfl (t_pick_t rfl rfl rfl rfl (t_move rfl rfl rfl (t_skip rfl rfl rfl (t_skip rfl rfl rfl (t_skip rfl rfl rfl (t_skip rfl rfl rfl (t_pick_t rfl rfl rfl rfl (t_move rfl rfl rfl (t_skip rfl rfl rfl (t_skip rfl rfl rfl (t_skip rfl rfl rfl (t_skip rfl rfl rfl (t_pick_t rfl rfl rfl rfl (t_nil' (hK8 _ _ (c_cond_t rfl (c_seq fun K14 hK14 => (c_region (t_assign rfl rfl rfl ?_)))))))))))))))))))))))
  refine t_nil' (hK14 _ _ (c_ret (f_ret1 (v := .bool false) Try.results32 rfl ?_)))
  exact ⟨by rw [okVoy_bad (by rw [chk_bad0 (by unfold okVoy0; rw [decide_eq_false_iff_not]; intro h; omega)]; decide)], E13⟩
 ·
  refine t_field Try.underlying48 rfl Try.sizeOf46 (2) rfl rfl rfl rfl ?_
  have B15 := (B4.keep u11 (fun h => h))
  refine t_load Try.isAgg46 rfl rfl rfl (B15.get rfl) (t_len Try.underlying46 rfl rfl rfl rfl (t_call (vs := [.int .i64 ((v.runs).length : Int), .int .i64 1, .int .i64 20]) own60 rfl rfl rfl rfl (rIn_c ((v.runs).length : Int) 1 20 _) (fun v16 w17 r19 => ?_)))
  obtain ⟨rfl, u18⟩ := r19
  have zu18 := u18.size
  have E20 := E13.next u18 (fun _ _ h => h.elim)
  refine t_notp rfl rfl rfl (t_pick_f rfl rfl rfl rfl (t_move rfl rfl rfl (t_splitp 16 rfl (fun g16 => ?_) (fun g16 => ?_))))
  ·
   refine t_skip rfl rfl rfl (t_skip rfl rfl rfl (t_skip rfl rfl rfl (t_skip rfl rfl rfl (t_pick_t rfl rfl rfl rfl (t_move rfl rfl rfl (t_skip rfl rfl rfl (t_skip rfl rfl rfl (t_skip rfl rfl rfl (t_skip rfl rfl rfl (t_pick_t rfl rfl rfl rfl (t_nil' (hK8 _ _ (c_cond_t rfl (c_seq fun K21 hK21 => (c_region (t_assign rfl rfl rfl (t_nil' (hK21 _ _ (c_ret (f_ret1 (v := .bool false) Try.results32 rfl ?_))))))))))))))))))))
   exact ⟨by rw [okVoy_bad (by rw [chk_bad0 (by unfold okVoy0; rw [decide_eq_false_iff_not]; intro h; omega)]; decide)], E20⟩
  ·
   refine t_field Try.underlying48 rfl Try.sizeOf3 (3) rfl rfl rfl rfl ?_
   have B22 := (B15.keep u18 (fun h => h))
   refine t_load Try.isAgg3 rfl rfl rfl (B22.get rfl) (t_call (vs := [.int .i64 v.len, .int .i64 1, .int .i64 3000]) own60 rfl rfl rfl rfl (rIn_c v.len 1 3000 _) (fun v23 w24 r26 => ?_))
   obtain ⟨rfl, u25⟩ := r26
   have zu25 := u25.size
   have E27 := E20.next u25 (fun _ _ h => h.elim)
   refine t_notp rfl rfl rfl (t_pick_f rfl rfl rfl rfl (t_move rfl rfl rfl (t_splitp 22 rfl (fun g22 => ?_) (fun g22 => ?_))))
   ·
    refine t_skip rfl rfl rfl (t_skip rfl rfl rfl (t_skip rfl rfl rfl (t_skip rfl rfl rfl (t_pick_t rfl rfl rfl rfl (t_nil' (hK8 _ _ (c_cond_t rfl (c_seq fun K28 hK28 => (c_region (t_assign rfl rfl rfl (t_nil' (hK28 _ _ (c_ret (f_ret1 (v := .bool false) Try.results32 rfl ?_))))))))))))))
    exact ⟨by rw [okVoy_bad (by rw [chk_bad0 (by unfold okVoy0; rw [decide_eq_false_iff_not]; intro h; omega)]; decide)], E27⟩
   ·
    refine t_field Try.underlying48 rfl Try.sizeOf3 (4) rfl rfl rfl rfl ?_
    have B29 := (B22.keep u25 (fun h => h))
    refine t_load Try.isAgg3 rfl rfl rfl (B29.get rfl) (t_call (vs := [.int .i64 v.wid, .int .i64 1, .int .i64 200]) own60 rfl rfl rfl rfl (rIn_c v.wid 1 200 _) (fun v30 w31 r33 => ?_))
    obtain ⟨rfl, u32⟩ := r33
    have zu32 := u32.size
    have E34 := E27.next u32 (fun _ _ h => h.elim)
    refine t_notp rfl rfl rfl (t_pick_f rfl rfl rfl rfl (t_nil' (hK8 _ _ (c_condp rfl (fun g27 => ?_) (fun g27 => ?_)))))
    ·
     refine c_seq fun K35 hK35 => (c_region (t_assign rfl rfl rfl (t_nil' (hK35 _ _ (c_ret (f_ret1 (v := .bool false) Try.results32 rfl ?_))))))
     exact ⟨by rw [okVoy_bad (by rw [chk_bad0 (by unfold okVoy0; rw [decide_eq_false_iff_not]; intro h; omega)]; decide)], E34⟩
    ·
     refine c_skip (hK7 _ _ (c_seq fun K36 hK36 => (c_seq fun K37 hK37 => (c_region (t_assign rfl rfl rfl (t_nil' (hK37 _ _ (c_block ?_))))))))
     have hp : 0 < v.runs.length := by omega
     have h0 : okVoy0 v = true := by unfold okVoy0; rw [decide_eq_true_eq]; omega
     refine c_loop (γ := Nat) (fun k => [(1, .pointer (some ⟨bk2, 0, none⟩)), (3, .int .i64 (k : Int))]) (fun k w => Upd (fun _ => False) w31 w ∧ (k ≤ v.runs.length) ∧ (okRuns (way0 v) (frst v) v.runs = okRuns (way0 v) (prv v k) (v.runs.drop k)) ∧ (0 < k → (nth v.runs 0).to ≠ (nth v.runs 0).frm)) (fun k => v.runs.length - k) 0 ⟨rfl, rfl, trivial⟩ ⟨Upd.refl _ _, Nat.zero_le _, rfl, (by omega)⟩ ?_
     intro k w39 hW K38 hK38
     obtain ⟨u40, I41, I42, I43⟩ := hW
     have zu40 := u40.size
     have E44 := E34.next u40 (fun _ _ h => h.elim)
     have hk := I41; clear I41
     have hinv := I42; clear I42
     have hne := I43; clear I43
     refine c_seq fun K45 hK45 => (c_seq fun K46 hK46 => (c_region (t_move rfl rfl rfl (t_field Try.underlying48 rfl Try.sizeOf46 (2) rfl rfl rfl rfl ?_))))
     have B47 := ((B29.keep u32 (fun h => h)).keep u40 (fun h => h))
     refine t_load Try.isAgg46 rfl rfl rfl (B47.get rfl) (t_len Try.underlying46 rfl rfl rfl rfl (t_cmp rfl rfl rfl rfl rfl (t_nil' (hK46 _ _ (c_condp rfl (fun g32 => ?_) (fun g32 => ?_))))))
     ·
      refine c_skip (hK45 _ _ (c_seq fun K48 hK48 => (c_block (c_seq fun K49 hK49 => (c_region (t_field Try.underlying48 rfl Try.sizeOf46 (2) rfl rfl rfl rfl (t_load Try.isAgg46 rfl rfl rfl (B47.get rfl) (t_move rfl rfl rfl ?_))))))))
      have i50 : k < v.runs.length := (by omega)
      refine t_index (j := k) Try.underlying46 Try.sizeOf59 rfl rfl rfl rfl ((hs.keep E44 (fun _ h => h)).addr (by omega)) rfl i50 (t_loadN (vs := [.int .i64 ((nth v.runs k).frm), .int .i64 ((nth v.runs k).to), .int .i64 ((nth v.runs k).sp.lo), .int .i64 ((nth v.runs k).sp.hi), .int .i64 ((nth v.runs k).wt.lo), .int .i64 ((nth v.runs k).wt.hi)]) Try.isAgg59 Try.sizeOf59 rfl rfl rfl (((hs.keep E44 (fun _ h => h)).at_ k (by omega)).sub 0 6) rfl (t_alloc (cs := [.int .i64 0, .int .i64 0, .int .i64 0, .int .i64 0, .int .i64 0, .int .i64 0]) Try.zeroValue59 rfl rfl rfl (fun bk51 w52 ebk51 sbk51 B53 u54 => ?_)))
      have zu54 := u54.size
      have E55 := E44.next u54 (fun _ _ h => h.elim)
      refine t_store (vs := [.int .i64 ((nth v.runs k).frm), .int .i64 ((nth v.runs k).to), .int .i64 ((nth v.runs k).sp.lo), .int .i64 ((nth v.runs k).sp.hi), .int .i64 ((nth v.runs k).wt.lo), .int .i64 ((nth v.runs k).wt.hi)]) Try.sizeOf59 rfl rfl rfl B53 rfl rfl (Nat.le_of_ble_eq_true rfl) (by simp [Value.oneCell']) (fun w56 sw56 B58 u57 => ?_)
      have zu57 := u57.size
      have E59 := E55.next u57 (fun i hi (h : i = bk51) => show False by first | omega | assumption)
      have B58 : Blk w56 bk51 59 [.int .i64 ((nth v.runs k).frm), .int .i64 ((nth v.runs k).to), .int .i64 ((nth v.runs k).sp.lo), .int .i64 ((nth v.runs k).sp.hi), .int .i64 ((nth v.runs k).wt.lo), .int .i64 ((nth v.runs k).wt.hi)] := B58
      refine t_nil' (hK49 _ _ (c_seq fun K60 hK60 => (c_seq fun K61 hK61 => (c_region (t_field Try.underlying59 rfl Try.sizeOf3 (0) rfl rfl rfl rfl (t_load Try.isAgg3 rfl rfl rfl (B58.get rfl) (t_call (vs := [.int .i64 ((nth v.runs k).frm), .int .i64 0, .int .i64 100000]) own60 rfl rfl rfl rfl (rIn_c ((nth v.runs k).frm) 0 100000 _) (fun v62 w63 r65 => ?_))))))))
      obtain ⟨rfl, u64⟩ := r65
      have zu64 := u64.size
      have E66 := E59.next u64 (fun _ _ h => h.elim)
      refine t_notp rfl rfl rfl (t_move rfl rfl rfl (t_splitp 44 rfl (fun g44 => ?_) (fun g44 => ?_)))
      ·
       refine t_skip rfl rfl rfl (t_skip rfl rfl rfl (t_skip rfl rfl rfl (t_skip rfl rfl rfl (t_pick_t rfl rfl rfl rfl (t_move rfl rfl rfl (t_skip rfl rfl rfl (t_skip rfl rfl rfl (t_skip rfl rfl rfl (t_skip rfl rfl rfl (t_skip rfl rfl rfl (t_pick_t rfl rfl rfl rfl (t_move rfl rfl rfl (t_skip rfl rfl rfl (t_skip rfl rfl rfl (t_skip rfl rfl rfl (t_skip rfl rfl rfl (t_pick_t rfl rfl rfl rfl (t_move rfl rfl rfl (t_skip rfl rfl rfl (t_skip rfl rfl rfl (t_skip rfl rfl rfl (t_skip rfl rfl rfl (t_pick_t rfl rfl rfl rfl ?_)))))))))))))))))))))))
       refine t_nil' (hK61 _ _ (c_cond_t rfl (c_seq fun K67 hK67 => (c_region (t_assign rfl rfl rfl (t_nil' (hK67 _ _ (c_ret (f_ret1 (v := .bool false) Try.results32 rfl ?_)))))))))
       have hbad : okRun (prv v k) (way0 v) (nth v.runs k) = false := by
        rw [Bool.eq_false_iff]; intro h
        have hb := (okRun_iff hp hne).1 h
        have hc := hb.1; unfold basR at hc; omega
       exact ⟨by rw [okVoy_bad (by rw [chk_bad hinv (by omega) hbad]; decide)], E66⟩
      ·
       refine t_field Try.underlying59 rfl Try.sizeOf3 (1) rfl rfl rfl rfl ?_
       have B68 := (B58.keep u64 (fun h => h))
       refine t_load Try.isAgg3 rfl rfl rfl (B68.get rfl) (t_call (vs := [.int .i64 ((nth v.runs k).to), .int .i64 0, .int .i64 100000]) own60 rfl rfl rfl rfl (rIn_c ((nth v.runs k).to) 0 100000 _) (fun v69 w70 r72 => ?_))
       obtain ⟨rfl, u71⟩ := r72
       have zu71 := u71.size
       have E73 := E66.next u71 (fun _ _ h => h.elim)
       refine t_notp rfl rfl rfl (t_pick_f rfl rfl rfl rfl (t_move rfl rfl rfl (t_splitp 50 rfl (fun g50 => ?_) (fun g50 => ?_))))
       ·
        refine t_skip rfl rfl rfl (t_skip rfl rfl rfl (t_skip rfl rfl rfl (t_skip rfl rfl rfl (t_skip rfl rfl rfl (t_pick_t rfl rfl rfl rfl (t_move rfl rfl rfl (t_skip rfl rfl rfl (t_skip rfl rfl rfl (t_skip rfl rfl rfl (t_skip rfl rfl rfl (t_pick_t rfl rfl rfl rfl (t_move rfl rfl rfl (t_skip rfl rfl rfl (t_skip rfl rfl rfl (t_skip rfl rfl rfl (t_skip rfl rfl rfl (t_pick_t rfl rfl rfl rfl (t_nil' (hK61 _ _ (c_cond_t rfl (c_seq fun K74 hK74 => (c_region (t_assign rfl rfl rfl ?_)))))))))))))))))))))))
        refine t_nil' (hK74 _ _ (c_ret (f_ret1 (v := .bool false) Try.results32 rfl ?_)))
        have hbad : okRun (prv v k) (way0 v) (nth v.runs k) = false := by
         rw [Bool.eq_false_iff]; intro h
         have hb := (okRun_iff hp hne).1 h
         have hc := hb.1; unfold basR at hc; omega
        exact ⟨by rw [okVoy_bad (by rw [chk_bad hinv (by omega) hbad]; decide)], E73⟩
       ·
        refine t_field Try.underlying59 rfl Try.sizeOf3 (0) rfl rfl rfl rfl ?_
        have B75 := (B68.keep u71 (fun h => h))
        refine t_load Try.isAgg3 rfl rfl rfl (B75.get rfl) (t_field Try.underlying59 rfl Try.sizeOf3 (1) rfl rfl rfl rfl (t_load Try.isAgg3 rfl rfl rfl (B75.get rfl) (t_cmp rfl rfl rfl rfl rfl (t_pick_f rfl rfl rfl rfl (t_move rfl rfl rfl (t_splitp 57 rfl (fun g57 => ?_) (fun g57 => ?_)))))))
        ·
         refine t_skip rfl rfl rfl (t_skip rfl rfl rfl (t_skip rfl rfl rfl (t_skip rfl rfl rfl (t_pick_t rfl rfl rfl rfl (t_move rfl rfl rfl (t_skip rfl rfl rfl (t_skip rfl rfl rfl (t_skip rfl rfl rfl (t_skip rfl rfl rfl (t_pick_t rfl rfl rfl rfl (t_nil' (hK61 _ _ (c_cond_t rfl (c_seq fun K76 hK76 => (c_region (t_assign rfl rfl rfl (t_nil' (hK76 _ _ (c_ret (f_ret1 (v := .bool false) Try.results32 rfl ?_))))))))))))))))))))
         have hbad : okRun (prv v k) (way0 v) (nth v.runs k) = false := by
          rw [Bool.eq_false_iff]; intro h
          have hb := (okRun_iff hp hne).1 h
          have hc := hb.1; unfold basR at hc; omega
         exact ⟨by rw [okVoy_bad (by rw [chk_bad hinv (by omega) hbad]; decide)], E73⟩
        ·
         refine t_field Try.underlying59 rfl Try.sizeOf45 (2) rfl rfl rfl rfl (t_loadN (vs := [.int .i64 ((nth v.runs k).sp.lo), .int .i64 ((nth v.runs k).sp.hi)]) Try.isAgg45 Try.sizeOf45 rfl rfl rfl (B75.at.sub 2 2) rfl (t_call (vs := [.agg #[.int .i64 ((nth v.runs k).sp.lo), .int .i64 ((nth v.runs k).sp.hi)], .int .i64 1, .int .i64 400]) own71 rfl rfl rfl rfl (rValid_c ((nth v.runs k).sp.lo) ((nth v.runs k).sp.hi) 1 400 _) (fun v77 w78 r80 => ?_)))
         obtain ⟨rfl, u79⟩ := r80
         have zu79 := u79.size
         have E81 := E73.next u79 (fun _ _ h => h.elim)
         refine t_notp rfl rfl rfl (t_pick_f rfl rfl rfl rfl (t_move rfl rfl rfl (t_splitp 63 rfl (fun g63 => ?_) (fun g63 => ?_))))
         ·
          refine t_skip rfl rfl rfl (t_skip rfl rfl rfl (t_skip rfl rfl rfl (t_skip rfl rfl rfl (t_pick_t rfl rfl rfl rfl (t_nil' (hK61 _ _ (c_cond_t rfl (c_seq fun K82 hK82 => (c_region (t_assign rfl rfl rfl (t_nil' (hK82 _ _ (c_ret (f_ret1 (v := .bool false) Try.results32 rfl ?_))))))))))))))
          have hbad : okRun (prv v k) (way0 v) (nth v.runs k) = false := by
           rw [Bool.eq_false_iff]; intro h
           have hb := (okRun_iff hp hne).1 h
           have hc := hb.1; unfold basR at hc; omega
          exact ⟨by rw [okVoy_bad (by rw [chk_bad hinv (by omega) hbad]; decide)], E81⟩
         ·
          refine t_field Try.underlying59 rfl Try.sizeOf45 (4) rfl rfl rfl rfl ?_
          have B83 := (B75.keep u79 (fun h => h))
          refine t_loadN (vs := [.int .i64 ((nth v.runs k).wt.lo), .int .i64 ((nth v.runs k).wt.hi)]) Try.isAgg45 Try.sizeOf45 rfl rfl rfl (B83.at.sub 4 2) rfl (t_call (vs := [.agg #[.int .i64 ((nth v.runs k).wt.lo), .int .i64 ((nth v.runs k).wt.hi)], .int .i64 0, .int .i64 5000]) own71 rfl rfl rfl rfl (rValid_c ((nth v.runs k).wt.lo) ((nth v.runs k).wt.hi) 0 5000 _) (fun v84 w85 r87 => ?_))
          obtain ⟨rfl, u86⟩ := r87
          have zu86 := u86.size
          have E88 := E81.next u86 (fun _ _ h => h.elim)
          refine t_notp rfl rfl rfl (t_pick_f rfl rfl rfl rfl (t_nil' (hK61 _ _ (c_condp rfl (fun g68 => ?_) (fun g68 => ?_)))))
          ·
           refine c_seq fun K89 hK89 => (c_region (t_assign rfl rfl rfl (t_nil' (hK89 _ _ (c_ret (f_ret1 (v := .bool false) Try.results32 rfl ?_))))))
           have hbad : okRun (prv v k) (way0 v) (nth v.runs k) = false := by
            rw [Bool.eq_false_iff]; intro h
            have hb := (okRun_iff hp hne).1 h
            have hc := hb.1; unfold basR at hc; omega
           exact ⟨by rw [okVoy_bad (by rw [chk_bad hinv (by omega) hbad]; decide)], E88⟩
          ·
           refine c_skip (hK60 _ _ (c_seq fun K90 hK90 => ?_))
           have B91 := ((((((B47.keep u54 (fun h => h)).keep u57 (show ¬ (bk2 = bk51) by first | omega | assumption)).keep u64 (fun h => h)).keep u71 (fun h => h)).keep u79 (fun h => h)).keep u86 (fun h => h))
           have B92 := (B83.keep u86 (fun h => h))
           by_cases g71 : 0 < (k : Int)
           ·
            by_cases g82 : (nth v.runs k).frm ≠ (nth v.runs (k - 1)).to
            ·
             refine WC.weak [(1, .pointer (some ⟨bk2, 0, none⟩)), (3, .int .i64 (k : Int)), (4, .pointer (some ⟨bk51, 0, none⟩))] ⟨rfl, rfl, rfl, trivial⟩ (c_drawn follows 33 [some (69, some (.int .i64 (k : Int))), some (70, some (.bool (decide (0 < (k : Int))))), some (71, some (.bool true)), some (72, some (.pointer (some ⟨bk51, 0, none⟩))), some (73, some (.int .i64 ((nth v.runs k).frm))), some (74, some (.pointer (some ⟨bk2, 2, none⟩))), some (75, some (.slice ao ((v.runs).length) cap)), some (76, some (.int .i64 (k : Int))), some (77, some (.int .i64 ((k : Int) - 1))), some (78, some (.pointer (some ⟨b, o + (k - 1) * 6, none⟩))), some (79, some (.pointer (some ⟨b, o + (k - 1) * 6 + 1, none⟩))), some (80, some (.int .i64 ((nth v.runs (k - 1)).to))), some (81, some (.bool (decide ((nth v.runs k).frm ≠ (nth v.runs (k - 1)).to)))), some (82, some (.bool true)), some (83, some (undef)), some (84, some (undef)), some (85, some (undef)), some (86, some (undef)), some (87, some (undef)), some (88, some (undef)), some (89, some (undef)), some (90, some (undef)), some (91, some (undef)), some (92, some (undef)), some (93, some (undef)), some (94, some (undef)), some (95, some (undef)), some (96, some (undef)), some (97, some (undef)), some (98, some (undef)), some (99, some (undef)), some (100, some (.bool true)), some (101, some (.bool true))] [[],[0],[1],[2],[3,2],[2],[5,2],[2],[7,2],[6,8,2],[9,2],[10,2],[4,11,2],[12,2,2],[13],[14,13],[13],[16,13],[15,17,13],[13],[19,13],[20,13],[21,13],[22,13],[13],[24,13],[25,13],[26,13],[27,13],[23,28,13],[18,29,13],[13,30,2],[2,31]] (fun _ _ w => Upd (fun _ => False) w85 w) rfl rfl rfl (by kernel_rfl) (by kernel_rfl) (Upd.drew _).to ⟨?_, ?_, ?_, ?_, ?_, ?_, ?_, ?_, ?_, ?_, ?_, ?_, ?_, ?_, ?_, ?_, ?_, ?_, ?_, ?_, ?_, ?_, ?_, ?_, ?_, ?_, ?_, ?_, ?_, ?_, ?_, ?_, ?_, trivial⟩ ?_)
             · exact pz rfl rfl rfl rfl fun _ _ _ h => h
             · exact pz rfl rfl rfl rfl fun _ _ _ h => h
             · exact fun D ρ w _ _ _ hW => ⟨[(70, .bool (decide (0 < (k : Int))))], ⟨fi 1 rfl rfl rfl, trivial⟩, fun Lr => t_move rfl rfl rfl (t_samehd (v := .bool true) (by first | exact congrArg Value.bool (decide_eq_true g71) | exact congrArg Value.bool g71 | simp [g71]) (dz rfl hW))⟩
             · exact pzf Try.underlying59 rfl Try.sizeOf3 (0) rfl rfl rfl rfl rfl fun _ _ _ h => h
             ·
              intro D ρ w95 hcD hnD hdD hW
              have zhW := hW.size
              refine ⟨_, kf_fr [71, 72], fun Lr => ?_⟩
              have B98 := (B92.keep hW (fun h => h))
              refine t_load Try.isAgg3 rfl rfl rfl (B98.get rfl) ?_
              exact dz rfl hW
             · exact pzf Try.underlying48 rfl Try.sizeOf46 (2) rfl rfl rfl rfl rfl fun _ _ _ h => h
             ·
              intro D ρ w99 hcD hnD hdD hW
              have zhW := hW.size
              refine ⟨_, kf_fr [71, 74], fun Lr => ?_⟩
              have B102 := (B91.keep hW (fun h => h))
              refine t_load Try.isAgg46 rfl rfl rfl (B102.get rfl) ?_
              exact dz rfl hW
             · exact pz rfl rfl rfl rfl fun _ _ _ h => h
             ·
              intro D ρ w103 hcD hnD hdD hW
              have zhW := hW.size
              refine ⟨_, kf_fr [71, 76], fun Lr => ?_⟩
              refine t_ari rfl rfl rfl rfl rfl (by omega) ?_
              exact dz rfl hW
             ·
              intro D ρ w106 hcD hnD hdD hW
              have zhW := hW.size
              have E108 := E88.next hW (fun _ _ h => h.elim)
              refine ⟨_, kf_fr [71, 75, 77], fun Lr => ?_⟩
              have i109 : (k - 1) < v.runs.length := (by omega)
              refine t_index (j := (k - 1)) Try.underlying46 Try.sizeOf59 rfl rfl rfl rfl ((hs.keep E108 (fun _ h => h)).addr (by omega)) (by omega) i109 ?_
              exact dz rfl hW
             · exact pzf Try.underlying59 rfl Try.sizeOf3 (o + (k - 1) * 6 + 1) rfl rfl rfl rfl rfl fun _ _ _ h => h
             ·
              intro D ρ w110 hcD hnD hdD hW
              have zhW := hW.size
              have E112 := E88.next hW (fun _ _ h => h.elim)
              refine ⟨_, kf_fr [71, 79], fun Lr => ?_⟩
              refine t_load Try.isAgg3 rfl rfl rfl (((hs.keep E112 (fun _ h => h)).at_ (k - 1) (by omega)) 1 _ rfl) ?_
              exact dz rfl hW
             · exact pz rfl rfl rfl rfl fun _ _ _ h => h
             · exact fun D ρ w _ _ _ hW => ⟨[(71, .bool true), (81, .bool (decide ((nth v.runs k).frm ≠ (nth v.runs (k - 1)).to)))], ⟨fi 2 rfl rfl rfl, fi 12 rfl rfl rfl, trivial⟩, fun Lr => t_move rfl rfl rfl (t_samehd (v := .bool true) (by first | exact congrArg Value.bool (decide_eq_true g82) | exact congrArg Value.bool g82 | simp [g82]) (dz rfl hW))⟩
             · exact pz rfl rfl rfl rfl fun _ _ _ h => h
             · exact pz rfl rfl rfl rfl fun _ _ _ h => h
             · exact pz rfl rfl rfl rfl fun _ _ _ h => h
             · exact pz rfl rfl rfl rfl fun _ _ _ h => h
             · exact pz rfl rfl rfl rfl fun _ _ _ h => h
             · exact pz rfl rfl rfl rfl fun _ _ _ h => h
             · exact pz rfl rfl rfl rfl fun _ _ _ h => h
             · exact pz rfl rfl rfl rfl fun _ _ _ h => h
             · exact pz rfl rfl rfl rfl fun _ _ _ h => h
             · exact pz rfl rfl rfl rfl fun _ _ _ h => h
             · exact pz rfl rfl rfl rfl fun _ _ _ h => h
             · exact pz rfl rfl rfl rfl fun _ _ _ h => h
             · exact pz rfl rfl rfl rfl fun _ _ _ h => h
             · exact pz rfl rfl rfl rfl fun _ _ _ h => h
             · exact pz rfl rfl rfl rfl fun _ _ _ h => h
             · exact pz rfl rfl rfl rfl fun _ _ _ h => h
             · exact pz rfl rfl rfl rfl fun _ _ _ h => h
             · exact pz rfl rfl rfl rfl fun _ _ _ h => h
             · exact pz rfl rfl rfl rfl fun _ _ _ h => h
             intro ρ w113 hW
             have u114 : Upd (fun _ => False) w85 w113 := hW
             have zu114 := u114.size
             have E115 := E88.next u114 (fun _ _ h => h.elim)
             refine QK.weak [(1, .pointer (some ⟨bk2, 0, none⟩)), (3, .int .i64 (k : Int)), (101, .bool true)] ⟨rfl, rfl, rfl, trivial⟩ (hK90 _ _ (c_cond_t rfl (c_seq fun K116 hK116 => (c_region (t_assign rfl rfl rfl (t_nil' (hK116 _ _ (c_ret (f_ret1 (v := .bool false) Try.results32 rfl ?_)))))))))
             have hbad : okRun (prv v k) (way0 v) (nth v.runs k) = false := by
              rw [Bool.eq_false_iff]; intro h
              have hb := (okRun_iff hp hne).1 h
              have := (hb.2 (by omega)).1; omega
             exact ⟨by rw [okVoy_bad (by rw [chk_bad hinv (by omega) hbad]; decide)], E115⟩
            ·
             refine WC.weak [(1, .pointer (some ⟨bk2, 0, none⟩)), (3, .int .i64 (k : Int)), (4, .pointer (some ⟨bk51, 0, none⟩))] ⟨rfl, rfl, rfl, trivial⟩ (c_drawn follows 33 [some (69, some (.int .i64 (k : Int))), some (70, some (.bool (decide (0 < (k : Int))))), some (71, some (.bool true)), some (72, some (.pointer (some ⟨bk51, 0, none⟩))), some (73, some (.int .i64 ((nth v.runs k).frm))), some (74, some (.pointer (some ⟨bk2, 2, none⟩))), some (75, some (.slice ao ((v.runs).length) cap)), some (76, some (.int .i64 (k : Int))), some (77, some (.int .i64 ((k : Int) - 1))), some (78, some (.pointer (some ⟨b, o + (k - 1) * 6, none⟩))), some (79, some (.pointer (some ⟨b, o + (k - 1) * 6 + 1, none⟩))), some (80, some (.int .i64 ((nth v.runs (k - 1)).to))), some (81, some (.bool (decide ((nth v.runs k).frm ≠ (nth v.runs (k - 1)).to)))), some (82, some (.bool false)), some (83, some (.pointer (some ⟨bk51, 1, none⟩))), some (84, some (.int .i64 ((nth v.runs k).to))), some (85, some (.pointer (some ⟨bk51, 0, none⟩))), some (86, some (.int .i64 ((nth v.runs k).frm))), some (87, some (.bool (decide ((nth v.runs k).frm < (nth v.runs k).to)))), some (88, some (.pointer (some ⟨bk2, 2, none⟩))), some (89, some (.slice ao ((v.runs).length) cap)), some (90, some (.pointer (some ⟨b, o + 0 * 6, none⟩))), some (91, some (.pointer (some ⟨b, o + 0 * 6 + 1, none⟩))), some (92, some (.int .i64 ((nth v.runs 0).to))), some (93, some (.pointer (some ⟨bk2, 2, none⟩))), some (94, some (.slice ao ((v.runs).length) cap)), some (95, some (.pointer (some ⟨b, o + 0 * 6, none⟩))), some (96, some (.pointer (some ⟨b, o + 0 * 6 + 0, none⟩))), some (97, some (.int .i64 ((nth v.runs 0).frm))), some (98, some (.bool (decide ((nth v.runs 0).frm < (nth v.runs 0).to)))), some (99, some (.bool (decide ((decide ((nth v.runs k).frm < (nth v.runs k).to)) ≠ (decide ((nth v.runs 0).frm < (nth v.runs 0).to)))))), some (100, some (.bool (decide ((decide ((nth v.runs k).frm < (nth v.runs k).to)) ≠ (decide ((nth v.runs 0).frm < (nth v.runs 0).to)))))), some (101, some (.bool (decide ((decide ((nth v.runs k).frm < (nth v.runs k).to)) ≠ (decide ((nth v.runs 0).frm < (nth v.runs 0).to))))))] [[],[0],[1],[2],[3,2],[2],[5,2],[2],[7,2],[6,8,2],[9,2],[10,2],[4,11,2],[12,2,2],[13],[14,13],[13],[16,13],[15,17,13],[13],[19,13],[20,13],[21,13],[22,13],[13],[24,13],[25,13],[26,13],[27,13],[23,28,13],[18,29,13],[13,30,2],[2,31]] (fun _ _ w => Upd (fun _ => False) w85 w) rfl rfl rfl (by kernel_rfl) (by kernel_rfl) (Upd.drew _).to ⟨?_, ?_, ?_, ?_, ?_, ?_, ?_, ?_, ?_, ?_, ?_, ?_, ?_, ?_, ?_, ?_, ?_, ?_, ?_, ?_, ?_, ?_, ?_, ?_, ?_, ?_, ?_, ?_, ?_, ?_, ?_, ?_, ?_, trivial⟩ ?_)
             · exact pz rfl rfl rfl rfl fun _ _ _ h => h
             · exact pz rfl rfl rfl rfl fun _ _ _ h => h
             · exact fun D ρ w _ _ _ hW => ⟨[(70, .bool (decide (0 < (k : Int))))], ⟨fi 1 rfl rfl rfl, trivial⟩, fun Lr => t_move rfl rfl rfl (t_samehd (v := .bool true) (by first | exact congrArg Value.bool (decide_eq_true g71) | exact congrArg Value.bool g71 | simp [g71]) (dz rfl hW))⟩
             · exact pzf Try.underlying59 rfl Try.sizeOf3 (0) rfl rfl rfl rfl rfl fun _ _ _ h => h
             ·
              intro D ρ w120 hcD hnD hdD hW
              have zhW := hW.size
              refine ⟨_, kf_fr [71, 72], fun Lr => ?_⟩
              have B123 := (B92.keep hW (fun h => h))
              refine t_load Try.isAgg3 rfl rfl rfl (B123.get rfl) ?_
              exact dz rfl hW
             · exact pzf Try.underlying48 rfl Try.sizeOf46 (2) rfl rfl rfl rfl rfl fun _ _ _ h => h
             ·
              intro D ρ w124 hcD hnD hdD hW
              have zhW := hW.size
              refine ⟨_, kf_fr [71, 74], fun Lr => ?_⟩
              have B127 := (B91.keep hW (fun h => h))
              refine t_load Try.isAgg46 rfl rfl rfl (B127.get rfl) ?_
              exact dz rfl hW
             · exact pz rfl rfl rfl rfl fun _ _ _ h => h
             ·
              intro D ρ w128 hcD hnD hdD hW
              have zhW := hW.size
              refine ⟨_, kf_fr [71, 76], fun Lr => ?_⟩
              refine t_ari rfl rfl rfl rfl rfl (by omega) ?_
              exact dz rfl hW
             ·
              intro D ρ w131 hcD hnD hdD hW
              have zhW := hW.size
              have E133 := E88.next hW (fun _ _ h => h.elim)
              refine ⟨_, kf_fr [71, 75, 77], fun Lr => ?_⟩
              have i134 : (k - 1) < v.runs.length := (by omega)
              refine t_index (j := (k - 1)) Try.underlying46 Try.sizeOf59 rfl rfl rfl rfl ((hs.keep E133 (fun _ h => h)).addr (by omega)) (by omega) i134 ?_
              exact dz rfl hW
             · exact pzf Try.underlying59 rfl Try.sizeOf3 (o + (k - 1) * 6 + 1) rfl rfl rfl rfl rfl fun _ _ _ h => h
             ·
              intro D ρ w135 hcD hnD hdD hW
              have zhW := hW.size
              have E137 := E88.next hW (fun _ _ h => h.elim)
              refine ⟨_, kf_fr [71, 79], fun Lr => ?_⟩
              refine t_load Try.isAgg3 rfl rfl rfl (((hs.keep E137 (fun _ h => h)).at_ (k - 1) (by omega)) 1 _ rfl) ?_
              exact dz rfl hW
             · exact pz rfl rfl rfl rfl fun _ _ _ h => h
             · exact fun D ρ w _ _ _ hW => ⟨[(71, .bool true), (81, .bool (decide ((nth v.runs k).frm ≠ (nth v.runs (k - 1)).to)))], ⟨fi 2 rfl rfl rfl, fi 12 rfl rfl rfl, trivial⟩, fun Lr => t_move rfl rfl rfl (t_samehd (v := .bool false) (by first | exact congrArg Value.bool (decide_eq_false g82) | exact congrArg Value.bool g82 | simp [g82]) (dz rfl hW))⟩
             · exact pzf Try.underlying59 rfl Try.sizeOf3 (1) rfl rfl rfl rfl rfl fun _ _ _ h => h
             ·
              intro D ρ w138 hcD hnD hdD hW
              have zhW := hW.size
              refine ⟨_, kf_fr [82, 83], fun Lr => ?_⟩
              have B141 := (B92.keep hW (fun h => h))
              refine t_load Try.isAgg3 rfl rfl rfl (B141.get rfl) ?_
              exact dz rfl hW
             · exact pzf Try.underlying59 rfl Try.sizeOf3 (0) rfl rfl rfl rfl rfl fun _ _ _ h => h
             ·
              intro D ρ w142 hcD hnD hdD hW
              have zhW := hW.size
              refine ⟨_, kf_fr [82, 85], fun Lr => ?_⟩
              have B145 := (B92.keep hW (fun h => h))
              refine t_load Try.isAgg3 rfl rfl rfl (B145.get rfl) ?_
              exact dz rfl hW
             · exact pz rfl rfl rfl rfl fun _ _ _ h => h
             · exact pzf Try.underlying48 rfl Try.sizeOf46 (2) rfl rfl rfl rfl rfl fun _ _ _ h => h
             ·
              intro D ρ w146 hcD hnD hdD hW
              have zhW := hW.size
              refine ⟨_, kf_fr [82, 88], fun Lr => ?_⟩
              have B149 := (B91.keep hW (fun h => h))
              refine t_load Try.isAgg46 rfl rfl rfl (B149.get rfl) ?_
              exact dz rfl hW
             ·
              intro D ρ w150 hcD hnD hdD hW
              have zhW := hW.size
              have E152 := E88.next hW (fun _ _ h => h.elim)
              refine ⟨_, kf_fr [82, 89], fun Lr => ?_⟩
              have i153 : 0 < v.runs.length := (by omega)
              refine t_index (j := 0) Try.underlying46 Try.sizeOf59 rfl rfl rfl rfl ((hs.keep E152 (fun _ h => h)).addr (by omega)) rfl i153 ?_
              exact dz rfl hW
             · exact pzf Try.underlying59 rfl Try.sizeOf3 (o + 0 * 6 + 1) rfl rfl rfl rfl rfl fun _ _ _ h => h
             ·
              intro D ρ w154 hcD hnD hdD hW
              have zhW := hW.size
              have E156 := E88.next hW (fun _ _ h => h.elim)
              refine ⟨_, kf_fr [82, 91], fun Lr => ?_⟩
              refine t_load Try.isAgg3 rfl rfl rfl (((hs.keep E156 (fun _ h => h)).at_ 0 (by omega)) 1 _ rfl) ?_
              exact dz rfl hW
             · exact pzf Try.underlying48 rfl Try.sizeOf46 (2) rfl rfl rfl rfl rfl fun _ _ _ h => h
             ·
              intro D ρ w157 hcD hnD hdD hW
              have zhW := hW.size
              refine ⟨_, kf_fr [82, 93], fun Lr => ?_⟩
              have B160 := (B91.keep hW (fun h => h))
              refine t_load Try.isAgg46 rfl rfl rfl (B160.get rfl) ?_
              exact dz rfl hW
             ·
              intro D ρ w161 hcD hnD hdD hW
              have zhW := hW.size
              have E163 := E88.next hW (fun _ _ h => h.elim)
              refine ⟨_, kf_fr [82, 94], fun Lr => ?_⟩
              have i164 : 0 < v.runs.length := (by omega)
              refine t_index (j := 0) Try.underlying46 Try.sizeOf59 rfl rfl rfl rfl ((hs.keep E163 (fun _ h => h)).addr (by omega)) rfl i164 ?_
              exact dz rfl hW
             · exact pzf Try.underlying59 rfl Try.sizeOf3 (o + 0 * 6 + 0) rfl rfl rfl rfl rfl fun _ _ _ h => h
             ·
              intro D ρ w165 hcD hnD hdD hW
              have zhW := hW.size
              have E167 := E88.next hW (fun _ _ h => h.elim)
              refine ⟨_, kf_fr [82, 96], fun Lr => ?_⟩
              refine t_load Try.isAgg3 rfl rfl rfl (((hs.keep E167 (fun _ h => h)).at_ 0 (by omega)) 0 _ rfl) ?_
              exact dz rfl hW
             · exact pz rfl rfl rfl rfl fun _ _ _ h => h
             · exact fun D ρ w _ _ _ hW => ⟨[(82, .bool false), (87, .bool (decide ((nth v.runs k).frm < (nth v.runs k).to))), (98, .bool (decide ((nth v.runs 0).frm < (nth v.runs 0).to)))], ⟨fi 13 rfl rfl rfl, fi 18 rfl rfl rfl, fi 29 rfl rfl rfl, trivial⟩, fun Lr => t_neB Try.underlying4 rfl rfl rfl rfl (dz rfl hW)⟩
             · exact pz rfl rfl rfl rfl fun _ _ _ h => h
             · exact pz rfl rfl rfl rfl fun _ _ _ h => h
             intro ρ w168 hW
             have u169 : Upd (fun _ => False) w85 w168 := hW
             have zu169 := u169.size
             have E170 := E88.next u169 (fun _ _ h => h.elim)
             refine QK.weak [(1, .pointer (some ⟨bk2, 0, none⟩)), (3, .int .i64 (k : Int)), (101, .bool (decide ((decide ((nth v.runs k).frm < (nth v.runs k).to)) ≠ (decide ((nth v.runs 0).frm < (nth v.runs 0).to)))))] ⟨rfl, rfl, rfl, trivial⟩ (hK90 _ _ (c_condp rfl (fun g101 => ?_) (fun g101 => ?_)))
             ·
              refine c_seq fun K171 hK171 => (c_region (t_assign rfl rfl rfl (t_nil' (hK171 _ _ (c_ret (f_ret1 (v := .bool false) Try.results32 rfl ?_))))))
              have hbad : okRun (prv v k) (way0 v) (nth v.runs k) = false := by
               rw [Bool.eq_false_iff]; intro h
               have hb := (okRun_iff hp hne).1 h
               exact absurd (decide_eq_decide.2 (hb.2 (by omega)).2) g101
              exact ⟨by rw [okVoy_bad (by rw [chk_bad hinv (by omega) hbad]; decide)], E170⟩
             ·
              refine c_skip (hK48 _ _ (c_region (t_move rfl rfl rfl (t_ari rfl rfl rfl rfl rfl (by omega) (t_assign rfl rfl rfl (t_nil' ?_))))))
              exact hK38 (k + 1) _ _ (by omega) ⟨rfl, rfl, trivial⟩ ⟨(((((((u40.next u54 (fun _ _ h => h.elim)).next u57 (fun i hi (h : i = bk51) => show False by first | omega | assumption)).next u64 (fun _ _ h => h.elim)).next u71 (fun _ _ h => h.elim)).next u79 (fun _ _ h => h.elim)).next u86 (fun _ _ h => h.elim)).next u169 (fun _ _ h => h.elim)), (by omega), (by rw [prv_succ]; exact chk_next hinv (by omega) ((okRun_iff hp hne).2 ⟨by unfold basR; omega, fun h0k => ⟨by omega, decide_eq_decide.1 (Decidable.not_not.1 g101)⟩⟩)), (by intro _; by_cases h : k = 0; (subst h; omega); exact hne (by omega))⟩
           ·
            refine WC.weak [(1, .pointer (some ⟨bk2, 0, none⟩)), (3, .int .i64 (k : Int)), (4, .pointer (some ⟨bk51, 0, none⟩))] ⟨rfl, rfl, rfl, trivial⟩ (c_drawn follows 33 [some (69, some (.int .i64 (k : Int))), some (70, some (.bool (decide (0 < (k : Int))))), some (71, some (.bool false)), some (72, some (undef)), some (73, some (undef)), some (74, some (undef)), some (75, some (undef)), some (76, some (undef)), some (77, some (undef)), some (78, some (undef)), some (79, some (undef)), some (80, some (undef)), some (81, some (undef)), some (82, some (undef)), some (83, some (undef)), some (84, some (undef)), some (85, some (undef)), some (86, some (undef)), some (87, some (undef)), some (88, some (undef)), some (89, some (undef)), some (90, some (undef)), some (91, some (undef)), some (92, some (undef)), some (93, some (undef)), some (94, some (undef)), some (95, some (undef)), some (96, some (undef)), some (97, some (undef)), some (98, some (undef)), some (99, some (undef)), some (100, some (undef)), some (101, some (.bool false))] [[],[0],[1],[2],[3,2],[2],[5,2],[2],[7,2],[6,8,2],[9,2],[10,2],[4,11,2],[12,2,2],[13],[14,13],[13],[16,13],[15,17,13],[13],[19,13],[20,13],[21,13],[22,13],[13],[24,13],[25,13],[26,13],[27,13],[23,28,13],[18,29,13],[13,30,2],[2,31]] (fun _ _ w => Upd (fun _ => False) w85 w) rfl rfl rfl (by kernel_rfl) (by kernel_rfl) (Upd.drew _).to ⟨?_, ?_, ?_, ?_, ?_, ?_, ?_, ?_, ?_, ?_, ?_, ?_, ?_, ?_, ?_, ?_, ?_, ?_, ?_, ?_, ?_, ?_, ?_, ?_, ?_, ?_, ?_, ?_, ?_, ?_, ?_, ?_, ?_, trivial⟩ ?_)
            · exact pz rfl rfl rfl rfl fun _ _ _ h => h
            · exact pz rfl rfl rfl rfl fun _ _ _ h => h
            · exact fun D ρ w _ _ _ hW => ⟨[(70, .bool (decide (0 < (k : Int))))], ⟨fi 1 rfl rfl rfl, trivial⟩, fun Lr => t_move rfl rfl rfl (t_samehd (v := .bool false) (by first | exact congrArg Value.bool (decide_eq_false g71) | exact congrArg Value.bool g71 | simp [g71]) (dz rfl hW))⟩
            · exact pz rfl rfl rfl rfl fun _ _ _ h => h
            · exact pz rfl rfl rfl rfl fun _ _ _ h => h
            · exact pz rfl rfl rfl rfl fun _ _ _ h => h
            · exact pz rfl rfl rfl rfl fun _ _ _ h => h
            · exact pz rfl rfl rfl rfl fun _ _ _ h => h
            · exact pz rfl rfl rfl rfl fun _ _ _ h => h
            · exact pz rfl rfl rfl rfl fun _ _ _ h => h
            · exact pz rfl rfl rfl rfl fun _ _ _ h => h
            · exact pz rfl rfl rfl rfl fun _ _ _ h => h
            · exact pz rfl rfl rfl rfl fun _ _ _ h => h
            · exact pz rfl rfl rfl rfl fun _ _ _ h => h
            · exact pz rfl rfl rfl rfl fun _ _ _ h => h
            · exact pz rfl rfl rfl rfl fun _ _ _ h => h
            · exact pz rfl rfl rfl rfl fun _ _ _ h => h
            · exact pz rfl rfl rfl rfl fun _ _ _ h => h
            · exact pz rfl rfl rfl rfl fun _ _ _ h => h
            · exact pz rfl rfl rfl rfl fun _ _ _ h => h
            · exact pz rfl rfl rfl rfl fun _ _ _ h => h
            · exact pz rfl rfl rfl rfl fun _ _ _ h => h
            · exact pz rfl rfl rfl rfl fun _ _ _ h => h
            · exact pz rfl rfl rfl rfl fun _ _ _ h => h
            · exact pz rfl rfl rfl rfl fun _ _ _ h => h
            · exact pz rfl rfl rfl rfl fun _ _ _ h => h
            · exact pz rfl rfl rfl rfl fun _ _ _ h => h
            · exact pz rfl rfl rfl rfl fun _ _ _ h => h
            · exact pz rfl rfl rfl rfl fun _ _ _ h => h
            · exact pz rfl rfl rfl rfl fun _ _ _ h => h
            · exact pz rfl rfl rfl rfl fun _ _ _ h => h
            · exact pz rfl rfl rfl rfl fun _ _ _ h => h
            · exact pz rfl rfl rfl rfl fun _ _ _ h => h
            intro ρ w172 hW
            have u173 : Upd (fun _ => False) w85 w172 := hW
            have zu173 := u173.size
            refine QK.weak [(1, .pointer (some ⟨bk2, 0, none⟩)), (3, .int .i64 (k : Int)), (101, .bool false)] ⟨rfl, rfl, rfl, trivial⟩ (hK90 _ _ (c_cond_f rfl (c_skip (hK48 _ _ (c_region (t_move rfl rfl rfl (t_ari rfl rfl rfl rfl rfl (by omega) (t_assign rfl rfl rfl (t_nil' ?_)))))))))
            exact hK38 (k + 1) _ _ (by omega) ⟨rfl, rfl, trivial⟩ ⟨(((((((u40.next u54 (fun _ _ h => h.elim)).next u57 (fun i hi (h : i = bk51) => show False by first | omega | assumption)).next u64 (fun _ _ h => h.elim)).next u71 (fun _ _ h => h.elim)).next u79 (fun _ _ h => h.elim)).next u86 (fun _ _ h => h.elim)).next u173 (fun _ _ h => h.elim)), (by omega), (by rw [prv_succ]; exact chk_next hinv (by omega) ((okRun_iff hp hne).2 ⟨by unfold basR; omega, fun h0k => absurd h0k (by omega)⟩)), (by intro _; by_cases h : k = 0; (subst h; omega); exact hne (by omega))⟩
     ·
      refine c_exit (hK36 _ _ (c_seq fun K175 hK175 => (c_region (t_assign rfl rfl rfl (t_nil' (hK175 _ _ (c_ret (f_ret1 (v := .bool true) Try.results32 rfl ?_))))))))
      exact ⟨by rw [show okVoy v = true from okVoy_of (by rw [chk_ok h0 hinv (by omega)]; decide)], E44⟩


theorem refTo_rng {r : Run} {p : Int} (h : rngRun r) : 0 ≤ refTo r p ∧ refTo r p ≤ 100000 := by
  obtain ⟨h1, h2, _⟩ := h
  unfold refTo; split <;> omega
theorem rg_here {p : Int} {rs : List Run} {k : Nat} {t u : Bnd} (hi : u = refGo p (rs.drop k) t) (h : k < rs.length) (hb : p = (nth rs k).frm) : u = t := by
  rw [hi, drop_nth h]; unfold refGo; rw [if_pos hb]
theorem rg_stop {p : Int} {rs : List Run} {k : Nat} {t u : Bnd} (hi : u = refGo p (rs.drop k) t) (h : k < rs.length) (hb : ¬ p = (nth rs k).frm) (hc : refTo (nth rs k) p = p) :
    u = ⟨t.lo + ((nth rs k).wt.lo + tak (refTo (nth rs k) p - (nth rs k).frm) (nth rs k).sp.hi), t.hi + ((nth rs k).wt.hi + tak (refTo (nth rs k) p - (nth rs k).frm) (nth rs k).sp.lo)⟩ := by
  rw [hi, drop_nth h]; unfold refGo; rw [if_neg hb, if_pos hc]
theorem rg_next {p : Int} {rs : List Run} {k : Nat} {t u : Bnd} (hi : u = refGo p (rs.drop k) t) (h : k < rs.length) (hb : ¬ p = (nth rs k).frm) (hc : ¬ refTo (nth rs k) p = p) :
    u = refGo p (rs.drop (k + 1)) ⟨t.lo + ((nth rs k).wt.lo + tak (refTo (nth rs k) p - (nth rs k).frm) (nth rs k).sp.hi), t.hi + ((nth rs k).wt.hi + tak (refTo (nth rs k) p - (nth rs k).frm) (nth rs k).sp.lo)⟩ := by
  rw [hi, drop_nth h]; conv => lhs; unfold refGo
  rw [if_neg hb, if_neg hc]
theorem rg_end {p : Int} {rs : List Run} {k : Nat} {t u : Bnd} (hi : u = refGo p (rs.drop k) t) (h : rs.length ≤ k) : u = t := by
  rw [hi, List.drop_eq_nil_of_le h]; rfl

theorem rArrive_c (v : Voy) (ao : Option Addr) (b o cap : Nat) (p : Int) (w0 : World) (hs : Sl encRun 6 w0 ao b o v.runs) (hl : v.runs.length ≤ 1000) (hrun : ∀ r ∈ v.runs, rngRun r) (hst : (-1000000000 ≤ v.st.lo ∧ v.st.lo ≤ 1000000000) ∧ (-1000000000 ≤ v.st.hi ∧ v.st.hi ≤ 1000000000)) (hpl : -10000000 ≤ p ∧ p ≤ 10000000) :
    CallsV Try.prog 34 [.agg #[.int .i64 v.st.lo, .int .i64 v.st.hi, .slice ao ((v.runs).length) cap, .int .i64 v.len, .int .i64 v.wid], .int .i64 p] w0 (fun x w' => x = .agg #[.int .i64 (refGo p v.runs v.st).lo, .int .i64 (refGo p v.runs v.st).hi] ∧ Ext w0 w') := by
 have E0 := Upd.refl (fun _ => False) w0
 refine f_enter (N := 72) Try.func34 rfl rfl rfl ?_
 change WC _ _ _ _ _ _ [(0, .agg #[.int .i64 v.st.lo, .int .i64 v.st.hi, .slice ao ((v.runs).length) cap, .int .i64 v.len, .int .i64 v.wid]), (1, .int .i64 p)] _
 refine c_seq fun K1 hK1 => (c_region (t_box (cs := [.int .i64 v.st.lo, .int .i64 v.st.hi, .slice ao ((v.runs).length) cap, .int .i64 v.len, .int .i64 v.wid]) rfl rfl rfl rfl (fun bk2 w3 ebk2 sbk2 B4 u5 => ?_)))
 have zu5 := u5.size
 have E6 := E0.next u5 (fun _ _ h => h.elim)
 refine t_alloc (cs := [.int .i64 0, .int .i64 0]) Try.zeroValue45 rfl rfl rfl (fun bk7 w8 ebk7 sbk7 B9 u10 => ?_)
 have zu10 := u10.size
 have E11 := E6.next u10 (fun _ _ h => h.elim)
 refine t_nil' (hK1 _ _ (c_seq fun K12 hK12 => (c_region (t_field Try.underlying48 rfl Try.sizeOf45 (0) rfl rfl rfl rfl ?_))))
 have B13 := (B4.keep u10 (fun h => h))
 refine t_loadN (vs := [.int .i64 v.st.lo, .int .i64 v.st.hi]) Try.isAgg45 Try.sizeOf45 rfl rfl rfl (B13.at.sub 0 2) rfl (t_alloc (cs := [.int .i64 0, .int .i64 0]) Try.zeroValue45 rfl rfl rfl (fun bk14 w15 ebk14 sbk14 B16 u17 => ?_))
 have zu17 := u17.size
 have E18 := E11.next u17 (fun _ _ h => h.elim)
 refine t_store (vs := [.int .i64 v.st.lo, .int .i64 v.st.hi]) Try.sizeOf45 rfl rfl rfl B16 rfl rfl (Nat.le_of_ble_eq_true rfl) (by simp [Value.oneCell']) (fun w19 sw19 B21 u20 => ?_)
 have zu20 := u20.size
 have E22 := E18.next u20 (fun i hi (h : i = bk14) => show False by first | omega | assumption)
 have B21 : Blk w19 bk14 45 [.int .i64 v.st.lo, .int .i64 v.st.hi] := B21
 refine t_nil' (hK12 _ _ (c_seq fun K23 hK23 => (c_seq fun K24 hK24 => (c_region (t_assign rfl rfl rfl (t_nil' (hK24 _ _ (c_block (c_loop (γ := Nat × Bnd) (fun gg => [(1, .int .i64 p), (2, .pointer (some ⟨bk2, 0, none⟩)), (4, .pointer (some ⟨bk7, 0, none⟩)), (5, .pointer (some ⟨bk14, 0, none⟩)), (6, .int .i64 (gg.1 : Int))]) (fun gg w => Upd (fun i => i = bk14) w19 w ∧ Blk w bk14 45 [.int .i64 gg.2.lo, .int .i64 gg.2.hi] ∧ (gg.1 ≤ v.runs.length) ∧ (refGo p v.runs v.st = refGo p (v.runs.drop gg.1) gg.2) ∧ (-1000000000 ≤ gg.2.lo ∧ gg.2.lo ≤ 1000000000 + 6005400 * (gg.1 : Int)) ∧ (-1000000000 ≤ gg.2.hi ∧ gg.2.hi ≤ 1000000000 + 6005400 * (gg.1 : Int))) (fun gg => v.runs.length - gg.1) (0, v.st) ⟨rfl, rfl, rfl, rfl, rfl, trivial⟩ ⟨Upd.refl _ _, B21, Nat.zero_le _, rfl, (by simp only []; omega), (by simp only []; omega)⟩ ?_)))))))))
 intro gg w26 hW K25 hK25
 obtain ⟨k, t⟩ := gg
 change WC _ _ _ _ _ _ [(1, .int .i64 p), (2, .pointer (some ⟨bk2, 0, none⟩)), (4, .pointer (some ⟨bk7, 0, none⟩)), (5, .pointer (some ⟨bk14, 0, none⟩)), (6, .int .i64 (k : Int))] _
 change Upd (fun i => i = bk14) w19 w26 ∧ Blk w26 bk14 45 [.int .i64 t.lo, .int .i64 t.hi] ∧ (k ≤ v.runs.length) ∧ (refGo p v.runs v.st = refGo p (v.runs.drop k) t) ∧ (-1000000000 ≤ t.lo ∧ t.lo ≤ 1000000000 + 6005400 * (k : Int)) ∧ (-1000000000 ≤ t.hi ∧ t.hi ≤ 1000000000 + 6005400 * (k : Int)) at hW
 obtain ⟨u27, I28, I29, I30, I31, I32⟩ := hW
 have zu27 := u27.size
 have E33 := E22.next u27 (fun i hi (h : i = bk14) => show False by first | omega | assumption)
 have hle := I29; clear I29
 have hinv := I30; clear I30
 have hlo := I31; clear I31
 have hhi := I32; clear I32
 refine c_seq fun K34 hK34 => (c_seq fun K35 hK35 => (c_region (t_move rfl rfl rfl (t_field Try.underlying48 rfl Try.sizeOf46 (2) rfl rfl rfl rfl ?_))))
 have B36 := (((B13.keep u17 (fun h => h)).keep u20 (show ¬ (bk2 = bk14) by first | omega | assumption)).keep u27 (show ¬ (bk2 = bk14) by first | omega | assumption))
 refine t_load Try.isAgg46 rfl rfl rfl (B36.get rfl) (t_len Try.underlying46 rfl rfl rfl rfl (t_cmp rfl rfl rfl rfl rfl (t_nil' (hK35 _ _ (c_condp rfl (fun g15 => ?_) (fun g15 => ?_))))))
 ·
  refine c_skip (hK34 _ _ (c_seq fun K37 hK37 => (c_block (c_seq fun K38 hK38 => (c_region (t_field Try.underlying48 rfl Try.sizeOf46 (2) rfl rfl rfl rfl (t_load Try.isAgg46 rfl rfl rfl (B36.get rfl) (t_move rfl rfl rfl ?_))))))))
  have i39 : k < v.runs.length := (by omega)
  refine t_index (j := k) Try.underlying46 Try.sizeOf59 rfl rfl rfl rfl ((hs.keep E33 (fun _ h => h)).addr (by omega)) rfl i39 (t_loadN (vs := [.int .i64 ((nth v.runs k).frm), .int .i64 ((nth v.runs k).to), .int .i64 ((nth v.runs k).sp.lo), .int .i64 ((nth v.runs k).sp.hi), .int .i64 ((nth v.runs k).wt.lo), .int .i64 ((nth v.runs k).wt.hi)]) Try.isAgg59 Try.sizeOf59 rfl rfl rfl (((hs.keep E33 (fun _ h => h)).at_ k (by omega)).sub 0 6) rfl (t_alloc (cs := [.int .i64 0, .int .i64 0, .int .i64 0, .int .i64 0, .int .i64 0, .int .i64 0]) Try.zeroValue59 rfl rfl rfl (fun bk40 w41 ebk40 sbk40 B42 u43 => ?_)))
  have zu43 := u43.size
  have E44 := E33.next u43 (fun _ _ h => h.elim)
  refine t_store (vs := [.int .i64 ((nth v.runs k).frm), .int .i64 ((nth v.runs k).to), .int .i64 ((nth v.runs k).sp.lo), .int .i64 ((nth v.runs k).sp.hi), .int .i64 ((nth v.runs k).wt.lo), .int .i64 ((nth v.runs k).wt.hi)]) Try.sizeOf59 rfl rfl rfl B42 rfl rfl (Nat.le_of_ble_eq_true rfl) (by simp [Value.oneCell']) (fun w45 sw45 B47 u46 => ?_)
  have zu46 := u46.size
  have E48 := E44.next u46 (fun i hi (h : i = bk40) => show False by first | omega | assumption)
  have B47 : Blk w45 bk40 59 [.int .i64 ((nth v.runs k).frm), .int .i64 ((nth v.runs k).to), .int .i64 ((nth v.runs k).sp.lo), .int .i64 ((nth v.runs k).sp.hi), .int .i64 ((nth v.runs k).wt.lo), .int .i64 ((nth v.runs k).wt.hi)] := B47
  refine t_nil' (hK38 _ _ (c_seq fun K49 hK49 => (c_seq fun K50 hK50 => (c_region (t_move rfl rfl rfl (t_field Try.underlying59 rfl Try.sizeOf3 (0) rfl rfl rfl rfl (t_load Try.isAgg3 rfl rfl rfl (B47.get rfl) (t_cmp rfl rfl rfl rfl rfl (t_nil' (hK50 _ _ (c_condp rfl (fun g26 => ?_) (fun g26 => ?_))))))))))))
  ·
   refine c_seq fun K51 hK51 => (c_region ?_)
   have B52 := ((I28.keep u43 (fun h => h)).keep u46 (show ¬ (bk14 = bk40) by first | omega | assumption))
   refine t_loadN (vs := [.int .i64 t.lo, .int .i64 t.hi]) Try.isAgg45 Try.sizeOf45 rfl rfl rfl (B52.at.sub 0 2) rfl ?_
   have B53 := (((((B9.keep u17 (fun h => h)).keep u20 (show ¬ (bk7 = bk14) by first | omega | assumption)).keep u27 (show ¬ (bk7 = bk14) by first | omega | assumption)).keep u43 (fun h => h)).keep u46 (show ¬ (bk7 = bk40) by first | omega | assumption))
   refine t_store (vs := [.int .i64 t.lo, .int .i64 t.hi]) Try.sizeOf45 rfl rfl rfl B53 rfl rfl (Nat.le_of_ble_eq_true rfl) (by simp [Value.oneCell']) (fun w54 sw54 B56 u55 => ?_)
   have zu55 := u55.size
   have E57 := E48.next u55 (fun i hi (h : i = bk7) => show False by first | omega | assumption)
   have B56 : Blk w54 bk7 45 [.int .i64 t.lo, .int .i64 t.hi] := B56
   refine t_nil' (hK51 _ _ (c_ret (f_ret1 (v := .agg #[.int .i64 t.lo, .int .i64 t.hi]) Try.results34 ⟨_, _, rfl, run_loadVarN (vs := [.int .i64 t.lo, .int .i64 t.hi]) Try.isAgg45 Try.sizeOf45 rfl (B56.at.sub 0 2)⟩ ?_)))
   exact ⟨by rw [rg_here hinv (by omega) g26], E57⟩
  ·
   refine c_skip (hK49 _ _ (c_seq fun K58 hK58 => (c_region (t_field Try.underlying59 rfl Try.sizeOf3 (1) rfl rfl rfl rfl (t_load Try.isAgg3 rfl rfl rfl (B47.get rfl) (t_assign rfl rfl rfl (t_nil' (hK58 _ _ (c_cut (γ := Unit) (fun _x => [(1, .int .i64 p), (2, .pointer (some ⟨bk2, 0, none⟩)), (4, .pointer (some ⟨bk7, 0, none⟩)), (5, .pointer (some ⟨bk14, 0, none⟩)), (6, .int .i64 (k : Int)), (7, .pointer (some ⟨bk40, 0, none⟩)), (8, .int .i64 (refTo (nth v.runs k) p))]) (fun _x w => Upd (fun _ => False) w45 w) (fun K60 hK60 => ?_) ?_)))))))))
   ·
    refine c_seq fun K63 hK63 => (c_region (t_move rfl rfl rfl (t_field Try.underlying59 rfl Try.sizeOf3 (0) rfl rfl rfl rfl (t_load Try.isAgg3 rfl rfl rfl (B47.get rfl) (t_field Try.underlying59 rfl Try.sizeOf3 (1) rfl rfl rfl rfl (t_load Try.isAgg3 rfl rfl rfl (B47.get rfl) (t_call (vs := [.int .i64 p, .int .i64 ((nth v.runs k).frm), .int .i64 ((nth v.runs k).to)]) own73 rfl rfl rfl rfl (between_c p ((nth v.runs k).frm) ((nth v.runs k).to) _) (fun v64 w65 r67 => ?_))))))))
    obtain ⟨rfl, u66⟩ := r67
    have zu66 := u66.size
    refine t_nil' (hK63 _ _ (c_condp rfl (fun g35 => ?_) (fun g35 => ?_)))
    ·
     refine c_region (t_move rfl rfl rfl (t_assign rfl rfl rfl (t_nil' ?_)))
     exact hK60 () _ _ ⟨rfl, rfl, rfl, rfl, rfl, rfl, (by exact congrArg some (by simp only [refTo, if_pos g35])), trivial⟩ ((Upd.refl _ _).next u66 (fun _ _ h => h.elim))
    ·
     refine c_skip ?_
     exact hK60 () _ _ ⟨rfl, rfl, rfl, rfl, rfl, rfl, (by exact congrArg some (by simp only [refTo, if_neg g35])), trivial⟩ ((Upd.refl _ _).next u66 (fun _ _ h => h.elim))
   ·
    intro _x w61 u62
    have zu62 := u62.size
    have E69 := E48.next u62 (fun _ _ h => h.elim)
    have hr := hrun _ (nth_mem (xs := v.runs) (i := k) (by omega))
    have hw := refTo_rng (p := p) hr
    obtain ⟨r1, r2, r3, r4, r5, r6⟩ := hr
    have q1 := tak_rng (a := refTo (nth v.runs k) p - (nth v.runs k).frm) (by omega) r4.1 r4.2
    have q2 := tak_rng (a := refTo (nth v.runs k) p - (nth v.runs k).frm) (by omega) r3.1 r3.2
    have q3 : v.runs.length ≤ 1000 := hl
    refine c_seq fun K70 hK70 => ?_
    have B71 := (((I28.keep u43 (fun h => h)).keep u46 (show ¬ (bk14 = bk40) by first | omega | assumption)).keep u62 (fun h => h))
    have B72 := (B47.keep u62 (fun h => h))
    refine WC.weak [(1, .int .i64 p), (2, .pointer (some ⟨bk2, 0, none⟩)), (4, .pointer (some ⟨bk7, 0, none⟩)), (5, .pointer (some ⟨bk14, 0, none⟩)), (6, .int .i64 (k : Int)), (7, .pointer (some ⟨bk40, 0, none⟩)), (8, .int .i64 (refTo (nth v.runs k) p))] ⟨rfl, rfl, rfl, rfl, rfl, rfl, rfl, trivial⟩ (c_drawn follows 16 [some (37, some (.pointer (some ⟨bk14, 0, none⟩))), some (38, some (.int .i64 t.lo)), some (39, some (.pointer (some ⟨bk40, 4, none⟩))), some (40, some (.pointer (some ⟨bk40, 4, none⟩))), some (41, some (.int .i64 ((nth v.runs k).wt.lo))), some (42, some (.pointer (some ⟨bk40, 0, none⟩))), some (43, some (.int .i64 ((nth v.runs k).frm))), some (44, some (.int .i64 (refTo (nth v.runs k) p))), some (45, some (.pointer (some ⟨bk40, 2, none⟩))), some (46, some (.pointer (some ⟨bk40, 3, none⟩))), some (47, some (.int .i64 ((nth v.runs k).sp.hi))), some (48, some (.int .i64 (tak ((refTo (nth v.runs k) p) - ((nth v.runs k).frm)) ((nth v.runs k).sp.hi)))), some (49, some (.int .i64 ((nth v.runs k).wt.lo + (tak ((refTo (nth v.runs k) p) - ((nth v.runs k).frm)) ((nth v.runs k).sp.hi))))), some (50, some (.int .i64 (t.lo + ((nth v.runs k).wt.lo + (tak ((refTo (nth v.runs k) p) - ((nth v.runs k).frm)) ((nth v.runs k).sp.hi)))))), some (51, some (.pointer (some ⟨bk14, 0, none⟩))), none] [[],[0],[],[2],[3],[],[5],[],[],[8],[9],[6,7,10],[4,11],[1,12],[0,1,2,3,4,5,6,7,8,9,10,11,12,13],[14,13,11,0,1,2,3,4,5,6,7,8,9,10,11,12,13]] (fun D _ w => Upd (fun i => i = bk14) w61 w ∧ Blk w bk14 45 [(bif D 15 then .int .i64 (t.lo + ((nth v.runs k).wt.lo + (tak ((refTo (nth v.runs k) p) - ((nth v.runs k).frm)) ((nth v.runs k).sp.hi)))) else .int .i64 t.lo), .int .i64 t.hi]) rfl rfl rfl (by kernel_rfl) (by kernel_rfl) ⟨(Upd.drew _).to, (B71.keep (Upd.drew _) (fun h => h))⟩ ⟨?_, ?_, ?_, ?_, ?_, ?_, ?_, ?_, ?_, ?_, ?_, ?_, ?_, ?_, ?_, ?_, trivial⟩ ?_)
    · exact pzf Try.underlying45 rfl Try.sizeOf3 (0) rfl rfl rfl rfl rfl fun _ _ _ h => h
    ·
     intro D ρ w78 hcD hnD hdD hW
     obtain ⟨u79, B80⟩ := hW
     have zu79 := u79.size
     have d15 := hcD.late 15 hnD rfl
     have B82 := B80
     simp only [d15, cond_false] at B82
     refine ⟨_, kf_fr [37], fun Lr => ?_⟩
     refine t_load Try.isAgg3 rfl rfl rfl (B82.get rfl) ?_
     exact dz rfl ⟨u79, B80⟩
    · exact pzf Try.underlying59 rfl Try.sizeOf45 (4) rfl rfl rfl rfl rfl fun _ _ _ h => h
    · exact pzf Try.underlying45 rfl Try.sizeOf3 (4) rfl rfl rfl rfl rfl fun _ _ _ h => h
    ·
     intro D ρ w83 hcD hnD hdD hW
     obtain ⟨u84, B85⟩ := hW
     have zu84 := u84.size
     have d15 := hcD.late 15 hnD rfl
     have B87 := B85
     simp only [d15, cond_false] at B87
     refine ⟨_, kf_fr [40], fun Lr => ?_⟩
     have B88 := (B72.keep u84 (show ¬ (bk40 = bk14) by first | omega | assumption))
     refine t_load Try.isAgg3 rfl rfl rfl (B88.get rfl) ?_
     exact dz rfl ⟨u84, B85⟩
    · exact pzf Try.underlying59 rfl Try.sizeOf3 (0) rfl rfl rfl rfl rfl fun _ _ _ h => h
    ·
     intro D ρ w89 hcD hnD hdD hW
     obtain ⟨u90, B91⟩ := hW
     have zu90 := u90.size
     have d15 := hcD.late 15 hnD rfl
     have B93 := B91
     simp only [d15, cond_false] at B93
     refine ⟨_, kf_fr [42], fun Lr => ?_⟩
     have B94 := (B72.keep u90 (show ¬ (bk40 = bk14) by first | omega | assumption))
     refine t_load Try.isAgg3 rfl rfl rfl (B94.get rfl) ?_
     exact dz rfl ⟨u90, B91⟩
    · exact pz rfl rfl rfl rfl fun _ _ _ h => h
    · exact pzf Try.underlying59 rfl Try.sizeOf45 (2) rfl rfl rfl rfl rfl fun _ _ _ h => h
    · exact pzf Try.underlying45 rfl Try.sizeOf3 (3) rfl rfl rfl rfl rfl fun _ _ _ h => h
    ·
     intro D ρ w95 hcD hnD hdD hW
     obtain ⟨u96, B97⟩ := hW
     have zu96 := u96.size
     have d15 := hcD.late 15 hnD rfl
     have B99 := B97
     simp only [d15, cond_false] at B99
     refine ⟨_, kf_fr [46], fun Lr => ?_⟩
     have B100 := (B72.keep u96 (show ¬ (bk40 = bk14) by first | omega | assumption))
     refine t_load Try.isAgg3 rfl rfl rfl (B100.get rfl) ?_
     exact dz rfl ⟨u96, B97⟩
    ·
     intro D ρ w101 hcD hnD hdD hW
     obtain ⟨u102, B103⟩ := hW
     have zu102 := u102.size
     have d15 := hcD.late 15 hnD rfl
     have B105 := B103
     simp only [d15, cond_false] at B105
     refine ⟨_, kf_fr [43, 44, 47], fun Lr => ?_⟩
     refine t_call (vs := [.int .i64 ((nth v.runs k).frm), .int .i64 (refTo (nth v.runs k) p), .int .i64 ((nth v.runs k).sp.hi)]) own74 rfl rfl rfl rfl (minutes_c ((nth v.runs k).frm) (refTo (nth v.runs k) p) ((nth v.runs k).sp.hi) _ (by omega) (by omega) (by omega)) (fun v106 w107 r109 => ?_)
     obtain ⟨rfl, u108⟩ := r109
     have zu108 := u108.size
     exact dz rfl ⟨(u102.next u108 (fun _ _ h => h.elim)), (B103.keep u108 (fun h => h))⟩
    ·
     intro D ρ w111 hcD hnD hdD hW
     obtain ⟨u112, B113⟩ := hW
     have zu112 := u112.size
     have d15 := hcD.late 15 hnD rfl
     have B115 := B113
     simp only [d15, cond_false] at B115
     refine ⟨_, kf_fr [41, 48], fun Lr => ?_⟩
     refine t_ari rfl rfl rfl rfl rfl (by omega) ?_
     exact dz rfl ⟨u112, B113⟩
    ·
     intro D ρ w116 hcD hnD hdD hW
     obtain ⟨u117, B118⟩ := hW
     have zu117 := u117.size
     have d15 := hcD.late 15 hnD rfl
     have B120 := B118
     simp only [d15, cond_false] at B120
     refine ⟨_, kf_fr [38, 49], fun Lr => ?_⟩
     refine t_ari rfl rfl rfl rfl rfl (by omega) ?_
     exact dz rfl ⟨u117, B118⟩
    · exact pzf Try.underlying45 rfl Try.sizeOf3 (0) rfl rfl rfl rfl rfl fun _ _ _ h => h
    ·
     intro D ρ w121 hcD hnD hdD hW
     obtain ⟨u122, B123⟩ := hW
     have zu122 := u122.size
     have B125 := B123
     simp only [hnD, cond_false] at B125
     refine ⟨_, kf_fr [50, 51], fun Lr => ?_⟩
     refine t_store (vs := [.int .i64 (t.lo + ((nth v.runs k).wt.lo + (tak ((refTo (nth v.runs k) p) - ((nth v.runs k).frm)) ((nth v.runs k).sp.hi))))]) Try.sizeOf3 rfl rfl rfl B125 rfl rfl (Nat.le_of_ble_eq_true rfl) (by simp [Value.oneCell']) (fun w126 sw126 B128 u127 => ?_)
     have zu127 := u127.size
     have B128 : Blk w126 bk14 45 [.int .i64 (t.lo + ((nth v.runs k).wt.lo + (tak ((refTo (nth v.runs k) p) - ((nth v.runs k).frm)) ((nth v.runs k).sp.hi)))), .int .i64 t.hi] := B128
     exact dz0 rfl ⟨(u122.next u127 (fun i hi (h : i = bk14) => show i = bk14 by first | omega | assumption)), (by show Blk w126 bk14 45 [.int .i64 (t.lo + ((nth v.runs k).wt.lo + (tak ((refTo (nth v.runs k) p) - ((nth v.runs k).frm)) ((nth v.runs k).sp.hi)))), .int .i64 t.hi]; exact B128)⟩
    intro ρ w130 hW
    obtain ⟨u131, B132⟩ := hW
    have zu131 := u131.size
    have E133 := E69.next u131 (fun i hi (h : i = bk14) => show False by first | omega | assumption)
    have B132 : Blk w130 bk14 45 [.int .i64 (t.lo + ((nth v.runs k).wt.lo + (tak ((refTo (nth v.runs k) p) - ((nth v.runs k).frm)) ((nth v.runs k).sp.hi)))), .int .i64 t.hi] := B132
    refine QK.weak [(1, .int .i64 p), (2, .pointer (some ⟨bk2, 0, none⟩)), (4, .pointer (some ⟨bk7, 0, none⟩)), (5, .pointer (some ⟨bk14, 0, none⟩)), (6, .int .i64 (k : Int)), (7, .pointer (some ⟨bk40, 0, none⟩)), (8, .int .i64 (refTo (nth v.runs k) p))] ⟨rfl, rfl, rfl, rfl, rfl, rfl, rfl, trivial⟩ (hK70 _ _ (c_seq fun K134 hK134 => ?_))
    have B135 := (B72.keep u131 (show ¬ (bk40 = bk14) by first | omega | assumption))
    refine WC.weak [(1, .int .i64 p), (2, .pointer (some ⟨bk2, 0, none⟩)), (4, .pointer (some ⟨bk7, 0, none⟩)), (5, .pointer (some ⟨bk14, 0, none⟩)), (6, .int .i64 (k : Int)), (7, .pointer (some ⟨bk40, 0, none⟩)), (8, .int .i64 (refTo (nth v.runs k) p))] ⟨rfl, rfl, rfl, rfl, rfl, rfl, rfl, trivial⟩ (c_drawn follows 16 [some (52, some (.pointer (some ⟨bk14, 1, none⟩))), some (53, some (.int .i64 t.hi)), some (54, some (.pointer (some ⟨bk40, 4, none⟩))), some (55, some (.pointer (some ⟨bk40, 5, none⟩))), some (56, some (.int .i64 ((nth v.runs k).wt.hi))), some (57, some (.pointer (some ⟨bk40, 0, none⟩))), some (58, some (.int .i64 ((nth v.runs k).frm))), some (59, some (.int .i64 (refTo (nth v.runs k) p))), some (60, some (.pointer (some ⟨bk40, 2, none⟩))), some (61, some (.pointer (some ⟨bk40, 2, none⟩))), some (62, some (.int .i64 ((nth v.runs k).sp.lo))), some (63, some (.int .i64 (tak ((refTo (nth v.runs k) p) - ((nth v.runs k).frm)) ((nth v.runs k).sp.lo)))), some (64, some (.int .i64 ((nth v.runs k).wt.hi + (tak ((refTo (nth v.runs k) p) - ((nth v.runs k).frm)) ((nth v.runs k).sp.lo))))), some (65, some (.int .i64 (t.hi + ((nth v.runs k).wt.hi + (tak ((refTo (nth v.runs k) p) - ((nth v.runs k).frm)) ((nth v.runs k).sp.lo)))))), some (66, some (.pointer (some ⟨bk14, 1, none⟩))), none] [[],[0],[],[2],[3],[],[5],[],[],[8],[9],[6,7,10],[4,11],[1,12],[0,1,2,3,4,5,6,7,8,9,10,11,12,13],[14,13,11,0,1,2,3,4,5,6,7,8,9,10,11,12,13]] (fun D _ w => Upd (fun i => i = bk14) w130 w ∧ Blk w bk14 45 [.int .i64 (t.lo + ((nth v.runs k).wt.lo + (tak ((refTo (nth v.runs k) p) - ((nth v.runs k).frm)) ((nth v.runs k).sp.hi)))), (bif D 15 then .int .i64 (t.hi + ((nth v.runs k).wt.hi + (tak ((refTo (nth v.runs k) p) - ((nth v.runs k).frm)) ((nth v.runs k).sp.lo)))) else .int .i64 t.hi)]) rfl rfl rfl (by kernel_rfl) (by kernel_rfl) ⟨(Upd.drew _).to, (B132.keep (Upd.drew _) (fun h => h))⟩ ⟨?_, ?_, ?_, ?_, ?_, ?_, ?_, ?_, ?_, ?_, ?_, ?_, ?_, ?_, ?_, ?_, trivial⟩ ?_)
    · exact pzf Try.underlying45 rfl Try.sizeOf3 (1) rfl rfl rfl rfl rfl fun _ _ _ h => h
    ·
     intro D ρ w141 hcD hnD hdD hW
     obtain ⟨u142, B143⟩ := hW
     have zu142 := u142.size
     have d15 := hcD.late 15 hnD rfl
     have B145 := B143
     simp only [d15, cond_false] at B145
     refine ⟨_, kf_fr [52], fun Lr => ?_⟩
     refine t_load Try.isAgg3 rfl rfl rfl (B145.get rfl) ?_
     exact dz rfl ⟨u142, B143⟩
    · exact pzf Try.underlying59 rfl Try.sizeOf45 (4) rfl rfl rfl rfl rfl fun _ _ _ h => h
    · exact pzf Try.underlying45 rfl Try.sizeOf3 (5) rfl rfl rfl rfl rfl fun _ _ _ h => h
    ·
     intro D ρ w146 hcD hnD hdD hW
     obtain ⟨u147, B148⟩ := hW
     have zu147 := u147.size
     have d15 := hcD.late 15 hnD rfl
     have B150 := B148
     simp only [d15, cond_false] at B150
     refine ⟨_, kf_fr [55], fun Lr => ?_⟩
     have B151 := (B135.keep u147 (show ¬ (bk40 = bk14) by first | omega | assumption))
     refine t_load Try.isAgg3 rfl rfl rfl (B151.get rfl) ?_
     exact dz rfl ⟨u147, B148⟩
    · exact pzf Try.underlying59 rfl Try.sizeOf3 (0) rfl rfl rfl rfl rfl fun _ _ _ h => h
    ·
     intro D ρ w152 hcD hnD hdD hW
     obtain ⟨u153, B154⟩ := hW
     have zu153 := u153.size
     have d15 := hcD.late 15 hnD rfl
     have B156 := B154
     simp only [d15, cond_false] at B156
     refine ⟨_, kf_fr [57], fun Lr => ?_⟩
     have B157 := (B135.keep u153 (show ¬ (bk40 = bk14) by first | omega | assumption))
     refine t_load Try.isAgg3 rfl rfl rfl (B157.get rfl) ?_
     exact dz rfl ⟨u153, B154⟩
    · exact pz rfl rfl rfl rfl fun _ _ _ h => h
    · exact pzf Try.underlying59 rfl Try.sizeOf45 (2) rfl rfl rfl rfl rfl fun _ _ _ h => h
    · exact pzf Try.underlying45 rfl Try.sizeOf3 (2) rfl rfl rfl rfl rfl fun _ _ _ h => h
    ·
     intro D ρ w158 hcD hnD hdD hW
     obtain ⟨u159, B160⟩ := hW
     have zu159 := u159.size
     have d15 := hcD.late 15 hnD rfl
     have B162 := B160
     simp only [d15, cond_false] at B162
     refine ⟨_, kf_fr [61], fun Lr => ?_⟩
     have B163 := (B135.keep u159 (show ¬ (bk40 = bk14) by first | omega | assumption))
     refine t_load Try.isAgg3 rfl rfl rfl (B163.get rfl) ?_
     exact dz rfl ⟨u159, B160⟩
    ·
     intro D ρ w164 hcD hnD hdD hW
     obtain ⟨u165, B166⟩ := hW
     have zu165 := u165.size
     have d15 := hcD.late 15 hnD rfl
     have B168 := B166
     simp only [d15, cond_false] at B168
     refine ⟨_, kf_fr [58, 59, 62], fun Lr => ?_⟩
     refine t_call (vs := [.int .i64 ((nth v.runs k).frm), .int .i64 (refTo (nth v.runs k) p), .int .i64 ((nth v.runs k).sp.lo)]) own74 rfl rfl rfl rfl (minutes_c ((nth v.runs k).frm) (refTo (nth v.runs k) p) ((nth v.runs k).sp.lo) _ (by omega) (by omega) (by omega)) (fun v169 w170 r172 => ?_)
     obtain ⟨rfl, u171⟩ := r172
     have zu171 := u171.size
     exact dz rfl ⟨(u165.next u171 (fun _ _ h => h.elim)), (B166.keep u171 (fun h => h))⟩
    ·
     intro D ρ w174 hcD hnD hdD hW
     obtain ⟨u175, B176⟩ := hW
     have zu175 := u175.size
     have d15 := hcD.late 15 hnD rfl
     have B178 := B176
     simp only [d15, cond_false] at B178
     refine ⟨_, kf_fr [56, 63], fun Lr => ?_⟩
     refine t_ari rfl rfl rfl rfl rfl (by omega) ?_
     exact dz rfl ⟨u175, B176⟩
    ·
     intro D ρ w179 hcD hnD hdD hW
     obtain ⟨u180, B181⟩ := hW
     have zu180 := u180.size
     have d15 := hcD.late 15 hnD rfl
     have B183 := B181
     simp only [d15, cond_false] at B183
     refine ⟨_, kf_fr [53, 64], fun Lr => ?_⟩
     refine t_ari rfl rfl rfl rfl rfl (by omega) ?_
     exact dz rfl ⟨u180, B181⟩
    · exact pzf Try.underlying45 rfl Try.sizeOf3 (1) rfl rfl rfl rfl rfl fun _ _ _ h => h
    ·
     intro D ρ w184 hcD hnD hdD hW
     obtain ⟨u185, B186⟩ := hW
     have zu185 := u185.size
     have B188 := B186
     simp only [hnD, cond_false] at B188
     refine ⟨_, kf_fr [65, 66], fun Lr => ?_⟩
     refine t_store (vs := [.int .i64 (t.hi + ((nth v.runs k).wt.hi + (tak ((refTo (nth v.runs k) p) - ((nth v.runs k).frm)) ((nth v.runs k).sp.lo))))]) Try.sizeOf3 rfl rfl rfl B188 rfl rfl (Nat.le_of_ble_eq_true rfl) (by simp [Value.oneCell']) (fun w189 sw189 B191 u190 => ?_)
     have zu190 := u190.size
     have B191 : Blk w189 bk14 45 [.int .i64 (t.lo + ((nth v.runs k).wt.lo + (tak ((refTo (nth v.runs k) p) - ((nth v.runs k).frm)) ((nth v.runs k).sp.hi)))), .int .i64 (t.hi + ((nth v.runs k).wt.hi + (tak ((refTo (nth v.runs k) p) - ((nth v.runs k).frm)) ((nth v.runs k).sp.lo))))] := B191
     exact dz0 rfl ⟨(u185.next u190 (fun i hi (h : i = bk14) => show i = bk14 by first | omega | assumption)), (by show Blk w189 bk14 45 [.int .i64 (t.lo + ((nth v.runs k).wt.lo + (tak ((refTo (nth v.runs k) p) - ((nth v.runs k).frm)) ((nth v.runs k).sp.hi)))), .int .i64 (t.hi + ((nth v.runs k).wt.hi + (tak ((refTo (nth v.runs k) p) - ((nth v.runs k).frm)) ((nth v.runs k).sp.lo))))]; exact B191)⟩
    intro ρ w193 hW
    obtain ⟨u194, B195⟩ := hW
    have zu194 := u194.size
    have E196 := E133.next u194 (fun i hi (h : i = bk14) => show False by first | omega | assumption)
    have B195 : Blk w193 bk14 45 [.int .i64 (t.lo + ((nth v.runs k).wt.lo + (tak ((refTo (nth v.runs k) p) - ((nth v.runs k).frm)) ((nth v.runs k).sp.hi)))), .int .i64 (t.hi + ((nth v.runs k).wt.hi + (tak ((refTo (nth v.runs k) p) - ((nth v.runs k).frm)) ((nth v.runs k).sp.lo))))] := B195
    refine QK.weak [(1, .int .i64 p), (2, .pointer (some ⟨bk2, 0, none⟩)), (4, .pointer (some ⟨bk7, 0, none⟩)), (5, .pointer (some ⟨bk14, 0, none⟩)), (6, .int .i64 (k : Int)), (8, .int .i64 (refTo (nth v.runs k) p))] ⟨rfl, rfl, rfl, rfl, rfl, rfl, trivial⟩ (hK134 _ _ (c_seq fun K197 hK197 => (c_region (t_move rfl rfl rfl (t_move rfl rfl rfl (t_cmp rfl rfl rfl rfl rfl (t_nil' (hK197 _ _ (c_condp rfl (fun g69 => ?_) (fun g69 => ?_))))))))))
    ·
     refine c_seq fun K198 hK198 => (c_region (t_loadN (vs := [.int .i64 (t.lo + ((nth v.runs k).wt.lo + (tak ((refTo (nth v.runs k) p) - ((nth v.runs k).frm)) ((nth v.runs k).sp.hi)))), .int .i64 (t.hi + ((nth v.runs k).wt.hi + (tak ((refTo (nth v.runs k) p) - ((nth v.runs k).frm)) ((nth v.runs k).sp.lo))))]) Try.isAgg45 Try.sizeOf45 rfl rfl rfl (B195.at.sub 0 2) rfl ?_))
     have B199 := ((((((((B9.keep u17 (fun h => h)).keep u20 (show ¬ (bk7 = bk14) by first | omega | assumption)).keep u27 (show ¬ (bk7 = bk14) by first | omega | assumption)).keep u43 (fun h => h)).keep u46 (show ¬ (bk7 = bk40) by first | omega | assumption)).keep u62 (fun h => h)).keep u131 (show ¬ (bk7 = bk14) by first | omega | assumption)).keep u194 (show ¬ (bk7 = bk14) by first | omega | assumption))
     refine t_store (vs := [.int .i64 (t.lo + ((nth v.runs k).wt.lo + (tak ((refTo (nth v.runs k) p) - ((nth v.runs k).frm)) ((nth v.runs k).sp.hi)))), .int .i64 (t.hi + ((nth v.runs k).wt.hi + (tak ((refTo (nth v.runs k) p) - ((nth v.runs k).frm)) ((nth v.runs k).sp.lo))))]) Try.sizeOf45 rfl rfl rfl B199 rfl rfl (Nat.le_of_ble_eq_true rfl) (by simp [Value.oneCell']) (fun w200 sw200 B202 u201 => ?_)
     have zu201 := u201.size
     have E203 := E196.next u201 (fun i hi (h : i = bk7) => show False by first | omega | assumption)
     have B202 : Blk w200 bk7 45 [.int .i64 (t.lo + ((nth v.runs k).wt.lo + (tak ((refTo (nth v.runs k) p) - ((nth v.runs k).frm)) ((nth v.runs k).sp.hi)))), .int .i64 (t.hi + ((nth v.runs k).wt.hi + (tak ((refTo (nth v.runs k) p) - ((nth v.runs k).frm)) ((nth v.runs k).sp.lo))))] := B202
     refine t_nil' (hK198 _ _ (c_ret (f_ret1 (v := .agg #[.int .i64 (t.lo + ((nth v.runs k).wt.lo + (tak ((refTo (nth v.runs k) p) - ((nth v.runs k).frm)) ((nth v.runs k).sp.hi)))), .int .i64 (t.hi + ((nth v.runs k).wt.hi + (tak ((refTo (nth v.runs k) p) - ((nth v.runs k).frm)) ((nth v.runs k).sp.lo))))]) Try.results34 ⟨_, _, rfl, run_loadVarN (vs := [.int .i64 (t.lo + ((nth v.runs k).wt.lo + (tak ((refTo (nth v.runs k) p) - ((nth v.runs k).frm)) ((nth v.runs k).sp.hi)))), .int .i64 (t.hi + ((nth v.runs k).wt.hi + (tak ((refTo (nth v.runs k) p) - ((nth v.runs k).frm)) ((nth v.runs k).sp.lo))))]) Try.isAgg45 Try.sizeOf45 rfl (B202.at.sub 0 2)⟩ ?_)))
     exact ⟨by rw [rg_stop hinv (by omega) g26 g69], E203⟩
    ·
     refine c_skip (hK37 _ _ (c_region (t_move rfl rfl rfl (t_ari rfl rfl rfl rfl rfl (by omega) (t_assign rfl rfl rfl (t_nil' ?_))))))
     exact hK25 (k + 1, ⟨(t.lo + ((nth v.runs k).wt.lo + (tak ((refTo (nth v.runs k) p) - ((nth v.runs k).frm)) ((nth v.runs k).sp.hi)))), (t.hi + ((nth v.runs k).wt.hi + (tak ((refTo (nth v.runs k) p) - ((nth v.runs k).frm)) ((nth v.runs k).sp.lo))))⟩) _ _ (by show v.runs.length - (k + 1) < v.runs.length - k; omega) ⟨rfl, rfl, rfl, rfl, rfl, trivial⟩ ⟨(((((u27.next u43 (fun _ _ h => h.elim)).next u46 (fun i hi (h : i = bk40) => show i = bk14 by first | omega | assumption)).next u62 (fun _ _ h => h.elim)).next u131 (fun i hi (h : i = bk14) => show i = bk14 by first | omega | assumption)).next u194 (fun i hi (h : i = bk14) => show i = bk14 by first | omega | assumption)), B195, (by omega), (rg_next hinv (by omega) g26 g69), (by show _ ≤ ((t.lo + ((nth v.runs k).wt.lo + (tak ((refTo (nth v.runs k) p) - ((nth v.runs k).frm)) ((nth v.runs k).sp.hi)))) : Int) ∧ ((t.lo + ((nth v.runs k).wt.lo + (tak ((refTo (nth v.runs k) p) - ((nth v.runs k).frm)) ((nth v.runs k).sp.hi)))) : Int) ≤ _; omega), (by show _ ≤ ((t.hi + ((nth v.runs k).wt.hi + (tak ((refTo (nth v.runs k) p) - ((nth v.runs k).frm)) ((nth v.runs k).sp.lo)))) : Int) ∧ ((t.hi + ((nth v.runs k).wt.hi + (tak ((refTo (nth v.runs k) p) - ((nth v.runs k).frm)) ((nth v.runs k).sp.lo)))) : Int) ≤ _; omega)⟩
 ·
  refine c_exit (hK23 _ _ (c_seq fun K204 hK204 => (c_region (t_loadN (vs := [.int .i64 t.lo, .int .i64 t.hi]) Try.isAgg45 Try.sizeOf45 rfl rfl rfl (I28.at.sub 0 2) rfl ?_))))
  have B205 := (((B9.keep u17 (fun h => h)).keep u20 (show ¬ (bk7 = bk14) by first | omega | assumption)).keep u27 (show ¬ (bk7 = bk14) by first | omega | assumption))
  refine t_store (vs := [.int .i64 t.lo, .int .i64 t.hi]) Try.sizeOf45 rfl rfl rfl B205 rfl rfl (Nat.le_of_ble_eq_true rfl) (by simp [Value.oneCell']) (fun w206 sw206 B208 u207 => ?_)
  have zu207 := u207.size
  have E209 := E33.next u207 (fun i hi (h : i = bk7) => show False by first | omega | assumption)
  have B208 : Blk w206 bk7 45 [.int .i64 t.lo, .int .i64 t.hi] := B208
  refine t_nil' (hK204 _ _ (c_ret (f_ret1 (v := .agg #[.int .i64 t.lo, .int .i64 t.hi]) Try.results34 ⟨_, _, rfl, run_loadVarN (vs := [.int .i64 t.lo, .int .i64 t.hi]) Try.isAgg45 Try.sizeOf45 rfl (B208.at.sub 0 2)⟩ ?_)))
  exact ⟨by rw [rg_end hinv (by omega)], E209⟩


theorem rArriveA_c (v : Voy) (ao : Option Addr) (b o cap : Nat) (p : Int) (w0 : World) (hs : Sl encRun 6 w0 ao b o v.runs) (hk : okVoy v = true) (ho : onWay v [p] = true) :
    CallsV Try.prog 34 [.agg #[.int .i64 v.st.lo, .int .i64 v.st.hi, .slice ao ((v.runs).length) cap, .int .i64 v.len, .int .i64 v.wid], .int .i64 p] w0 (fun x w' => x = .agg #[.int .i64 (arr v p).lo, .int .i64 (arr v p).hi] ∧ Ext w0 w') :=
  have h1 := onWay_rng ho
  have h2 := frst_rng hk
  have h3 := lst_rng hk
  have h4 := okVoy_rng hk
  (rArrive_c v ao b o cap p w0 hs h4.few h4.run h4.st (by omega)).mono fun _ _ h => ⟨h.1.trans (by rw [ref_arr hk ho]), h.2⟩

end Go.Proofs.Ytmicjleiheoieaa
