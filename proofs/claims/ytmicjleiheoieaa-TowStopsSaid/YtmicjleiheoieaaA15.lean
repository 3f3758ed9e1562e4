/-
  The law TowStops returns true. Conditions: none.
-/
import Derived.Test.YtmicjleiheoieaaA13
import Derived.Test.YtmicjleiheoieaaA14
namespace Go.Proofs.Ytmicjleiheoieaa
open Go Go.RowKit
theorem mostV_mono {m p g a b : Int} (hm : 0 ≤ m) (hp : 0 ≤ p) (hg : 0 ≤ g) (ha : 0 ≤ a) (hab : a ≤ b) : mostV m p g a ≤ mostV m p g b := by
  have h1 : a * 4320 * p * g ≤ b * 4320 * p * g := Int.mul_le_mul_of_nonneg_right (Int.mul_le_mul_of_nonneg_right (by omega) hp) hg
  have h2 : m * 1000 * a * a ≤ m * 1000 * b * b := by
    have h3 : m * 1000 * a ≤ m * 1000 * b := Int.mul_le_mul_of_nonneg_left hab (by omega)
    exact Int.mul_le_mul h3 hab ha (Int.mul_nonneg (by omega) (by omega))
  have h3 : 0 ≤ wayD p g := Int.mul_nonneg (by omega) hg
  unfold mostV
  rcases Int.lt_or_eq_of_le h3 with h4 | h4
  · refine Int.ediv_le_ediv h4 ?_
    unfold wayN; omega
  · rw [← h4]; simp
theorem safe_unique {m p g s r q : Int} (hm : 0 ≤ m) (hp : 0 ≤ p) (hg : 0 ≤ g) (h : SafeR m p g s r) (h' : RefSafe m p g s q) (h0 : 0 ≤ s) : r = q := by
  obtain ⟨⟨a1, a2⟩, a3, a4⟩ := h
  obtain ⟨⟨b1, b2⟩, b3, b4⟩ := h'
  rcases Int.lt_trichotomy r q with e | e | e
  · have h1 := a4 (by omega)
    have h2 := b3 (by omega)
    have h3 := mostV_mono (m := m) (p := p) (g := g) (a := r + 1) (b := q) hm hp hg (by omega) (by omega)
    omega
  · exact e
  · have := b4 r a1 a2 (a3 (by omega)); omega
theorem okStop_rng {m p lo hi s : Int} (h : okStop m p lo hi s = true) : (0 ≤ m ∧ m ≤ 400000) ∧ (1 ≤ p ∧ p ≤ 20000) ∧ (1 ≤ lo ∧ lo ≤ 1000) ∧ (1 ≤ hi ∧ hi ≤ 1000) ∧ (0 ≤ s ∧ s ≤ 400) := by
  simp [okStop, okBrake] at h; omega

theorem own10 : Own Try.prog 10 := ⟨Try.f10, Try.func10, by kernel_rfl, by kernel_rfl⟩

theorem TowStops_c (m p lo hi s0 s1 : Int) (w0 : World) :
    CallsV Try.prog 10 [.agg #[.int .i64 m, .int .i64 p], .agg #[.int .i64 lo, .int .i64 hi], .agg #[.int .i64 s0, .int .i64 s1]] w0 (fun v w' => v = .bool true ∧ Ext w0 w') := by
  have E0 := Upd.refl (fun _ => False) w0
  refine f_enter (N := 106) Try.func10 rfl rfl rfl ?_
  change WC _ _ _ _ _ _ [(0, .agg #[.int .i64 m, .int .i64 p]), (1, .agg #[.int .i64 lo, .int .i64 hi]), (2, .agg #[.int .i64 s0, .int .i64 s1])] _
  refine c_seq fun K1 hK1 => ?_
  refine c_region ?_
  refine t_box (cs := [.int .i64 m, .int .i64 p]) rfl rfl rfl rfl (fun bk2 w3 ebk2 sbk2 B4 u5 => ?_)
  have zu5 := u5.size
  have E6 := E0.next u5 (fun _ _ h => h.elim)
  refine t_box (cs := [.int .i64 lo, .int .i64 hi]) rfl rfl rfl rfl (fun bk7 w8 ebk7 sbk7 B9 u10 => ?_)
  have zu10 := u10.size
  have E11 := E6.next u10 (fun _ _ h => h.elim)
  refine t_box (cs := [.int .i64 s0, .int .i64 s1]) rfl rfl rfl rfl (fun bk12 w13 ebk12 sbk12 B14 u15 => ?_)
  have zu15 := u15.size
  have E16 := E11.next u15 (fun _ _ h => h.elim)
  refine t_assign rfl rfl rfl ?_
  refine t_nil' ?_
  refine hK1 _ _ ?_
  refine c_seq fun K17 hK17 => ?_
  refine c_region ?_
  refine t_indexArr (j := 0) (0) Try.underlying82 Try.sizeOf3 rfl rfl rfl rfl rfl (by decide) rfl ?_
  have B18 := ((B4.keep u10 (fun h => h)).keep u15 (fun h => h))
  refine t_load Try.isAgg3 rfl rfl rfl (B18.get rfl) ?_
  refine t_indexArr (j := 1) (1) Try.underlying82 Try.sizeOf3 rfl rfl rfl rfl rfl (by decide) rfl ?_
  refine t_load Try.isAgg3 rfl rfl rfl (B18.get rfl) ?_
  have B19 := (B9.keep u15 (fun h => h))
  refine t_loadN (vs := [.int .i64 lo, .int .i64 hi]) Try.isAgg45 Try.sizeOf45 rfl rfl rfl (B19.at.sub 0 2) rfl ?_
  refine t_indexArr (j := 0) (0) Try.underlying82 Try.sizeOf3 rfl rfl rfl rfl rfl (by decide) rfl ?_
  refine t_load Try.isAgg3 rfl rfl rfl (B14.get rfl) ?_
  refine t_call (vs := [.int .i64 m, .int .i64 p, .agg #[.int .i64 lo, .int .i64 hi], .int .i64 s0]) own46 rfl rfl rfl rfl (Stop_c m p lo hi s0 _) (fun v20 w21 r23 => ?_)
  obtain ⟨rfl, u22⟩ := r23
  have zu22 := u22.size
  have E24 := E16.next u22 (fun _ _ h => h.elim)
  refine t_move rfl rfl rfl ?_
  refine t_extract (vs := [.agg #[.int .i64 ((StopB m p lo hi s0).lo), .int .i64 ((StopB m p lo hi s0).hi)], .int .i64 (StopE m p lo hi s0)]) rfl rfl rfl rfl ?_
  refine t_extract (vs := [.agg #[.int .i64 ((StopB m p lo hi s0).lo), .int .i64 ((StopB m p lo hi s0).hi)], .int .i64 (StopE m p lo hi s0)]) rfl rfl rfl rfl ?_
  refine t_alloc (cs := [.int .i64 0, .int .i64 0]) Try.zeroValue45 rfl rfl rfl (fun bk25 w26 ebk25 sbk25 B27 u28 => ?_)
  have zu28 := u28.size
  have E29 := E24.next u28 (fun _ _ h => h.elim)
  refine t_store (vs := [.int .i64 ((StopB m p lo hi s0).lo), .int .i64 ((StopB m p lo hi s0).hi)]) Try.sizeOf45 rfl rfl rfl B27 rfl rfl (Nat.le_of_ble_eq_true rfl) (by simp [Value.oneCell']) (fun w30 sw30 B32 u31 => ?_)
  have zu31 := u31.size
  have E33 := E29.next u31 (fun i hi (h : i = bk25) => show False by first | omega | assumption)
  have B32 : Blk w30 bk25 45 [.int .i64 ((StopB m p lo hi s0).lo), .int .i64 ((StopB m p lo hi s0).hi)] := B32
  refine t_assign rfl rfl rfl ?_
  refine t_nil' ?_
  refine hK17 _ _ ?_
  refine c_seq fun K34 hK34 => ?_
  refine c_region ?_
  refine t_indexArr (j := 0) (0) Try.underlying82 Try.sizeOf3 rfl rfl rfl rfl rfl (by decide) rfl ?_
  have B35 := (((B18.keep u22 (fun h => h)).keep u28 (fun h => h)).keep u31 (show ¬ (bk2 = bk25) by first | omega | assumption))
  refine t_load Try.isAgg3 rfl rfl rfl (B35.get rfl) ?_
  refine t_indexArr (j := 1) (1) Try.underlying82 Try.sizeOf3 rfl rfl rfl rfl rfl (by decide) rfl ?_
  refine t_load Try.isAgg3 rfl rfl rfl (B35.get rfl) ?_
  have B36 := (((B19.keep u22 (fun h => h)).keep u28 (fun h => h)).keep u31 (show ¬ (bk7 = bk25) by first | omega | assumption))
  refine t_loadN (vs := [.int .i64 lo, .int .i64 hi]) Try.isAgg45 Try.sizeOf45 rfl rfl rfl (B36.at.sub 0 2) rfl ?_
  refine t_indexArr (j := 1) (1) Try.underlying82 Try.sizeOf3 rfl rfl rfl rfl rfl (by decide) rfl ?_
  have B37 := (((B14.keep u22 (fun h => h)).keep u28 (fun h => h)).keep u31 (show ¬ (bk12 = bk25) by first | omega | assumption))
  refine t_load Try.isAgg3 rfl rfl rfl (B37.get rfl) ?_
  refine t_call (vs := [.int .i64 m, .int .i64 p, .agg #[.int .i64 lo, .int .i64 hi], .int .i64 s1]) own47 rfl rfl rfl rfl (Safe_c m p lo hi s1 _) (fun v38 w39 r41 => ?_)
  obtain ⟨⟨n, f, rfl, hsafe⟩, u40⟩ := r41
  have zu40 := u40.size
  have E42 := E33.next u40 (fun _ _ h => h.elim)
  refine t_move rfl rfl rfl ?_
  refine t_extract (vs := [.int .i64 n, .int .i64 f]) rfl rfl rfl rfl ?_
  refine t_extract (vs := [.int .i64 n, .int .i64 f]) rfl rfl rfl rfl ?_
  refine t_assign rfl rfl rfl ?_
  refine t_assign rfl rfl rfl ?_
  refine t_nil' ?_
  refine hK34 _ _ ?_
  refine c_seq fun K43 hK43 => ?_
  refine c_seq fun K44 hK44 => ?_
  refine c_region ?_
  refine t_indexArr (j := 0) (0) Try.underlying82 Try.sizeOf3 rfl rfl rfl rfl rfl (by decide) rfl ?_
  have B45 := (B35.keep u40 (fun h => h))
  refine t_load Try.isAgg3 rfl rfl rfl (B45.get rfl) ?_
  refine t_indexArr (j := 1) (1) Try.underlying82 Try.sizeOf3 rfl rfl rfl rfl rfl (by decide) rfl ?_
  refine t_load Try.isAgg3 rfl rfl rfl (B45.get rfl) ?_
  have B46 := (B36.keep u40 (fun h => h))
  refine t_loadN (vs := [.int .i64 lo, .int .i64 hi]) Try.isAgg45 Try.sizeOf45 rfl rfl rfl (B46.at.sub 0 2) rfl ?_
  refine t_indexArr (j := 0) (0) Try.underlying82 Try.sizeOf3 rfl rfl rfl rfl rfl (by decide) rfl ?_
  have B47 := (B37.keep u40 (fun h => h))
  refine t_load Try.isAgg3 rfl rfl rfl (B47.get rfl) ?_
  refine t_call (vs := [.int .i64 m, .int .i64 p, .agg #[.int .i64 lo, .int .i64 hi], .int .i64 s0]) own48 rfl rfl rfl rfl (rStops_c m p lo hi s0 _) (fun v48 w49 r51 => ?_)
  obtain ⟨rfl, u50⟩ := r51
  have zu50 := u50.size
  have E52 := E42.next u50 (fun _ _ h => h.elim)
  refine t_not rfl rfl rfl ?_
  refine t_nil' ?_
  refine hK44 _ _ ?_
  refine c_cond rfl (fun g41 => ?_) (fun g41 => ?_)
  · -- .bool (!(okStop m p lo hi s0))
    refine c_seq fun K53 hK53 => ?_
    refine c_region ?_
    refine t_move rfl rfl rfl ?_
    refine t_cmp rfl rfl rfl rfl rfl ?_
    refine t_move rfl rfl rfl ?_
    refine t_splitp 44 rfl (fun g44 => ?_) (fun g44 => ?_)
    · -- .bool (decide ((StopE m p lo hi s0) ≠ 3))
      refine t_skip rfl rfl rfl ?_
      refine t_skip rfl rfl rfl ?_
      refine t_skip rfl rfl rfl ?_
      refine t_pick_t rfl rfl rfl rfl ?_
      refine t_nil' ?_
      refine hK53 _ _ ?_
      refine c_cond_t rfl ?_
      refine c_seq fun K54 hK54 => ?_
      refine c_region ?_
      refine t_assign rfl rfl rfl ?_
      refine t_nil' ?_
      refine hK54 _ _ ?_
      refine c_ret ?_
      refine f_ret1 (v := .bool false) Try.results10 rfl ?_
      have hbad : okStop m p lo hi s0 = false := by simpa using g41
      exact False.elim (g44 (by simp [StopE, hbad]))
    · -- not .bool (decide ((StopE m p lo hi s0) ≠ 3))
      have B55 := ((B32.keep u40 (fun h => h)).keep u50 (fun h => h))
      refine t_loadN (vs := [.int .i64 ((StopB m p lo hi s0).lo), .int .i64 ((StopB m p lo hi s0).hi)]) Try.isAgg45 Try.sizeOf45 rfl rfl rfl (B55.at.sub 0 2) rfl ?_
      refine t_build (ps := []) (v := .agg #[.int .i64 0, .int .i64 0]) rfl rfl ⟨rfl, rfl⟩ (fun w => by kernel_rfl) ?_
      refine t_neS (xs := [.int .i64 ((StopB m p lo hi s0).lo), .int .i64 ((StopB m p lo hi s0).hi)]) (ys := [.int .i64 0, .int .i64 0]) (by kernel_rfl) (eqIn45 9998 ((StopB m p lo hi s0).lo) ((StopB m p lo hi s0).hi) 0 0) rfl rfl rfl rfl ?_
      refine t_pick_f rfl rfl rfl rfl ?_
      refine t_nil' ?_
      refine hK53 _ _ ?_
      refine c_cond rfl (fun g48 => ?_) (fun g48 => ?_)
      · -- .bool (!(decide ((StopB m p lo hi s0).lo = 0) && decide ((StopB m p lo hi s0).hi = 0)))
        refine c_seq fun K56 hK56 => ?_
        refine c_region ?_
        refine t_assign rfl rfl rfl ?_
        refine t_nil' ?_
        refine hK56 _ _ ?_
        refine c_ret ?_
        refine f_ret1 (v := .bool false) Try.results10 rfl ?_
        have hbad : okStop m p lo hi s0 = false := by simpa using g41
        exact False.elim (absurd g48 (by simp [StopB, hbad]))
      · -- not .bool (!(decide ((StopB m p lo hi s0).lo = 0) && decide ((StopB m p lo hi s0).hi = 0)))
        refine c_skip ?_
        refine hK43 _ _ ?_
        refine c_seq fun K57 hK57 => ?_
        refine c_seq fun K58 hK58 => ?_
        refine c_region ?_
        refine t_indexArr (j := 0) (0) Try.underlying82 Try.sizeOf3 rfl rfl rfl rfl rfl (by decide) rfl ?_
        have B59 := (B45.keep u50 (fun h => h))
        refine t_load Try.isAgg3 rfl rfl rfl (B59.get rfl) ?_
        refine t_indexArr (j := 1) (1) Try.underlying82 Try.sizeOf3 rfl rfl rfl rfl rfl (by decide) rfl ?_
        refine t_load Try.isAgg3 rfl rfl rfl (B59.get rfl) ?_
        have B60 := (B46.keep u50 (fun h => h))
        refine t_loadN (vs := [.int .i64 lo, .int .i64 hi]) Try.isAgg45 Try.sizeOf45 rfl rfl rfl (B60.at.sub 0 2) rfl ?_
        refine t_call (vs := [.int .i64 m, .int .i64 p, .agg #[.int .i64 lo, .int .i64 hi], .int .i64 0]) own48 rfl rfl rfl rfl (rStops_c m p lo hi 0 _) (fun v61 w62 r64 => ?_)
        obtain ⟨rfl, u63⟩ := r64
        have zu63 := u63.size
        have E65 := E52.next u63 (fun _ _ h => h.elim)
        refine t_not rfl rfl rfl ?_
        refine t_move rfl rfl rfl ?_
        refine t_split 70 rfl (fun g70 => ?_) (fun g70 => ?_)
        · -- .bool (!(okStop m p lo hi 0))
          refine t_skip rfl rfl rfl ?_
          refine t_skip rfl rfl rfl ?_
          refine t_skip rfl rfl rfl ?_
          refine t_pick_t rfl rfl rfl rfl ?_
          refine t_move rfl rfl rfl ?_
          refine t_skip rfl rfl rfl ?_
          refine t_skip rfl rfl rfl ?_
          refine t_skip rfl rfl rfl ?_
          refine t_pick_t rfl rfl rfl rfl ?_
          refine t_nil' ?_
          refine hK58 _ _ ?_
          refine c_cond_t rfl ?_
          refine c_seq fun K66 hK66 => ?_
          refine c_region ?_
          refine t_move rfl rfl rfl ?_
          refine t_cmp rfl rfl rfl rfl rfl ?_
          refine t_move rfl rfl rfl ?_
          refine t_splitp 82 rfl (fun g82 => ?_) (fun g82 => ?_)
          · -- .bool (decide (f = 3))
            refine t_move rfl rfl rfl ?_
            refine t_cmp rfl rfl rfl rfl rfl ?_
            refine t_pick_t rfl rfl rfl rfl ?_
            refine t_move rfl rfl rfl ?_
            refine t_splitp 86 rfl (fun g86 => ?_) (fun g86 => ?_)
            · -- .bool (decide (n = 0))
              refine t_call (vs := []) own16 rfl rfl rfl rfl (known_c _) (fun v67 w68 r70 => ?_)
              obtain ⟨rfl, u69⟩ := r70
              have zu69 := u69.size
              have E71 := E65.next u69 (fun _ _ h => h.elim)
              refine t_pick_t rfl rfl rfl rfl ?_
              refine t_assign rfl rfl rfl ?_
              refine t_nil' ?_
              refine hK66 _ _ ?_
              refine c_ret ?_
              refine f_ret1 (v := .bool true) Try.results10 rfl ?_
              exact ⟨rfl, E71⟩
            · -- not .bool (decide (n = 0))
              refine t_skip rfl rfl rfl ?_
              refine t_pick_f rfl rfl rfl rfl ?_
              refine t_assign rfl rfl rfl ?_
              refine t_nil' ?_
              refine hK66 _ _ ?_
              refine c_ret ?_
              refine f_ret1 (v := .bool false) Try.results10 rfl ?_
              have hns : okSafe m p lo hi s1 = false := by simp_all [okSafe, okStop]
              have hS : n = 0 ∧ f = 3 := by have h := hsafe; unfold SafeQ at h; rw [if_neg (by simp [hns])] at h; exact h
              exact False.elim (g86 hS.1)
          · -- not .bool (decide (f = 3))
            refine t_skip rfl rfl rfl ?_
            refine t_skip rfl rfl rfl ?_
            refine t_pick_f rfl rfl rfl rfl ?_
            refine t_move rfl rfl rfl ?_
            refine t_skip rfl rfl rfl ?_
            refine t_pick_f rfl rfl rfl rfl ?_
            refine t_assign rfl rfl rfl ?_
            refine t_nil' ?_
            refine hK66 _ _ ?_
            refine c_ret ?_
            refine f_ret1 (v := .bool false) Try.results10 rfl ?_
            have hns : okSafe m p lo hi s1 = false := by simp_all [okSafe, okStop]
            have hS : n = 0 ∧ f = 3 := by have h := hsafe; unfold SafeQ at h; rw [if_neg (by simp [hns])] at h; exact h
            exact False.elim (g82 hS.2)
        · -- not .bool (!(okStop m p lo hi 0))
          have hr0 := okStop_rng (show okStop m p lo hi 0 = true by simpa using g70)
          refine t_indexArr (j := 1) (1) Try.underlying82 Try.sizeOf3 rfl rfl rfl rfl rfl (by decide) rfl ?_
          have B72 := ((B47.keep u50 (fun h => h)).keep u63 (fun h => h))
          refine t_load Try.isAgg3 rfl rfl rfl (B72.get rfl) ?_
          refine t_cmp rfl rfl rfl rfl rfl ?_
          refine t_pick_f rfl rfl rfl rfl ?_
          refine t_move rfl rfl rfl ?_
          refine t_splitp 75 rfl (fun g75 => ?_) (fun g75 => ?_)
          · -- .bool (decide (s1 < 0))
            refine t_skip rfl rfl rfl ?_
            refine t_skip rfl rfl rfl ?_
            refine t_skip rfl rfl rfl ?_
            refine t_pick_t rfl rfl rfl rfl ?_
            refine t_nil' ?_
            refine hK58 _ _ ?_
            refine c_cond_t rfl ?_
            refine c_seq fun K73 hK73 => ?_
            refine c_region ?_
            refine t_move rfl rfl rfl ?_
            refine t_cmp rfl rfl rfl rfl rfl ?_
            refine t_move rfl rfl rfl ?_
            refine t_splitp 82 rfl (fun g82 => ?_) (fun g82 => ?_)
            · -- .bool (decide (f = 3))
              refine t_move rfl rfl rfl ?_
              refine t_cmp rfl rfl rfl rfl rfl ?_
              refine t_pick_t rfl rfl rfl rfl ?_
              refine t_move rfl rfl rfl ?_
              refine t_splitp 86 rfl (fun g86 => ?_) (fun g86 => ?_)
              · -- .bool (decide (n = 0))
                refine t_call (vs := []) own16 rfl rfl rfl rfl (known_c _) (fun v74 w75 r77 => ?_)
                obtain ⟨rfl, u76⟩ := r77
                have zu76 := u76.size
                have E78 := E65.next u76 (fun _ _ h => h.elim)
                refine t_pick_t rfl rfl rfl rfl ?_
                refine t_assign rfl rfl rfl ?_
                refine t_nil' ?_
                refine hK73 _ _ ?_
                refine c_ret ?_
                refine f_ret1 (v := .bool true) Try.results10 rfl ?_
                exact ⟨rfl, E78⟩
              · -- not .bool (decide (n = 0))
                refine t_skip rfl rfl rfl ?_
                refine t_pick_f rfl rfl rfl rfl ?_
                refine t_assign rfl rfl rfl ?_
                refine t_nil' ?_
                refine hK73 _ _ ?_
                refine c_ret ?_
                refine f_ret1 (v := .bool false) Try.results10 rfl ?_
                have hns : okSafe m p lo hi s1 = false := by simp [okSafe]; intro _; omega
                have hS : n = 0 ∧ f = 3 := by have h := hsafe; unfold SafeQ at h; rw [if_neg (by simp [hns])] at h; exact h
                exact False.elim (g86 hS.1)
            · -- not .bool (decide (f = 3))
              refine t_skip rfl rfl rfl ?_
              refine t_skip rfl rfl rfl ?_
              refine t_pick_f rfl rfl rfl rfl ?_
              refine t_move rfl rfl rfl ?_
              refine t_skip rfl rfl rfl ?_
              refine t_pick_f rfl rfl rfl rfl ?_
              refine t_assign rfl rfl rfl ?_
              refine t_nil' ?_
              refine hK73 _ _ ?_
              refine c_ret ?_
              refine f_ret1 (v := .bool false) Try.results10 rfl ?_
              have hns : okSafe m p lo hi s1 = false := by simp [okSafe]; intro _; omega
              have hS : n = 0 ∧ f = 3 := by have h := hsafe; unfold SafeQ at h; rw [if_neg (by simp [hns])] at h; exact h
              exact False.elim (g82 hS.2)
          · -- not .bool (decide (s1 < 0))
            refine t_indexArr (j := 1) (1) Try.underlying82 Try.sizeOf3 rfl rfl rfl rfl rfl (by decide) rfl ?_
            refine t_load Try.isAgg3 rfl rfl rfl (B72.get rfl) ?_
            refine t_cmp rfl rfl rfl rfl rfl ?_
            refine t_pick_f rfl rfl rfl rfl ?_
            refine t_nil' ?_
            refine hK58 _ _ ?_
            refine c_condp rfl (fun g79 => ?_) (fun g79 => ?_)
            · -- .bool (decide (100000 < s1))
              refine c_seq fun K79 hK79 => ?_
              refine c_region ?_
              refine t_move rfl rfl rfl ?_
              refine t_cmp rfl rfl rfl rfl rfl ?_
              refine t_move rfl rfl rfl ?_
              refine t_splitp 82 rfl (fun g82 => ?_) (fun g82 => ?_)
              · -- .bool (decide (f = 3))
                refine t_move rfl rfl rfl ?_
                refine t_cmp rfl rfl rfl rfl rfl ?_
                refine t_pick_t rfl rfl rfl rfl ?_
                refine t_move rfl rfl rfl ?_
                refine t_splitp 86 rfl (fun g86 => ?_) (fun g86 => ?_)
                · -- .bool (decide (n = 0))
                  refine t_call (vs := []) own16 rfl rfl rfl rfl (known_c _) (fun v80 w81 r83 => ?_)
                  obtain ⟨rfl, u82⟩ := r83
                  have zu82 := u82.size
                  have E84 := E65.next u82 (fun _ _ h => h.elim)
                  refine t_pick_t rfl rfl rfl rfl ?_
                  refine t_assign rfl rfl rfl ?_
                  refine t_nil' ?_
                  refine hK79 _ _ ?_
                  refine c_ret ?_
                  refine f_ret1 (v := .bool true) Try.results10 rfl ?_
                  exact ⟨rfl, E84⟩
                · -- not .bool (decide (n = 0))
                  refine t_skip rfl rfl rfl ?_
                  refine t_pick_f rfl rfl rfl rfl ?_
                  refine t_assign rfl rfl rfl ?_
                  refine t_nil' ?_
                  refine hK79 _ _ ?_
                  refine c_ret ?_
                  refine f_ret1 (v := .bool false) Try.results10 rfl ?_
                  have hns : okSafe m p lo hi s1 = false := by simp [okSafe]; intro _; omega
                  have hS : n = 0 ∧ f = 3 := by have h := hsafe; unfold SafeQ at h; rw [if_neg (by simp [hns])] at h; exact h
                  exact False.elim (g86 hS.1)
              · -- not .bool (decide (f = 3))
                refine t_skip rfl rfl rfl ?_
                refine t_skip rfl rfl rfl ?_
                refine t_pick_f rfl rfl rfl rfl ?_
                refine t_move rfl rfl rfl ?_
                refine t_skip rfl rfl rfl ?_
                refine t_pick_f rfl rfl rfl rfl ?_
                refine t_assign rfl rfl rfl ?_
                refine t_nil' ?_
                refine hK79 _ _ ?_
                refine c_ret ?_
                refine f_ret1 (v := .bool false) Try.results10 rfl ?_
                have hns : okSafe m p lo hi s1 = false := by simp [okSafe]; intro _; omega
                have hS : n = 0 ∧ f = 3 := by have h := hsafe; unfold SafeQ at h; rw [if_neg (by simp [hns])] at h; exact h
                exact False.elim (g82 hS.2)
            · -- not .bool (decide (100000 < s1))
              refine c_skip ?_
              refine hK57 _ _ ?_
              refine c_seq fun K85 hK85 => ?_
              refine c_region ?_
              refine t_move rfl rfl rfl ?_
              refine t_cmp rfl rfl rfl rfl rfl ?_
              refine t_move rfl rfl rfl ?_
              refine t_splitp 91 rfl (fun g91 => ?_) (fun g91 => ?_)
              · -- .bool (decide (f = 0))
                refine t_move rfl rfl rfl ?_
                refine t_indexArr (j := 0) (0) Try.underlying82 Try.sizeOf3 rfl rfl rfl rfl rfl (by decide) rfl ?_
                have B86 := (B59.keep u63 (fun h => h))
                refine t_load Try.isAgg3 rfl rfl rfl (B86.get rfl) ?_
                refine t_indexArr (j := 1) (1) Try.underlying82 Try.sizeOf3 rfl rfl rfl rfl rfl (by decide) rfl ?_
                refine t_load Try.isAgg3 rfl rfl rfl (B86.get rfl) ?_
                have B87 := (B60.keep u63 (fun h => h))
                refine t_loadN (vs := [.int .i64 lo, .int .i64 hi]) Try.isAgg45 Try.sizeOf45 rfl rfl rfl (B87.at.sub 0 2) rfl ?_
                refine t_indexArr (j := 1) (1) Try.underlying82 Try.sizeOf3 rfl rfl rfl rfl rfl (by decide) rfl ?_
                refine t_load Try.isAgg3 rfl rfl rfl (B72.get rfl) ?_
                refine t_call (vs := [.int .i64 m, .int .i64 p, .agg #[.int .i64 lo, .int .i64 hi], .int .i64 s1]) own50 rfl rfl rfl rfl (rSafe_c m p lo hi s1 _ hr0.1 hr0.2.1 hr0.2.2.1 hr0.2.2.2.1) (fun v88 w89 r91 => ?_)
                obtain ⟨⟨q, rfl, href⟩, u90⟩ := r91
                have zu90 := u90.size
                have E92 := E65.next u90 (fun _ _ h => h.elim)
                refine t_cmp rfl rfl rfl rfl rfl ?_
                refine t_pick_t rfl rfl rfl rfl ?_
                refine t_move rfl rfl rfl ?_
                refine t_splitp 103 rfl (fun g103 => ?_) (fun g103 => ?_)
                · -- .bool (decide (n = q))
                  refine t_call (vs := []) own16 rfl rfl rfl rfl (known_c _) (fun v93 w94 r96 => ?_)
                  obtain ⟨rfl, u95⟩ := r96
                  have zu95 := u95.size
                  have E97 := E92.next u95 (fun _ _ h => h.elim)
                  refine t_pick_t rfl rfl rfl rfl ?_
                  refine t_assign rfl rfl rfl ?_
                  refine t_nil' ?_
                  refine hK85 _ _ ?_
                  refine c_ret ?_
                  refine f_ret1 (v := .bool true) Try.results10 rfl ?_
                  exact ⟨rfl, E97⟩
                · -- not .bool (decide (n = q))
                  refine t_skip rfl rfl rfl ?_
                  refine t_pick_f rfl rfl rfl rfl ?_
                  refine t_assign rfl rfl rfl ?_
                  refine t_nil' ?_
                  refine hK85 _ _ ?_
                  refine c_ret ?_
                  refine f_ret1 (v := .bool false) Try.results10 rfl ?_
                  have hob : okBrake m p lo hi = true := by simp_all [okStop]
                  have hys : okSafe m p lo hi s1 = true := by simp [okSafe, hob]; omega
                  have hS : f = 0 ∧ SafeR m p lo s1 n := by have h := hsafe; unfold SafeQ at h; rw [if_pos hys] at h; exact h
                  exact False.elim (g103 (safe_unique (by omega) (by omega) (by omega) hS.2 href (by omega)))
              · -- not .bool (decide (f = 0))
                refine t_skip rfl rfl rfl ?_
                refine t_skip rfl rfl rfl ?_
                refine t_skip rfl rfl rfl ?_
                refine t_skip rfl rfl rfl ?_
                refine t_skip rfl rfl rfl ?_
                refine t_skip rfl rfl rfl ?_
                refine t_skip rfl rfl rfl ?_
                refine t_skip rfl rfl rfl ?_
                refine t_skip rfl rfl rfl ?_
                refine t_skip rfl rfl rfl ?_
                refine t_pick_f rfl rfl rfl rfl ?_
                refine t_move rfl rfl rfl ?_
                refine t_skip rfl rfl rfl ?_
                refine t_pick_f rfl rfl rfl rfl ?_
                refine t_assign rfl rfl rfl ?_
                refine t_nil' ?_
                refine hK85 _ _ ?_
                refine c_ret ?_
                refine f_ret1 (v := .bool false) Try.results10 rfl ?_
                have hob : okBrake m p lo hi = true := by simp_all [okStop]
                have hys : okSafe m p lo hi s1 = true := by simp [okSafe, hob]; omega
                have hS : f = 0 ∧ SafeR m p lo s1 n := by have h := hsafe; unfold SafeQ at h; rw [if_pos hys] at h; exact h
                exact False.elim (g91 hS.1)
  · -- not .bool (!(okStop m p lo hi s0))
    have hr1 := okStop_rng (show okStop m p lo hi s0 = true by simpa using g41)
    refine c_seq fun K98 hK98 => ?_
    by_cases g51 : (StopE m p lo hi s0) ≠ 0
    ·
      refine WC.weak [(0, .agg #[.int .i64 m, .int .i64 p]), (1, .agg #[.int .i64 lo, .int .i64 hi]), (2, .agg #[.int .i64 s0, .int .i64 s1]), (3, .pointer (some ⟨bk2, 0, none⟩)), (4, .pointer (some ⟨bk7, 0, none⟩)), (5, .pointer (some ⟨bk12, 0, none⟩)), (6, .bool false), (7, .pointer (some ⟨bk25, 0, none⟩)), (8, .int .i64 (StopE m p lo hi s0)), (9, .int .i64 n), (10, .int .i64 f), (11, .tuple #[.agg #[.int .i64 ((StopB m p lo hi s0).lo), .int .i64 ((StopB m p lo hi s0).hi)], .int .i64 (StopE m p lo hi s0)]), (12, .pointer (some ⟨bk2, 0, none⟩)), (13, .int .i64 m), (14, .pointer (some ⟨bk2, 1, none⟩)), (15, .int .i64 p), (16, .agg #[.int .i64 lo, .int .i64 hi]), (17, .pointer (some ⟨bk12, 0, none⟩)), (18, .int .i64 s0), (19, .tuple #[.agg #[.int .i64 ((StopB m p lo hi s0).lo), .int .i64 ((StopB m p lo hi s0).hi)], .int .i64 (StopE m p lo hi s0)]), (20, .agg #[.int .i64 ((StopB m p lo hi s0).lo), .int .i64 ((StopB m p lo hi s0).hi)]), (21, .int .i64 (StopE m p lo hi s0)), (22, .tuple #[.int .i64 n, .int .i64 f]), (23, .pointer (some ⟨bk2, 0, none⟩)), (24, .int .i64 m), (25, .pointer (some ⟨bk2, 1, none⟩)), (26, .int .i64 p), (27, .agg #[.int .i64 lo, .int .i64 hi]), (28, .pointer (some ⟨bk12, 1, none⟩)), (29, .int .i64 s1), (30, .tuple #[.int .i64 n, .int .i64 f]), (31, .int .i64 n), (32, .int .i64 f), (33, .pointer (some ⟨bk2, 0, none⟩)), (34, .int .i64 m), (35, .pointer (some ⟨bk2, 1, none⟩)), (36, .int .i64 p), (37, .agg #[.int .i64 lo, .int .i64 hi]), (38, .pointer (some ⟨bk12, 0, none⟩)), (39, .int .i64 s0), (40, .bool (okStop m p lo hi s0)), (41, .bool (!(okStop m p lo hi s0)))] ⟨rfl, rfl, rfl, rfl, rfl, rfl, rfl, rfl, rfl, rfl, rfl, rfl, rfl, rfl, rfl, rfl, rfl, rfl, rfl, rfl, rfl, rfl, rfl, rfl, rfl, rfl, rfl, rfl, rfl, rfl, rfl, rfl, rfl, rfl, rfl, rfl, rfl, rfl, rfl, rfl, rfl, rfl, trivial⟩ ?_
      refine c_drawn follows 14 [some (49, some (.int .i64 (StopE m p lo hi s0))), some (50, some (.bool (decide ((StopE m p lo hi s0) ≠ 0)))), some (51, some (.bool true)), some (52, some (undef)), some (53, some (undef)), some (54, some (undef)), some (55, some (undef)), some (56, some (undef)), some (57, some (undef)), some (58, some (undef)), some (59, some (undef)), some (60, some (undef)), some (61, some (undef)), some (62, some (.bool true))] [[], [0], [1], [2], [2], [4, 2], [2], [6, 2], [2], [2], [9, 2], [5, 7, 8, 10, 2, 2], [3, 11, 2], [2, 12]] (fun _ _ w => Upd (fun _ => False) w49 w) rfl rfl rfl (by kernel_rfl) (by kernel_rfl) (Upd.drew _).to ⟨?_, ?_, ?_, ?_, ?_, ?_, ?_, ?_, ?_, ?_, ?_, ?_, ?_, ?_, trivial⟩ ?_
      · exact fun D ρ w hcD hnD hdD hW => ⟨[(8, .int .i64 (StopE m p lo hi s0))], ⟨.inr ⟨rfl, rfl⟩, trivial⟩, fun Lr => t_move rfl rfl rfl (t_nil' fun a ha => ⟨rfl, _, (fun v' h => by cases h; rfl), ha, hW⟩)⟩
      · exact fun D ρ w hcD hnD hdD hW => ⟨[(49, .int .i64 (StopE m p lo hi s0))], ⟨.inl ⟨0, some (.int .i64 (StopE m p lo hi s0)), rfl, rfl, rfl⟩, trivial⟩, fun Lr => t_cmp rfl rfl rfl rfl rfl (t_nil' fun a ha => ⟨rfl, _, (fun v' h => by cases h; rfl), ha, hW⟩)⟩
      · exact fun D ρ w hcD hnD hdD hW => ⟨[(50, .bool (decide ((StopE m p lo hi s0) ≠ 0)))], ⟨.inl ⟨1, some (.bool (decide ((StopE m p lo hi s0) ≠ 0))), rfl, rfl, rfl⟩, trivial⟩, fun Lr => t_move rfl rfl rfl (t_samehd (v := .bool true) (by first | exact congrArg Value.bool (decide_eq_true g51) | exact congrArg Value.bool g51 | simp [g51]) (t_nil' fun a ha => ⟨rfl, _, (fun v' h => by cases h; rfl), ha, hW⟩))⟩
      · exact fun D ρ w hcD hnD hdD hW => ⟨[(7, .pointer (some ⟨bk25, 0, none⟩)), (51, .bool true)], ⟨.inr ⟨rfl, rfl⟩, .inl ⟨2, some (.bool true), rfl, rfl, rfl⟩, trivial⟩, fun Lr => t_skip rfl rfl rfl (t_nil' fun a ha => ⟨rfl, _, (fun v' h => by cases h; rfl), ha, hW⟩)⟩
      · exact fun D ρ w hcD hnD hdD hW => ⟨[(3, .pointer (some ⟨bk2, 0, none⟩)), (51, .bool true)], ⟨.inr ⟨rfl, rfl⟩, .inl ⟨2, some (.bool true), rfl, rfl, rfl⟩, trivial⟩, fun Lr => t_skip rfl rfl rfl (t_nil' fun a ha => ⟨rfl, _, (fun v' h => by cases h; rfl), ha, hW⟩)⟩
      · exact fun D ρ w hcD hnD hdD hW => ⟨[(51, .bool true), (53, undef)], ⟨.inl ⟨2, some (.bool true), rfl, rfl, rfl⟩, .inl ⟨4, some (undef), rfl, rfl, rfl⟩, trivial⟩, fun Lr => t_skip rfl rfl rfl (t_nil' fun a ha => ⟨rfl, _, (fun v' h => by cases h; rfl), ha, hW⟩)⟩
      · exact fun D ρ w hcD hnD hdD hW => ⟨[(3, .pointer (some ⟨bk2, 0, none⟩)), (51, .bool true)], ⟨.inr ⟨rfl, rfl⟩, .inl ⟨2, some (.bool true), rfl, rfl, rfl⟩, trivial⟩, fun Lr => t_skip rfl rfl rfl (t_nil' fun a ha => ⟨rfl, _, (fun v' h => by cases h; rfl), ha, hW⟩)⟩
      · exact fun D ρ w hcD hnD hdD hW => ⟨[(51, .bool true), (55, undef)], ⟨.inl ⟨2, some (.bool true), rfl, rfl, rfl⟩, .inl ⟨6, some (undef), rfl, rfl, rfl⟩, trivial⟩, fun Lr => t_skip rfl rfl rfl (t_nil' fun a ha => ⟨rfl, _, (fun v' h => by cases h; rfl), ha, hW⟩)⟩
      · exact fun D ρ w hcD hnD hdD hW => ⟨[(4, .pointer (some ⟨bk7, 0, none⟩)), (51, .bool true)], ⟨.inr ⟨rfl, rfl⟩, .inl ⟨2, some (.bool true), rfl, rfl, rfl⟩, trivial⟩, fun Lr => t_skip rfl rfl rfl (t_nil' fun a ha => ⟨rfl, _, (fun v' h => by cases h; rfl), ha, hW⟩)⟩
      · exact fun D ρ w hcD hnD hdD hW => ⟨[(5, .pointer (some ⟨bk12, 0, none⟩)), (51, .bool true)], ⟨.inr ⟨rfl, rfl⟩, .inl ⟨2, some (.bool true), rfl, rfl, rfl⟩, trivial⟩, fun Lr => t_skip rfl rfl rfl (t_nil' fun a ha => ⟨rfl, _, (fun v' h => by cases h; rfl), ha, hW⟩)⟩
      · exact fun D ρ w hcD hnD hdD hW => ⟨[(51, .bool true), (58, undef)], ⟨.inl ⟨2, some (.bool true), rfl, rfl, rfl⟩, .inl ⟨9, some (undef), rfl, rfl, rfl⟩, trivial⟩, fun Lr => t_skip rfl rfl rfl (t_nil' fun a ha => ⟨rfl, _, (fun v' h => by cases h; rfl), ha, hW⟩)⟩
      · exact fun D ρ w hcD hnD hdD hW => ⟨[(51, .bool true), (54, undef), (56, undef), (57, undef), (59, undef)], ⟨.inl ⟨2, some (.bool true), rfl, rfl, rfl⟩, .inl ⟨5, some (undef), rfl, rfl, rfl⟩, .inl ⟨7, some (undef), rfl, rfl, rfl⟩, .inl ⟨8, some (undef), rfl, rfl, rfl⟩, .inl ⟨10, some (undef), rfl, rfl, rfl⟩, trivial⟩, fun Lr => t_skip rfl rfl rfl (t_nil' fun a ha => ⟨rfl, _, (fun v' h => by cases h; rfl), ha, hW⟩)⟩
      · exact fun D ρ w hcD hnD hdD hW => ⟨[(51, .bool true), (52, undef), (60, undef)], ⟨.inl ⟨2, some (.bool true), rfl, rfl, rfl⟩, .inl ⟨3, some (undef), rfl, rfl, rfl⟩, .inl ⟨11, some (undef), rfl, rfl, rfl⟩, trivial⟩, fun Lr => t_skip rfl rfl rfl (t_nil' fun a ha => ⟨rfl, _, (fun v' h => by cases h; rfl), ha, hW⟩)⟩
      · exact fun D ρ w hcD hnD hdD hW => ⟨[(51, .bool true), (61, undef)], ⟨.inl ⟨2, some (.bool true), rfl, rfl, rfl⟩, .inl ⟨12, some (undef), rfl, rfl, rfl⟩, trivial⟩, fun Lr => t_pick_t rfl rfl rfl rfl (t_nil' fun a ha => ⟨rfl, _, (fun v' h => by cases h; rfl), ha, hW⟩)⟩
      intro ρ w99 hW
      have u100 : Upd (fun _ => False) w49 w99 := hW
      have zu100 := u100.size
      have E101 := E52.next u100 (fun _ _ h => h.elim)
      refine QK.weak [(3, .pointer (some ⟨bk2, 0, none⟩)), (4, .pointer (some ⟨bk7, 0, none⟩)), (5, .pointer (some ⟨bk12, 0, none⟩)), (6, .bool false), (9, .int .i64 n), (10, .int .i64 f), (62, .bool true)] ⟨rfl, rfl, rfl, rfl, rfl, rfl, rfl, trivial⟩ ?_
      refine hK98 _ _ ?_
      refine c_cond_t rfl ?_
      refine c_seq fun K102 hK102 => ?_
      refine c_region ?_
      refine t_assign rfl rfl rfl ?_
      refine t_nil' ?_
      refine hK102 _ _ ?_
      refine c_ret ?_
      refine f_ret1 (v := .bool false) Try.results10 rfl ?_
      have hok : okStop m p lo hi s0 = true := by simpa using g41
      exact False.elim (g51 (by simp [StopE, hok]))
    ·
      refine WC.weak [(0, .agg #[.int .i64 m, .int .i64 p]), (1, .agg #[.int .i64 lo, .int .i64 hi]), (2, .agg #[.int .i64 s0, .int .i64 s1]), (3, .pointer (some ⟨bk2, 0, none⟩)), (4, .pointer (some ⟨bk7, 0, none⟩)), (5, .pointer (some ⟨bk12, 0, none⟩)), (6, .bool false), (7, .pointer (some ⟨bk25, 0, none⟩)), (8, .int .i64 (StopE m p lo hi s0)), (9, .int .i64 n), (10, .int .i64 f), (11, .tuple #[.agg #[.int .i64 ((StopB m p lo hi s0).lo), .int .i64 ((StopB m p lo hi s0).hi)], .int .i64 (StopE m p lo hi s0)]), (12, .pointer (some ⟨bk2, 0, none⟩)), (13, .int .i64 m), (14, .pointer (some ⟨bk2, 1, none⟩)), (15, .int .i64 p), (16, .agg #[.int .i64 lo, .int .i64 hi]), (17, .pointer (some ⟨bk12, 0, none⟩)), (18, .int .i64 s0), (19, .tuple #[.agg #[.int .i64 ((StopB m p lo hi s0).lo), .int .i64 ((StopB m p lo hi s0).hi)], .int .i64 (StopE m p lo hi s0)]), (20, .agg #[.int .i64 ((StopB m p lo hi s0).lo), .int .i64 ((StopB m p lo hi s0).hi)]), (21, .int .i64 (StopE m p lo hi s0)), (22, .tuple #[.int .i64 n, .int .i64 f]), (23, .pointer (some ⟨bk2, 0, none⟩)), (24, .int .i64 m), (25, .pointer (some ⟨bk2, 1, none⟩)), (26, .int .i64 p), (27, .agg #[.int .i64 lo, .int .i64 hi]), (28, .pointer (some ⟨bk12, 1, none⟩)), (29, .int .i64 s1), (30, .tuple #[.int .i64 n, .int .i64 f]), (31, .int .i64 n), (32, .int .i64 f), (33, .pointer (some ⟨bk2, 0, none⟩)), (34, .int .i64 m), (35, .pointer (some ⟨bk2, 1, none⟩)), (36, .int .i64 p), (37, .agg #[.int .i64 lo, .int .i64 hi]), (38, .pointer (some ⟨bk12, 0, none⟩)), (39, .int .i64 s0), (40, .bool (okStop m p lo hi s0)), (41, .bool (!(okStop m p lo hi s0)))] ⟨rfl, rfl, rfl, rfl, rfl, rfl, rfl, rfl, rfl, rfl, rfl, rfl, rfl, rfl, rfl, rfl, rfl, rfl, rfl, rfl, rfl, rfl, rfl, rfl, rfl, rfl, rfl, rfl, rfl, rfl, rfl, rfl, rfl, rfl, rfl, rfl, rfl, rfl, rfl, rfl, rfl, rfl, trivial⟩ ?_
      refine c_drawn follows 14 [some (49, some (.int .i64 (StopE m p lo hi s0))), some (50, some (.bool (decide ((StopE m p lo hi s0) ≠ 0)))), some (51, some (.bool false)), some (52, some (.agg #[.int .i64 ((StopB m p lo hi s0).lo), .int .i64 ((StopB m p lo hi s0).hi)])), some (53, some (.pointer (some ⟨bk2, 0, none⟩))), some (54, some (.int .i64 m)), some (55, some (.pointer (some ⟨bk2, 1, none⟩))), some (56, some (.int .i64 p)), some (57, some (.agg #[.int .i64 lo, .int .i64 hi])), some (58, some (.pointer (some ⟨bk12, 0, none⟩))), some (59, some (.int .i64 s0)), some (60, some (.agg #[.int .i64 ((rStopB m p lo hi s0).lo), .int .i64 ((rStopB m p lo hi s0).hi)])), some (61, some (.bool (!(decide ((StopB m p lo hi s0).lo = (rStopB m p lo hi s0).lo) && decide ((StopB m p lo hi s0).hi = (rStopB m p lo hi s0).hi))))), some (62, some (.bool (!(decide ((StopB m p lo hi s0).lo = (rStopB m p lo hi s0).lo) && decide ((StopB m p lo hi s0).hi = (rStopB m p lo hi s0).hi)))))] [[], [0], [1], [2], [2], [4, 2], [2], [6, 2], [2], [2], [9, 2], [5, 7, 8, 10, 2, 2], [3, 11, 2], [2, 12]] (fun _ _ w => Upd (fun _ => False) w49 w) rfl rfl rfl (by kernel_rfl) (by kernel_rfl) (Upd.drew _).to ⟨?_, ?_, ?_, ?_, ?_, ?_, ?_, ?_, ?_, ?_, ?_, ?_, ?_, ?_, trivial⟩ ?_
      · exact fun D ρ w hcD hnD hdD hW => ⟨[(8, .int .i64 (StopE m p lo hi s0))], ⟨.inr ⟨rfl, rfl⟩, trivial⟩, fun Lr => t_move rfl rfl rfl (t_nil' fun a ha => ⟨rfl, _, (fun v' h => by cases h; rfl), ha, hW⟩)⟩
      · exact fun D ρ w hcD hnD hdD hW => ⟨[(49, .int .i64 (StopE m p lo hi s0))], ⟨.inl ⟨0, some (.int .i64 (StopE m p lo hi s0)), rfl, rfl, rfl⟩, trivial⟩, fun Lr => t_cmp rfl rfl rfl rfl rfl (t_nil' fun a ha => ⟨rfl, _, (fun v' h => by cases h; rfl), ha, hW⟩)⟩
      · exact fun D ρ w hcD hnD hdD hW => ⟨[(50, .bool (decide ((StopE m p lo hi s0) ≠ 0)))], ⟨.inl ⟨1, some (.bool (decide ((StopE m p lo hi s0) ≠ 0))), rfl, rfl, rfl⟩, trivial⟩, fun Lr => t_move rfl rfl rfl (t_samehd (v := .bool false) (by first | exact congrArg Value.bool (decide_eq_false g51) | exact congrArg Value.bool g51 | simp [g51]) (t_nil' fun a ha => ⟨rfl, _, (fun v' h => by cases h; rfl), ha, hW⟩))⟩
      · -- 3
        intro D ρ w112 hcD hnD hdD hW
        have zhW := hW.size
        have E114 := E52.next hW (fun _ _ h => h.elim)
        refine ⟨[(7, .pointer (some ⟨bk25, 0, none⟩)), (51, .bool false)], ⟨.inr ⟨rfl, rfl⟩, .inl ⟨2, some (.bool false), rfl, rfl, rfl⟩, trivial⟩, fun Lr => ?_⟩
        show WL _ _ _ _ _ _ _ ((7, .pointer (some ⟨bk25, 0, none⟩)) :: (51, .bool false) :: Lr) _
        have B115 := (((B32.keep u40 (fun h => h)).keep u50 (fun h => h)).keep hW (fun h => h))
        refine t_loadN (vs := [.int .i64 ((StopB m p lo hi s0).lo), .int .i64 ((StopB m p lo hi s0).hi)]) Try.isAgg45 Try.sizeOf45 rfl rfl rfl (B115.at.sub 0 2) rfl ?_
        refine t_nil' ?_
        exact fun a ha => ⟨rfl, _, (fun v' h => by cases h; rfl), ha, hW⟩
      · -- 4
        intro D ρ w116 hcD hnD hdD hW
        have zhW := hW.size
        have E118 := E52.next hW (fun _ _ h => h.elim)
        refine ⟨[(3, .pointer (some ⟨bk2, 0, none⟩)), (51, .bool false)], ⟨.inr ⟨rfl, rfl⟩, .inl ⟨2, some (.bool false), rfl, rfl, rfl⟩, trivial⟩, fun Lr => ?_⟩
        show WL _ _ _ _ _ _ _ ((3, .pointer (some ⟨bk2, 0, none⟩)) :: (51, .bool false) :: Lr) _
        refine t_indexArr (j := 0) (0) Try.underlying82 Try.sizeOf3 rfl rfl rfl rfl rfl (by decide) rfl ?_
        refine t_nil' ?_
        exact fun a ha => ⟨rfl, _, (fun v' h => by cases h; rfl), ha, hW⟩
      · -- 5
        intro D ρ w119 hcD hnD hdD hW
        have zhW := hW.size
        have E121 := E52.next hW (fun _ _ h => h.elim)
        refine ⟨[(51, .bool false), (53, .pointer (some ⟨bk2, 0, none⟩))], ⟨.inl ⟨2, some (.bool false), rfl, rfl, rfl⟩, .inl ⟨4, some (.pointer (some ⟨bk2, 0, none⟩)), rfl, rfl, rfl⟩, trivial⟩, fun Lr => ?_⟩
        show WL _ _ _ _ _ _ _ ((51, .bool false) :: (53, .pointer (some ⟨bk2, 0, none⟩)) :: Lr) _
        have B122 := ((B45.keep u50 (fun h => h)).keep hW (fun h => h))
        refine t_load Try.isAgg3 rfl rfl rfl (B122.get rfl) ?_
        refine t_nil' ?_
        exact fun a ha => ⟨rfl, _, (fun v' h => by cases h; rfl), ha, hW⟩
      · -- 6
        intro D ρ w123 hcD hnD hdD hW
        have zhW := hW.size
        have E125 := E52.next hW (fun _ _ h => h.elim)
        refine ⟨[(3, .pointer (some ⟨bk2, 0, none⟩)), (51, .bool false)], ⟨.inr ⟨rfl, rfl⟩, .inl ⟨2, some (.bool false), rfl, rfl, rfl⟩, trivial⟩, fun Lr => ?_⟩
        show WL _ _ _ _ _ _ _ ((3, .pointer (some ⟨bk2, 0, none⟩)) :: (51, .bool false) :: Lr) _
        refine t_indexArr (j := 1) (1) Try.underlying82 Try.sizeOf3 rfl rfl rfl rfl rfl (by decide) rfl ?_
        refine t_nil' ?_
        exact fun a ha => ⟨rfl, _, (fun v' h => by cases h; rfl), ha, hW⟩
      · -- 7
        intro D ρ w126 hcD hnD hdD hW
        have zhW := hW.size
        have E128 := E52.next hW (fun _ _ h => h.elim)
        refine ⟨[(51, .bool false), (55, .pointer (some ⟨bk2, 1, none⟩))], ⟨.inl ⟨2, some (.bool false), rfl, rfl, rfl⟩, .inl ⟨6, some (.pointer (some ⟨bk2, 1, none⟩)), rfl, rfl, rfl⟩, trivial⟩, fun Lr => ?_⟩
        show WL _ _ _ _ _ _ _ ((51, .bool false) :: (55, .pointer (some ⟨bk2, 1, none⟩)) :: Lr) _
        have B129 := ((B45.keep u50 (fun h => h)).keep hW (fun h => h))
        refine t_load Try.isAgg3 rfl rfl rfl (B129.get rfl) ?_
        refine t_nil' ?_
        exact fun a ha => ⟨rfl, _, (fun v' h => by cases h; rfl), ha, hW⟩
      · -- 8
        intro D ρ w130 hcD hnD hdD hW
        have zhW := hW.size
        have E132 := E52.next hW (fun _ _ h => h.elim)
        refine ⟨[(4, .pointer (some ⟨bk7, 0, none⟩)), (51, .bool false)], ⟨.inr ⟨rfl, rfl⟩, .inl ⟨2, some (.bool false), rfl, rfl, rfl⟩, trivial⟩, fun Lr => ?_⟩
        show WL _ _ _ _ _ _ _ ((4, .pointer (some ⟨bk7, 0, none⟩)) :: (51, .bool false) :: Lr) _
        have B133 := ((B46.keep u50 (fun h => h)).keep hW (fun h => h))
        refine t_loadN (vs := [.int .i64 lo, .int .i64 hi]) Try.isAgg45 Try.sizeOf45 rfl rfl rfl (B133.at.sub 0 2) rfl ?_
        refine t_nil' ?_
        exact fun a ha => ⟨rfl, _, (fun v' h => by cases h; rfl), ha, hW⟩
      · -- 9
        intro D ρ w134 hcD hnD hdD hW
        have zhW := hW.size
        have E136 := E52.next hW (fun _ _ h => h.elim)
        refine ⟨[(5, .pointer (some ⟨bk12, 0, none⟩)), (51, .bool false)], ⟨.inr ⟨rfl, rfl⟩, .inl ⟨2, some (.bool false), rfl, rfl, rfl⟩, trivial⟩, fun Lr => ?_⟩
        show WL _ _ _ _ _ _ _ ((5, .pointer (some ⟨bk12, 0, none⟩)) :: (51, .bool false) :: Lr) _
        refine t_indexArr (j := 0) (0) Try.underlying82 Try.sizeOf3 rfl rfl rfl rfl rfl (by decide) rfl ?_
        refine t_nil' ?_
        exact fun a ha => ⟨rfl, _, (fun v' h => by cases h; rfl), ha, hW⟩
      · -- 10
        intro D ρ w137 hcD hnD hdD hW
        have zhW := hW.size
        have E139 := E52.next hW (fun _ _ h => h.elim)
        refine ⟨[(51, .bool false), (58, .pointer (some ⟨bk12, 0, none⟩))], ⟨.inl ⟨2, some (.bool false), rfl, rfl, rfl⟩, .inl ⟨9, some (.pointer (some ⟨bk12, 0, none⟩)), rfl, rfl, rfl⟩, trivial⟩, fun Lr => ?_⟩
        show WL _ _ _ _ _ _ _ ((51, .bool false) :: (58, .pointer (some ⟨bk12, 0, none⟩)) :: Lr) _
        have B140 := ((B47.keep u50 (fun h => h)).keep hW (fun h => h))
        refine t_load Try.isAgg3 rfl rfl rfl (B140.get rfl) ?_
        refine t_nil' ?_
        exact fun a ha => ⟨rfl, _, (fun v' h => by cases h; rfl), ha, hW⟩
      · -- 11
        intro D ρ w141 hcD hnD hdD hW
        have zhW := hW.size
        have E143 := E52.next hW (fun _ _ h => h.elim)
        refine ⟨[(51, .bool false), (54, .int .i64 m), (56, .int .i64 p), (57, .agg #[.int .i64 lo, .int .i64 hi]), (59, .int .i64 s0)], ⟨.inl ⟨2, some (.bool false), rfl, rfl, rfl⟩, .inl ⟨5, some (.int .i64 m), rfl, rfl, rfl⟩, .inl ⟨7, some (.int .i64 p), rfl, rfl, rfl⟩, .inl ⟨8, some (.agg #[.int .i64 lo, .int .i64 hi]), rfl, rfl, rfl⟩, .inl ⟨10, some (.int .i64 s0), rfl, rfl, rfl⟩, trivial⟩, fun Lr => ?_⟩
        show WL _ _ _ _ _ _ _ ((51, .bool false) :: (54, .int .i64 m) :: (56, .int .i64 p) :: (57, .agg #[.int .i64 lo, .int .i64 hi]) :: (59, .int .i64 s0) :: Lr) _
        refine t_call (vs := [.int .i64 m, .int .i64 p, .agg #[.int .i64 lo, .int .i64 hi], .int .i64 s0]) own49 rfl rfl rfl rfl (rStop_c m p lo hi s0 _ hr1.1 hr1.2.1 hr1.2.2.1 hr1.2.2.2.1 hr1.2.2.2.2) (fun v144 w145 r147 => ?_)
        obtain ⟨rfl, u146⟩ := r147
        have zu146 := u146.size
        have E148 := E143.next u146 (fun _ _ h => h.elim)
        refine t_nil' ?_
        exact fun a ha => ⟨rfl, _, (fun v' h => by cases h; rfl), ha, (hW.next u146 (fun _ _ h => h.elim))⟩
      · exact fun D ρ w hcD hnD hdD hW => ⟨[(51, .bool false), (52, .agg #[.int .i64 ((StopB m p lo hi s0).lo), .int .i64 ((StopB m p lo hi s0).hi)]), (60, .agg #[.int .i64 ((rStopB m p lo hi s0).lo), .int .i64 ((rStopB m p lo hi s0).hi)])], ⟨.inl ⟨2, some (.bool false), rfl, rfl, rfl⟩, .inl ⟨3, some (.agg #[.int .i64 ((StopB m p lo hi s0).lo), .int .i64 ((StopB m p lo hi s0).hi)]), rfl, rfl, rfl⟩, .inl ⟨11, some (.agg #[.int .i64 ((rStopB m p lo hi s0).lo), .int .i64 ((rStopB m p lo hi s0).hi)]), rfl, rfl, rfl⟩, trivial⟩, fun Lr => t_neS (xs := [.int .i64 ((StopB m p lo hi s0).lo), .int .i64 ((StopB m p lo hi s0).hi)]) (ys := [.int .i64 ((rStopB m p lo hi s0).lo), .int .i64 ((rStopB m p lo hi s0).hi)]) (by kernel_rfl) (eqIn45 9998 ((StopB m p lo hi s0).lo) ((StopB m p lo hi s0).hi) ((rStopB m p lo hi s0).lo) ((rStopB m p lo hi s0).hi)) rfl rfl rfl rfl (t_nil' fun a ha => ⟨rfl, _, (fun v' h => by cases h; rfl), ha, hW⟩)⟩
      · exact fun D ρ w hcD hnD hdD hW => ⟨[(51, .bool false), (61, .bool (!(decide ((StopB m p lo hi s0).lo = (rStopB m p lo hi s0).lo) && decide ((StopB m p lo hi s0).hi = (rStopB m p lo hi s0).hi))))], ⟨.inl ⟨2, some (.bool false), rfl, rfl, rfl⟩, .inl ⟨12, some (.bool (!(decide ((StopB m p lo hi s0).lo = (rStopB m p lo hi s0).lo) && decide ((StopB m p lo hi s0).hi = (rStopB m p lo hi s0).hi)))), rfl, rfl, rfl⟩, trivial⟩, fun Lr => t_pick_f rfl rfl rfl rfl (t_nil' fun a ha => ⟨rfl, _, (fun v' h => by cases h; rfl), ha, hW⟩)⟩
      intro ρ w149 hW
      have u150 : Upd (fun _ => False) w49 w149 := hW
      have zu150 := u150.size
      have E151 := E52.next u150 (fun _ _ h => h.elim)
      refine QK.weak [(3, .pointer (some ⟨bk2, 0, none⟩)), (4, .pointer (some ⟨bk7, 0, none⟩)), (5, .pointer (some ⟨bk12, 0, none⟩)), (6, .bool false), (9, .int .i64 n), (10, .int .i64 f), (62, .bool (!(decide ((StopB m p lo hi s0).lo = (rStopB m p lo hi s0).lo) && decide ((StopB m p lo hi s0).hi = (rStopB m p lo hi s0).hi))))] ⟨rfl, rfl, rfl, rfl, rfl, rfl, rfl, trivial⟩ ?_
      refine hK98 _ _ ?_
      refine c_cond rfl (fun g62 => ?_) (fun g62 => ?_)
      · -- .bool (!(decide ((StopB m p lo hi s0).lo = (rStopB m p lo hi s0).lo) && decide ((StopB m p lo hi s0).hi = (rStopB m p lo hi s0).hi)))
        refine c_seq fun K152 hK152 => ?_
        refine c_region ?_
        refine t_assign rfl rfl rfl ?_
        refine t_nil' ?_
        refine hK152 _ _ ?_
        refine c_ret ?_
        refine f_ret1 (v := .bool false) Try.results10 rfl ?_
        have hok : okStop m p lo hi s0 = true := by simpa using g41
        exact False.elim (absurd g62 (by simp [StopB, hok, rStopB]))
      · -- not .bool (!(decide ((StopB m p lo hi s0).lo = (rStopB m p lo hi s0).lo) && decide ((StopB m p lo hi s0).hi = (rStopB m p lo hi s0).hi)))
        refine c_skip ?_
        refine hK43 _ _ ?_
        refine c_seq fun K153 hK153 => ?_
        refine c_seq fun K154 hK154 => ?_
        refine c_region ?_
        refine t_indexArr (j := 0) (0) Try.underlying82 Try.sizeOf3 rfl rfl rfl rfl rfl (by decide) rfl ?_
        have B155 := ((B45.keep u50 (fun h => h)).keep u150 (fun h => h))
        refine t_load Try.isAgg3 rfl rfl rfl (B155.get rfl) ?_
        refine t_indexArr (j := 1) (1) Try.underlying82 Try.sizeOf3 rfl rfl rfl rfl rfl (by decide) rfl ?_
        refine t_load Try.isAgg3 rfl rfl rfl (B155.get rfl) ?_
        have B156 := ((B46.keep u50 (fun h => h)).keep u150 (fun h => h))
        refine t_loadN (vs := [.int .i64 lo, .int .i64 hi]) Try.isAgg45 Try.sizeOf45 rfl rfl rfl (B156.at.sub 0 2) rfl ?_
        refine t_call (vs := [.int .i64 m, .int .i64 p, .agg #[.int .i64 lo, .int .i64 hi], .int .i64 0]) own48 rfl rfl rfl rfl (rStops_c m p lo hi 0 _) (fun v157 w158 r160 => ?_)
        obtain ⟨rfl, u159⟩ := r160
        have zu159 := u159.size
        have E161 := E151.next u159 (fun _ _ h => h.elim)
        refine t_not rfl rfl rfl ?_
        refine t_move rfl rfl rfl ?_
        refine t_split 70 rfl (fun g70 => ?_) (fun g70 => ?_)
        · -- .bool (!(okStop m p lo hi 0))
          refine t_skip rfl rfl rfl ?_
          refine t_skip rfl rfl rfl ?_
          refine t_skip rfl rfl rfl ?_
          refine t_pick_t rfl rfl rfl rfl ?_
          refine t_move rfl rfl rfl ?_
          refine t_skip rfl rfl rfl ?_
          refine t_skip rfl rfl rfl ?_
          refine t_skip rfl rfl rfl ?_
          refine t_pick_t rfl rfl rfl rfl ?_
          refine t_nil' ?_
          refine hK154 _ _ ?_
          refine c_cond_t rfl ?_
          refine c_seq fun K162 hK162 => ?_
          refine c_region ?_
          refine t_move rfl rfl rfl ?_
          refine t_cmp rfl rfl rfl rfl rfl ?_
          refine t_move rfl rfl rfl ?_
          refine t_splitp 82 rfl (fun g82 => ?_) (fun g82 => ?_)
          · -- .bool (decide (f = 3))
            refine t_move rfl rfl rfl ?_
            refine t_cmp rfl rfl rfl rfl rfl ?_
            refine t_pick_t rfl rfl rfl rfl ?_
            refine t_move rfl rfl rfl ?_
            refine t_splitp 86 rfl (fun g86 => ?_) (fun g86 => ?_)
            · -- .bool (decide (n = 0))
              refine t_call (vs := []) own16 rfl rfl rfl rfl (known_c _) (fun v163 w164 r166 => ?_)
              obtain ⟨rfl, u165⟩ := r166
              have zu165 := u165.size
              have E167 := E161.next u165 (fun _ _ h => h.elim)
              refine t_pick_t rfl rfl rfl rfl ?_
              refine t_assign rfl rfl rfl ?_
              refine t_nil' ?_
              refine hK162 _ _ ?_
              refine c_ret ?_
              refine f_ret1 (v := .bool true) Try.results10 rfl ?_
              exact ⟨rfl, E167⟩
            · -- not .bool (decide (n = 0))
              refine t_skip rfl rfl rfl ?_
              refine t_pick_f rfl rfl rfl rfl ?_
              refine t_assign rfl rfl rfl ?_
              refine t_nil' ?_
              refine hK162 _ _ ?_
              refine c_ret ?_
              refine f_ret1 (v := .bool false) Try.results10 rfl ?_
              have hns : okSafe m p lo hi s1 = false := by simp_all [okSafe, okStop]
              have hS : n = 0 ∧ f = 3 := by have h := hsafe; unfold SafeQ at h; rw [if_neg (by simp [hns])] at h; exact h
              exact False.elim (g86 hS.1)
          · -- not .bool (decide (f = 3))
            refine t_skip rfl rfl rfl ?_
            refine t_skip rfl rfl rfl ?_
            refine t_pick_f rfl rfl rfl rfl ?_
            refine t_move rfl rfl rfl ?_
            refine t_skip rfl rfl rfl ?_
            refine t_pick_f rfl rfl rfl rfl ?_
            refine t_assign rfl rfl rfl ?_
            refine t_nil' ?_
            refine hK162 _ _ ?_
            refine c_ret ?_
            refine f_ret1 (v := .bool false) Try.results10 rfl ?_
            have hns : okSafe m p lo hi s1 = false := by simp_all [okSafe, okStop]
            have hS : n = 0 ∧ f = 3 := by have h := hsafe; unfold SafeQ at h; rw [if_neg (by simp [hns])] at h; exact h
            exact False.elim (g82 hS.2)
        · -- not .bool (!(okStop m p lo hi 0))
          have hr0 := okStop_rng (show okStop m p lo hi 0 = true by simpa using g70)
          refine t_indexArr (j := 1) (1) Try.underlying82 Try.sizeOf3 rfl rfl rfl rfl rfl (by decide) rfl ?_
          have B168 := (((B47.keep u50 (fun h => h)).keep u150 (fun h => h)).keep u159 (fun h => h))
          refine t_load Try.isAgg3 rfl rfl rfl (B168.get rfl) ?_
          refine t_cmp rfl rfl rfl rfl rfl ?_
          refine t_pick_f rfl rfl rfl rfl ?_
          refine t_move rfl rfl rfl ?_
          refine t_splitp 75 rfl (fun g75 => ?_) (fun g75 => ?_)
          · -- .bool (decide (s1 < 0))
            refine t_skip rfl rfl rfl ?_
            refine t_skip rfl rfl rfl ?_
            refine t_skip rfl rfl rfl ?_
            refine t_pick_t rfl rfl rfl rfl ?_
            refine t_nil' ?_
            refine hK154 _ _ ?_
            refine c_cond_t rfl ?_
            refine c_seq fun K169 hK169 => ?_
            refine c_region ?_
            refine t_move rfl rfl rfl ?_
            refine t_cmp rfl rfl rfl rfl rfl ?_
            refine t_move rfl rfl rfl ?_
            refine t_splitp 82 rfl (fun g82 => ?_) (fun g82 => ?_)
            · -- .bool (decide (f = 3))
              refine t_move rfl rfl rfl ?_
              refine t_cmp rfl rfl rfl rfl rfl ?_
              refine t_pick_t rfl rfl rfl rfl ?_
              refine t_move rfl rfl rfl ?_
              refine t_splitp 86 rfl (fun g86 => ?_) (fun g86 => ?_)
              · -- .bool (decide (n = 0))
                refine t_call (vs := []) own16 rfl rfl rfl rfl (known_c _) (fun v170 w171 r173 => ?_)
                obtain ⟨rfl, u172⟩ := r173
                have zu172 := u172.size
                have E174 := E161.next u172 (fun _ _ h => h.elim)
                refine t_pick_t rfl rfl rfl rfl ?_
                refine t_assign rfl rfl rfl ?_
                refine t_nil' ?_
                refine hK169 _ _ ?_
                refine c_ret ?_
                refine f_ret1 (v := .bool true) Try.results10 rfl ?_
                exact ⟨rfl, E174⟩
              · -- not .bool (decide (n = 0))
                refine t_skip rfl rfl rfl ?_
                refine t_pick_f rfl rfl rfl rfl ?_
                refine t_assign rfl rfl rfl ?_
                refine t_nil' ?_
                refine hK169 _ _ ?_
                refine c_ret ?_
                refine f_ret1 (v := .bool false) Try.results10 rfl ?_
                have hns : okSafe m p lo hi s1 = false := by simp [okSafe]; intro _; omega
                have hS : n = 0 ∧ f = 3 := by have h := hsafe; unfold SafeQ at h; rw [if_neg (by simp [hns])] at h; exact h
                exact False.elim (g86 hS.1)
            · -- not .bool (decide (f = 3))
              refine t_skip rfl rfl rfl ?_
              refine t_skip rfl rfl rfl ?_
              refine t_pick_f rfl rfl rfl rfl ?_
              refine t_move rfl rfl rfl ?_
              refine t_skip rfl rfl rfl ?_
              refine t_pick_f rfl rfl rfl rfl ?_
              refine t_assign rfl rfl rfl ?_
              refine t_nil' ?_
              refine hK169 _ _ ?_
              refine c_ret ?_
              refine f_ret1 (v := .bool false) Try.results10 rfl ?_
              have hns : okSafe m p lo hi s1 = false := by simp [okSafe]; intro _; omega
              have hS : n = 0 ∧ f = 3 := by have h := hsafe; unfold SafeQ at h; rw [if_neg (by simp [hns])] at h; exact h
              exact False.elim (g82 hS.2)
          · -- not .bool (decide (s1 < 0))
            refine t_indexArr (j := 1) (1) Try.underlying82 Try.sizeOf3 rfl rfl rfl rfl rfl (by decide) rfl ?_
            refine t_load Try.isAgg3 rfl rfl rfl (B168.get rfl) ?_
            refine t_cmp rfl rfl rfl rfl rfl ?_
            refine t_pick_f rfl rfl rfl rfl ?_
            refine t_nil' ?_
            refine hK154 _ _ ?_
            refine c_condp rfl (fun g79 => ?_) (fun g79 => ?_)
            · -- .bool (decide (100000 < s1))
              refine c_seq fun K175 hK175 => ?_
              refine c_region ?_
              refine t_move rfl rfl rfl ?_
              refine t_cmp rfl rfl rfl rfl rfl ?_
              refine t_move rfl rfl rfl ?_
              refine t_splitp 82 rfl (fun g82 => ?_) (fun g82 => ?_)
              · -- .bool (decide (f = 3))
                refine t_move rfl rfl rfl ?_
                refine t_cmp rfl rfl rfl rfl rfl ?_
                refine t_pick_t rfl rfl rfl rfl ?_
                refine t_move rfl rfl rfl ?_
                refine t_splitp 86 rfl (fun g86 => ?_) (fun g86 => ?_)
                · -- .bool (decide (n = 0))
                  refine t_call (vs := []) own16 rfl rfl rfl rfl (known_c _) (fun v176 w177 r179 => ?_)
                  obtain ⟨rfl, u178⟩ := r179
                  have zu178 := u178.size
                  have E180 := E161.next u178 (fun _ _ h => h.elim)
                  refine t_pick_t rfl rfl rfl rfl ?_
                  refine t_assign rfl rfl rfl ?_
                  refine t_nil' ?_
                  refine hK175 _ _ ?_
                  refine c_ret ?_
                  refine f_ret1 (v := .bool true) Try.results10 rfl ?_
                  exact ⟨rfl, E180⟩
                · -- not .bool (decide (n = 0))
                  refine t_skip rfl rfl rfl ?_
                  refine t_pick_f rfl rfl rfl rfl ?_
                  refine t_assign rfl rfl rfl ?_
                  refine t_nil' ?_
                  refine hK175 _ _ ?_
                  refine c_ret ?_
                  refine f_ret1 (v := .bool false) Try.results10 rfl ?_
                  have hns : okSafe m p lo hi s1 = false := by simp [okSafe]; intro _; omega
                  have hS : n = 0 ∧ f = 3 := by have h := hsafe; unfold SafeQ at h; rw [if_neg (by simp [hns])] at h; exact h
                  exact False.elim (g86 hS.1)
              · -- not .bool (decide (f = 3))
                refine t_skip rfl rfl rfl ?_
                refine t_skip rfl rfl rfl ?_
                refine t_pick_f rfl rfl rfl rfl ?_
                refine t_move rfl rfl rfl ?_
                refine t_skip rfl rfl rfl ?_
                refine t_pick_f rfl rfl rfl rfl ?_
                refine t_assign rfl rfl rfl ?_
                refine t_nil' ?_
                refine hK175 _ _ ?_
                refine c_ret ?_
                refine f_ret1 (v := .bool false) Try.results10 rfl ?_
                have hns : okSafe m p lo hi s1 = false := by simp [okSafe]; intro _; omega
                have hS : n = 0 ∧ f = 3 := by have h := hsafe; unfold SafeQ at h; rw [if_neg (by simp [hns])] at h; exact h
                exact False.elim (g82 hS.2)
            · -- not .bool (decide (100000 < s1))
              refine c_skip ?_
              refine hK153 _ _ ?_
              refine c_seq fun K181 hK181 => ?_
              refine c_region ?_
              refine t_move rfl rfl rfl ?_
              refine t_cmp rfl rfl rfl rfl rfl ?_
              refine t_move rfl rfl rfl ?_
              refine t_splitp 91 rfl (fun g91 => ?_) (fun g91 => ?_)
              · -- .bool (decide (f = 0))
                refine t_move rfl rfl rfl ?_
                refine t_indexArr (j := 0) (0) Try.underlying82 Try.sizeOf3 rfl rfl rfl rfl rfl (by decide) rfl ?_
                have B182 := (B155.keep u159 (fun h => h))
                refine t_load Try.isAgg3 rfl rfl rfl (B182.get rfl) ?_
                refine t_indexArr (j := 1) (1) Try.underlying82 Try.sizeOf3 rfl rfl rfl rfl rfl (by decide) rfl ?_
                refine t_load Try.isAgg3 rfl rfl rfl (B182.get rfl) ?_
                have B183 := (B156.keep u159 (fun h => h))
                refine t_loadN (vs := [.int .i64 lo, .int .i64 hi]) Try.isAgg45 Try.sizeOf45 rfl rfl rfl (B183.at.sub 0 2) rfl ?_
                refine t_indexArr (j := 1) (1) Try.underlying82 Try.sizeOf3 rfl rfl rfl rfl rfl (by decide) rfl ?_
                refine t_load Try.isAgg3 rfl rfl rfl (B168.get rfl) ?_
                refine t_call (vs := [.int .i64 m, .int .i64 p, .agg #[.int .i64 lo, .int .i64 hi], .int .i64 s1]) own50 rfl rfl rfl rfl (rSafe_c m p lo hi s1 _ hr0.1 hr0.2.1 hr0.2.2.1 hr0.2.2.2.1) (fun v184 w185 r187 => ?_)
                obtain ⟨⟨q, rfl, href⟩, u186⟩ := r187
                have zu186 := u186.size
                have E188 := E161.next u186 (fun _ _ h => h.elim)
                refine t_cmp rfl rfl rfl rfl rfl ?_
                refine t_pick_t rfl rfl rfl rfl ?_
                refine t_move rfl rfl rfl ?_
                refine t_splitp 103 rfl (fun g103 => ?_) (fun g103 => ?_)
                · -- .bool (decide (n = q))
                  refine t_call (vs := []) own16 rfl rfl rfl rfl (known_c _) (fun v189 w190 r192 => ?_)
                  obtain ⟨rfl, u191⟩ := r192
                  have zu191 := u191.size
                  have E193 := E188.next u191 (fun _ _ h => h.elim)
                  refine t_pick_t rfl rfl rfl rfl ?_
                  refine t_assign rfl rfl rfl ?_
                  refine t_nil' ?_
                  refine hK181 _ _ ?_
                  refine c_ret ?_
                  refine f_ret1 (v := .bool true) Try.results10 rfl ?_
                  exact ⟨rfl, E193⟩
                · -- not .bool (decide (n = q))
                  refine t_skip rfl rfl rfl ?_
                  refine t_pick_f rfl rfl rfl rfl ?_
                  refine t_assign rfl rfl rfl ?_
                  refine t_nil' ?_
                  refine hK181 _ _ ?_
                  refine c_ret ?_
                  refine f_ret1 (v := .bool false) Try.results10 rfl ?_
                  have hob : okBrake m p lo hi = true := by simp_all [okStop]
                  have hys : okSafe m p lo hi s1 = true := by simp [okSafe, hob]; omega
                  have hS : f = 0 ∧ SafeR m p lo s1 n := by have h := hsafe; unfold SafeQ at h; rw [if_pos hys] at h; exact h
                  exact False.elim (g103 (safe_unique (by omega) (by omega) (by omega) hS.2 href (by omega)))
              · -- not .bool (decide (f = 0))
                refine t_skip rfl rfl rfl ?_
                refine t_skip rfl rfl rfl ?_
                refine t_skip rfl rfl rfl ?_
                refine t_skip rfl rfl rfl ?_
                refine t_skip rfl rfl rfl ?_
                refine t_skip rfl rfl rfl ?_
                refine t_skip rfl rfl rfl ?_
                refine t_skip rfl rfl rfl ?_
                refine t_skip rfl rfl rfl ?_
                refine t_skip rfl rfl rfl ?_
                refine t_pick_f rfl rfl rfl rfl ?_
                refine t_move rfl rfl rfl ?_
                refine t_skip rfl rfl rfl ?_
                refine t_pick_f rfl rfl rfl rfl ?_
                refine t_assign rfl rfl rfl ?_
                refine t_nil' ?_
                refine hK181 _ _ ?_
                refine c_ret ?_
                refine f_ret1 (v := .bool false) Try.results10 rfl ?_
                have hob : okBrake m p lo hi = true := by simp_all [okStop]
                have hys : okSafe m p lo hi s1 = true := by simp [okSafe, hob]; omega
                have hS : f = 0 ∧ SafeR m p lo s1 n := by have h := hsafe; unfold SafeQ at h; rw [if_pos hys] at h; exact h
                exact False.elim (g91 hS.1)

end Go.Proofs.Ytmicjleiheoieaa
