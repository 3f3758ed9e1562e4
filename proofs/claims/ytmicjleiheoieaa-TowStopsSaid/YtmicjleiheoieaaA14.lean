/-
  Contracts of the reference's functions on stops. Conditions: none.
-/
import Derived.Test.YtmicjleiheoieaaA8
import Derived.Test.YtmicjleiheoieaaDraw
namespace Go.Proofs.Ytmicjleiheoieaa
open Go Go.RowKit

theorem own48 : Own Try.prog 48 := ⟨Try.f48, Try.func48, by kernel_rfl, by kernel_rfl⟩
theorem own49 : Own Try.prog 49 := ⟨Try.f49, Try.func49, by kernel_rfl, by kernel_rfl⟩
theorem own50 : Own Try.prog 50 := ⟨Try.f50, Try.func50, by kernel_rfl, by kernel_rfl⟩
theorem own60 : Own Try.prog 60 := ⟨Try.f60, Try.func60, by kernel_rfl, by kernel_rfl⟩
theorem own71 : Own Try.prog 71 := ⟨Try.f71, Try.func71, by kernel_rfl, by kernel_rfl⟩

theorem rIn_c (n lo hi : Int) (w0 : World) :
    CallsV Try.prog 60 [.int .i64 n, .int .i64 lo, .int .i64 hi] w0 (fun v w' => v = .bool (decide (lo ≤ n ∧ n ≤ hi)) ∧ Ext w0 w') := by
  have E0 := Upd.refl (fun _ => False) w0
  refine f_enter (N := 15) Try.func60 rfl rfl rfl ?_
  change WC _ _ _ _ _ _ [(0, .int .i64 n), (1, .int .i64 lo), (2, .int .i64 hi)] _
  refine c_seq fun K1 hK1 => ?_
  refine c_region ?_
  refine t_assign rfl rfl rfl ?_
  refine t_nil' ?_
  refine hK1 _ _ ?_
  refine c_seq fun K2 hK2 => ?_
  refine c_region ?_
  refine t_move rfl rfl rfl ?_
  refine t_move rfl rfl rfl ?_
  refine t_cmp rfl rfl rfl rfl rfl ?_
  refine t_move rfl rfl rfl ?_
  refine t_splitp 10 rfl (fun g10 => ?_) (fun g10 => ?_)
  · -- .bool (decide (lo ≤ n))
    refine t_move rfl rfl rfl ?_
    refine t_move rfl rfl rfl ?_
    refine t_cmp rfl rfl rfl rfl rfl ?_
    refine t_pick_t rfl rfl rfl rfl ?_
    refine t_assign rfl rfl rfl ?_
    refine t_nil' ?_
    refine hK2 _ _ ?_
    refine c_ret ?_
    refine f_ret1 (v := .bool (decide (n ≤ hi))) Try.results60 rfl ?_
    exact ⟨by simp [*], E0⟩
  · -- not .bool (decide (lo ≤ n))
    refine t_skip rfl rfl rfl ?_
    refine t_skip rfl rfl rfl ?_
    refine t_skip rfl rfl rfl ?_
    refine t_pick_f rfl rfl rfl rfl ?_
    refine t_assign rfl rfl rfl ?_
    refine t_nil' ?_
    refine hK2 _ _ ?_
    refine c_ret ?_
    refine f_ret1 (v := .bool false) Try.results60 rfl ?_
    exact ⟨by simp [*], E0⟩

theorem rValid_c (a b lo hi : Int) (w0 : World) :
    CallsV Try.prog 71 [.agg #[.int .i64 a, .int .i64 b], .int .i64 lo, .int .i64 hi] w0 (fun v w' => v = .bool (decide ((lo ≤ a ∧ a ≤ hi) ∧ (a ≤ b ∧ b ≤ hi))) ∧ Ext w0 w') := by
  have E0 := Upd.refl (fun _ => False) w0
  refine f_enter (N := 20) Try.func71 rfl rfl rfl ?_
  change WC _ _ _ _ _ _ [(0, .agg #[.int .i64 a, .int .i64 b]), (1, .int .i64 lo), (2, .int .i64 hi)] _
  refine c_seq fun K1 hK1 => ?_
  refine c_region ?_
  refine t_box (cs := [.int .i64 a, .int .i64 b]) rfl rfl rfl rfl (fun bk2 w3 ebk2 sbk2 B4 u5 => ?_)
  have zu5 := u5.size
  have E6 := E0.next u5 (fun _ _ h => h.elim)
  refine t_assign rfl rfl rfl ?_
  refine t_nil' ?_
  refine hK1 _ _ ?_
  refine c_seq fun K7 hK7 => ?_
  refine c_region ?_
  refine t_field Try.underlying45 rfl Try.sizeOf3 (0) rfl rfl rfl rfl ?_
  refine t_load Try.isAgg3 rfl rfl rfl (B4.get rfl) ?_
  refine t_move rfl rfl rfl ?_
  refine t_move rfl rfl rfl ?_
  refine t_call (vs := [.int .i64 a, .int .i64 lo, .int .i64 hi]) own60 rfl rfl rfl rfl (rIn_c a lo hi _) (fun v8 w9 r11 => ?_)
  obtain ⟨rfl, u10⟩ := r11
  have zu10 := u10.size
  have E12 := E6.next u10 (fun _ _ h => h.elim)
  refine t_move rfl rfl rfl ?_
  refine t_splitp 12 rfl (fun g12 => ?_) (fun g12 => ?_)
  · -- .bool (decide (lo ≤ a ∧ a ≤ hi))
    refine t_field Try.underlying45 rfl Try.sizeOf3 (1) rfl rfl rfl rfl ?_
    have B13 := (B4.keep u10 (fun h => h))
    refine t_load Try.isAgg3 rfl rfl rfl (B13.get rfl) ?_
    refine t_field Try.underlying45 rfl Try.sizeOf3 (0) rfl rfl rfl rfl ?_
    refine t_load Try.isAgg3 rfl rfl rfl (B13.get rfl) ?_
    refine t_move rfl rfl rfl ?_
    refine t_call (vs := [.int .i64 b, .int .i64 a, .int .i64 hi]) own60 rfl rfl rfl rfl (rIn_c b a hi _) (fun v14 w15 r17 => ?_)
    obtain ⟨rfl, u16⟩ := r17
    have zu16 := u16.size
    have E18 := E12.next u16 (fun _ _ h => h.elim)
    refine t_pick_t rfl rfl rfl rfl ?_
    refine t_assign rfl rfl rfl ?_
    refine t_nil' ?_
    refine hK7 _ _ ?_
    refine c_ret ?_
    refine f_ret1 (v := .bool (decide (a ≤ b ∧ b ≤ hi))) Try.results71 rfl ?_
    exact ⟨by simp [*], E18⟩
  · -- not .bool (decide (lo ≤ a ∧ a ≤ hi))
    refine t_skip rfl rfl rfl ?_
    refine t_skip rfl rfl rfl ?_
    refine t_skip rfl rfl rfl ?_
    refine t_skip rfl rfl rfl ?_
    refine t_skip rfl rfl rfl ?_
    refine t_skip rfl rfl rfl ?_
    refine t_pick_f rfl rfl rfl rfl ?_
    refine t_assign rfl rfl rfl ?_
    refine t_nil' ?_
    refine hK7 _ _ ?_
    refine c_ret ?_
    refine f_ret1 (v := .bool false) Try.results71 rfl ?_
    exact ⟨by simp [*], E12⟩

theorem rStops_c (m p lo hi s : Int) (w0 : World) :
    CallsV Try.prog 48 [.int .i64 m, .int .i64 p, .agg #[.int .i64 lo, .int .i64 hi], .int .i64 s] w0 (fun v w' => v = .bool (okStop m p lo hi s) ∧ Ext w0 w') := by
  have E0 := Upd.refl (fun _ => False) w0
  refine f_enter (N := 23) Try.func48 rfl rfl rfl ?_
  change WC _ _ _ _ _ _ [(0, .int .i64 m), (1, .int .i64 p), (2, .agg #[.int .i64 lo, .int .i64 hi]), (3, .int .i64 s)] _
  refine c_seq fun K1 hK1 => ?_
  refine c_region ?_
  refine t_box (cs := [.int .i64 lo, .int .i64 hi]) rfl rfl rfl rfl (fun bk2 w3 ebk2 sbk2 B4 u5 => ?_)
  have zu5 := u5.size
  have E6 := E0.next u5 (fun _ _ h => h.elim)
  refine t_assign rfl rfl rfl ?_
  refine t_nil' ?_
  refine hK1 _ _ ?_
  refine c_seq fun K7 hK7 => ?_
  refine c_region ?_
  refine t_move rfl rfl rfl ?_
  refine t_call (vs := [.int .i64 m, .int .i64 0, .int .i64 400000]) own60 rfl rfl rfl rfl (rIn_c m 0 400000 _) (fun v8 w9 r11 => ?_)
  obtain ⟨rfl, u10⟩ := r11
  have zu10 := u10.size
  have E12 := E6.next u10 (fun _ _ h => h.elim)
  refine t_move rfl rfl rfl ?_
  refine t_splitp 11 rfl (fun g11 => ?_) (fun g11 => ?_)
  · -- .bool (decide (0 ≤ m ∧ m ≤ 400000))
    refine t_move rfl rfl rfl ?_
    refine t_call (vs := [.int .i64 p, .int .i64 1, .int .i64 20000]) own60 rfl rfl rfl rfl (rIn_c p 1 20000 _) (fun v13 w14 r16 => ?_)
    obtain ⟨rfl, u15⟩ := r16
    have zu15 := u15.size
    have E17 := E12.next u15 (fun _ _ h => h.elim)
    refine t_pick_t rfl rfl rfl rfl ?_
    refine t_move rfl rfl rfl ?_
    refine t_splitp 15 rfl (fun g15 => ?_) (fun g15 => ?_)
    · -- .bool (decide (1 ≤ p ∧ p ≤ 20000))
      have B18 := ((B4.keep u10 (fun h => h)).keep u15 (fun h => h))
      refine t_loadN (vs := [.int .i64 lo, .int .i64 hi]) Try.isAgg45 Try.sizeOf45 rfl rfl rfl (B18.at.sub 0 2) rfl ?_
      refine t_call (vs := [.agg #[.int .i64 lo, .int .i64 hi], .int .i64 1, .int .i64 1000]) own71 rfl rfl rfl rfl (rValid_c lo hi 1 1000 _) (fun v19 w20 r22 => ?_)
      obtain ⟨rfl, u21⟩ := r22
      have zu21 := u21.size
      have E23 := E17.next u21 (fun _ _ h => h.elim)
      refine t_pick_t rfl rfl rfl rfl ?_
      refine t_move rfl rfl rfl ?_
      refine t_splitp 19 rfl (fun g19 => ?_) (fun g19 => ?_)
      · -- .bool (decide ((1 ≤ lo ∧ lo ≤ 1000) ∧ (lo ≤ hi ∧ hi ≤ 1000)))
        refine t_move rfl rfl rfl ?_
        refine t_call (vs := [.int .i64 s, .int .i64 0, .int .i64 400]) own60 rfl rfl rfl rfl (rIn_c s 0 400 _) (fun v24 w25 r27 => ?_)
        obtain ⟨rfl, u26⟩ := r27
        have zu26 := u26.size
        have E28 := E23.next u26 (fun _ _ h => h.elim)
        refine t_pick_t rfl rfl rfl rfl ?_
        refine t_assign rfl rfl rfl ?_
        refine t_nil' ?_
        refine hK7 _ _ ?_
        refine c_ret ?_
        refine f_ret1 (v := .bool (decide (0 ≤ s ∧ s ≤ 400))) Try.results48 rfl ?_
        exact ⟨by congr 1; simp only [okStop, okBrake]; simp; omega, E28⟩
      · -- not .bool (decide ((1 ≤ lo ∧ lo ≤ 1000) ∧ (lo ≤ hi ∧ hi ≤ 1000)))
        refine t_skip rfl rfl rfl ?_
        refine t_skip rfl rfl rfl ?_
        refine t_pick_f rfl rfl rfl rfl ?_
        refine t_assign rfl rfl rfl ?_
        refine t_nil' ?_
        refine hK7 _ _ ?_
        refine c_ret ?_
        refine f_ret1 (v := .bool false) Try.results48 rfl ?_
        exact ⟨by congr 1; simp only [okStop, okBrake]; simp; omega, E23⟩
    · -- not .bool (decide (1 ≤ p ∧ p ≤ 20000))
      refine t_skip rfl rfl rfl ?_
      refine t_skip rfl rfl rfl ?_
      refine t_pick_f rfl rfl rfl rfl ?_
      refine t_move rfl rfl rfl ?_
      refine t_skip rfl rfl rfl ?_
      refine t_skip rfl rfl rfl ?_
      refine t_pick_f rfl rfl rfl rfl ?_
      refine t_assign rfl rfl rfl ?_
      refine t_nil' ?_
      refine hK7 _ _ ?_
      refine c_ret ?_
      refine f_ret1 (v := .bool false) Try.results48 rfl ?_
      exact ⟨by congr 1; simp only [okStop, okBrake]; simp; omega, E17⟩
  · -- not .bool (decide (0 ≤ m ∧ m ≤ 400000))
    refine t_skip rfl rfl rfl ?_
    refine t_skip rfl rfl rfl ?_
    refine t_pick_f rfl rfl rfl rfl ?_
    refine t_move rfl rfl rfl ?_
    refine t_skip rfl rfl rfl ?_
    refine t_skip rfl rfl rfl ?_
    refine t_pick_f rfl rfl rfl rfl ?_
    refine t_move rfl rfl rfl ?_
    refine t_skip rfl rfl rfl ?_
    refine t_skip rfl rfl rfl ?_
    refine t_pick_f rfl rfl rfl rfl ?_
    refine t_assign rfl rfl rfl ?_
    refine t_nil' ?_
    refine hK7 _ _ ?_
    refine c_ret ?_
    refine f_ret1 (v := .bool false) Try.results48 rfl ?_
    exact ⟨by congr 1; simp only [okStop, okBrake]; simp; omega, E12⟩


theorem ref_sum {s p g : Int} : s * 5 * (2592 * p * g) / 3 = s * 4320 * p * g := by
  have : s * 5 * (2592 * p * g) = 3 * (s * 4320 * p * g) := by
    have e1 : s * 5 * (2592 * p * g) = (5 * 2592) * (s * p * g) := by simp only [Int.mul_assoc, Int.mul_left_comm, Int.mul_comm]
    have e2 : s * 4320 * p * g = 4320 * (s * p * g) := by simp only [Int.mul_assoc, Int.mul_left_comm, Int.mul_comm]
    generalize s * p * g = x at e1 e2
    omega
  rw [this, Int.mul_ediv_cancel_left _ (by decide)]
def rStopB (m p lo hi s : Int) : Bnd := ⟨wayN m p hi s / wayD p hi, mostV m p lo s⟩

theorem rStop_c (m p lo hi s : Int) (w0 : World) (q1 : 0 ≤ m ∧ m ≤ 400000) (q2 : 1 ≤ p ∧ p ≤ 20000) (q3 : 1 ≤ lo ∧ lo ≤ 1000) (q4 : 1 ≤ hi ∧ hi ≤ 1000) (q5 : 0 ≤ s ∧ s ≤ 400) :
    CallsV Try.prog 49 [.int .i64 m, .int .i64 p, .agg #[.int .i64 lo, .int .i64 hi], .int .i64 s] w0 (fun v w' => v = .agg #[.int .i64 (rStopB m p lo hi s).lo, .int .i64 (rStopB m p lo hi s).hi] ∧ Ext w0 w') := by
  have h3 := mulr (a := m * 1000) (A := 400000000) (b := s) (B := 500) (by omega) (by omega)
  have h4 := mulr (a := m * 1000 * s) (A := 200000000000) (b := s) (B := 500) (by omega) (by omega)
  have h0l := mulr (a := 2592 * p) (A := 51840000) (b := lo) (B := 1000) (by omega) (by omega)
  have l0l := mull (a := 2592 * p) (A := 2592) (b := lo) (B := 1) (by omega) (by omega) (by decide) (by decide)
  have h1l := mulr (a := s * 5) (A := 2500) (b := 2592 * p * lo) (B := 51840000000) (by omega) (by omega)
  have h2l := ref_sum (s := s) (p := p) (g := lo)
  have h3l := (RB.wayN (m := m) (p := p) (g := lo) (s := s) ⟨q1, q2, q3, by omega⟩)
  unfold wayN at h3l
  have h0h := mulr (a := 2592 * p) (A := 51840000) (b := hi) (B := 1000) (by omega) (by omega)
  have l0h := mull (a := 2592 * p) (A := 2592) (b := hi) (B := 1) (by omega) (by omega) (by decide) (by decide)
  have h1h := mulr (a := s * 5) (A := 2500) (b := 2592 * p * hi) (B := 51840000000) (by omega) (by omega)
  have h2h := ref_sum (s := s) (p := p) (g := hi)
  have h3h := (RB.wayN (m := m) (p := p) (g := hi) (s := s) ⟨q1, q2, q4, by omega⟩)
  unfold wayN at h3h
  have E0 := Upd.refl (fun _ => False) w0
  refine f_enter (N := 50) Try.func49 rfl rfl rfl ?_
  change WC _ _ _ _ _ _ [(0, .int .i64 m), (1, .int .i64 p), (2, .agg #[.int .i64 lo, .int .i64 hi]), (3, .int .i64 s)] _
  refine c_seq fun K1 hK1 => ?_
  refine c_region ?_
  refine t_box (cs := [.int .i64 lo, .int .i64 hi]) rfl rfl rfl rfl (fun bk2 w3 ebk2 sbk2 B4 u5 => ?_)
  have zu5 := u5.size
  have E6 := E0.next u5 (fun _ _ h => h.elim)
  refine t_alloc (cs := [.int .i64 0, .int .i64 0]) Try.zeroValue45 rfl rfl rfl (fun bk7 w8 ebk7 sbk7 B9 u10 => ?_)
  have zu10 := u10.size
  have E11 := E6.next u10 (fun _ _ h => h.elim)
  refine t_nil' ?_
  refine hK1 _ _ ?_
  refine c_seq fun K12 hK12 => ?_
  refine WC.weak [(0, .int .i64 m), (1, .int .i64 p), (2, .agg #[.int .i64 lo, .int .i64 hi]), (3, .int .i64 s), (6, .pointer (some ⟨bk2, 0, none⟩)), (8, .pointer (some ⟨bk7, 0, none⟩))] ⟨rfl, rfl, rfl, rfl, rfl, rfl, trivial⟩ ?_
  refine c_drawn follows 12 [some (12, some (.int .i64 p)), some (13, some (.int .i64 (2592 * p))), some (14, some (.pointer (some ⟨bk2, 1, none⟩))), some (15, some (.int .i64 hi)), some (16, some (.int .i64 ((2592 * p) * hi))), some (17, some (.int .i64 p)), some (18, some (.int .i64 (2592 * p))), some (19, some (.pointer (some ⟨bk2, 0, none⟩))), some (20, some (.int .i64 lo)), some (21, some (.int .i64 ((2592 * p) * lo))), some (9, some (.int .i64 ((2592 * p) * hi))), some (10, some (.int .i64 ((2592 * p) * lo)))] [[], [0], [], [2], [1, 3], [], [5], [], [7], [6, 8], [4, 0, 1, 2, 3, 4], [9, 10, 0, 1, 2, 3, 4, 5, 6, 7, 8, 9, 10]] (fun _ _ w => Upd (fun _ => False) w8 w) rfl rfl rfl (by kernel_rfl) (by kernel_rfl) (Upd.drew _).to ⟨?_, ?_, ?_, ?_, ?_, ?_, ?_, ?_, ?_, ?_, ?_, ?_, trivial⟩ ?_
  · exact fun D ρ w hcD hnD hdD hW => ⟨[(1, .int .i64 p)], ⟨.inr ⟨rfl, rfl⟩, trivial⟩, fun Lr => t_move rfl rfl rfl (t_nil' fun a ha => ⟨rfl, _, (fun v' h => by cases h; rfl), ha, hW⟩)⟩
  · -- 1
    intro D ρ w14 hcD hnD hdD hW
    have zhW := hW.size
    have E16 := E11.next hW (fun _ _ h => h.elim)
    refine ⟨[(12, .int .i64 p)], ⟨.inl ⟨0, some (.int .i64 p), rfl, rfl, rfl⟩, trivial⟩, fun Lr => ?_⟩
    show WL _ _ _ _ _ _ _ ((12, .int .i64 p) :: Lr) _
    refine t_ari rfl rfl rfl rfl rfl (by omega) ?_
    refine t_nil' ?_
    exact fun a ha => ⟨rfl, _, (fun v' h => by cases h; rfl), ha, hW⟩
  · exact fun D ρ w hcD hnD hdD hW => ⟨[(6, .pointer (some ⟨bk2, 0, none⟩))], ⟨.inr ⟨rfl, rfl⟩, trivial⟩, fun Lr => t_field Try.underlying45 rfl Try.sizeOf3 (1) rfl rfl rfl rfl (t_nil' fun a ha => ⟨rfl, _, (fun v' h => by cases h; rfl), ha, hW⟩)⟩
  · -- 3
    intro D ρ w17 hcD hnD hdD hW
    have zhW := hW.size
    have E19 := E11.next hW (fun _ _ h => h.elim)
    refine ⟨[(14, .pointer (some ⟨bk2, 1, none⟩))], ⟨.inl ⟨2, some (.pointer (some ⟨bk2, 1, none⟩)), rfl, rfl, rfl⟩, trivial⟩, fun Lr => ?_⟩
    show WL _ _ _ _ _ _ _ ((14, .pointer (some ⟨bk2, 1, none⟩)) :: Lr) _
    have B20 := ((B4.keep u10 (fun h => h)).keep hW (fun h => h))
    refine t_load Try.isAgg3 rfl rfl rfl (B20.get rfl) ?_
    refine t_nil' ?_
    exact fun a ha => ⟨rfl, _, (fun v' h => by cases h; rfl), ha, hW⟩
  · -- 4
    intro D ρ w21 hcD hnD hdD hW
    have zhW := hW.size
    have E23 := E11.next hW (fun _ _ h => h.elim)
    refine ⟨[(13, .int .i64 (2592 * p)), (15, .int .i64 hi)], ⟨.inl ⟨1, some (.int .i64 (2592 * p)), rfl, rfl, rfl⟩, .inl ⟨3, some (.int .i64 hi), rfl, rfl, rfl⟩, trivial⟩, fun Lr => ?_⟩
    show WL _ _ _ _ _ _ _ ((13, .int .i64 (2592 * p)) :: (15, .int .i64 hi) :: Lr) _
    refine t_ari rfl rfl rfl rfl rfl (by omega) ?_
    refine t_nil' ?_
    exact fun a ha => ⟨rfl, _, (fun v' h => by cases h; rfl), ha, hW⟩
  · exact fun D ρ w hcD hnD hdD hW => ⟨[(1, .int .i64 p)], ⟨.inr ⟨rfl, rfl⟩, trivial⟩, fun Lr => t_move rfl rfl rfl (t_nil' fun a ha => ⟨rfl, _, (fun v' h => by cases h; rfl), ha, hW⟩)⟩
  · -- 6
    intro D ρ w24 hcD hnD hdD hW
    have zhW := hW.size
    have E26 := E11.next hW (fun _ _ h => h.elim)
    refine ⟨[(17, .int .i64 p)], ⟨.inl ⟨5, some (.int .i64 p), rfl, rfl, rfl⟩, trivial⟩, fun Lr => ?_⟩
    show WL _ _ _ _ _ _ _ ((17, .int .i64 p) :: Lr) _
    refine t_ari rfl rfl rfl rfl rfl (by omega) ?_
    refine t_nil' ?_
    exact fun a ha => ⟨rfl, _, (fun v' h => by cases h; rfl), ha, hW⟩
  · exact fun D ρ w hcD hnD hdD hW => ⟨[(6, .pointer (some ⟨bk2, 0, none⟩))], ⟨.inr ⟨rfl, rfl⟩, trivial⟩, fun Lr => t_field Try.underlying45 rfl Try.sizeOf3 (0) rfl rfl rfl rfl (t_nil' fun a ha => ⟨rfl, _, (fun v' h => by cases h; rfl), ha, hW⟩)⟩
  · -- 8
    intro D ρ w27 hcD hnD hdD hW
    have zhW := hW.size
    have E29 := E11.next hW (fun _ _ h => h.elim)
    refine ⟨[(19, .pointer (some ⟨bk2, 0, none⟩))], ⟨.inl ⟨7, some (.pointer (some ⟨bk2, 0, none⟩)), rfl, rfl, rfl⟩, trivial⟩, fun Lr => ?_⟩
    show WL _ _ _ _ _ _ _ ((19, .pointer (some ⟨bk2, 0, none⟩)) :: Lr) _
    have B30 := ((B4.keep u10 (fun h => h)).keep hW (fun h => h))
    refine t_load Try.isAgg3 rfl rfl rfl (B30.get rfl) ?_
    refine t_nil' ?_
    exact fun a ha => ⟨rfl, _, (fun v' h => by cases h; rfl), ha, hW⟩
  · -- 9
    intro D ρ w31 hcD hnD hdD hW
    have zhW := hW.size
    have E33 := E11.next hW (fun _ _ h => h.elim)
    refine ⟨[(18, .int .i64 (2592 * p)), (20, .int .i64 lo)], ⟨.inl ⟨6, some (.int .i64 (2592 * p)), rfl, rfl, rfl⟩, .inl ⟨8, some (.int .i64 lo), rfl, rfl, rfl⟩, trivial⟩, fun Lr => ?_⟩
    show WL _ _ _ _ _ _ _ ((18, .int .i64 (2592 * p)) :: (20, .int .i64 lo) :: Lr) _
    refine t_ari rfl rfl rfl rfl rfl (by omega) ?_
    refine t_nil' ?_
    exact fun a ha => ⟨rfl, _, (fun v' h => by cases h; rfl), ha, hW⟩
  · exact fun D ρ w hcD hnD hdD hW => ⟨[(16, .int .i64 ((2592 * p) * hi))], ⟨.inl ⟨4, some (.int .i64 ((2592 * p) * hi)), rfl, rfl, rfl⟩, trivial⟩, fun Lr => t_assign rfl rfl rfl (t_nil' fun a ha => ⟨rfl, _, (fun v' h => by cases h; rfl), ha, hW⟩)⟩
  · exact fun D ρ w hcD hnD hdD hW => ⟨[(21, .int .i64 ((2592 * p) * lo))], ⟨.inl ⟨9, some (.int .i64 ((2592 * p) * lo)), rfl, rfl, rfl⟩, trivial⟩, fun Lr => t_assign rfl rfl rfl (t_nil' fun a ha => ⟨rfl, _, (fun v' h => by cases h; rfl), ha, hW⟩)⟩
  intro ρ w34 hW
  have u35 : Upd (fun _ => False) w8 w34 := hW
  have zu35 := u35.size
  have E36 := E11.next u35 (fun _ _ h => h.elim)
  refine QK.weak [(0, .int .i64 m), (3, .int .i64 s), (8, .pointer (some ⟨bk7, 0, none⟩)), (9, .int .i64 ((2592 * p) * hi)), (10, .int .i64 ((2592 * p) * lo))] ⟨rfl, rfl, rfl, rfl, rfl, trivial⟩ ?_
  refine hK12 _ _ ?_
  refine c_seq fun K37 hK37 => ?_
  refine c_region ?_
  refine t_move rfl rfl rfl ?_
  refine t_ari rfl rfl rfl rfl rfl (by omega) ?_
  refine t_move rfl rfl rfl ?_
  refine t_ari rfl rfl rfl rfl rfl (by omega) ?_
  refine t_move rfl rfl rfl ?_
  refine t_ari rfl rfl rfl rfl rfl (by omega) ?_
  refine t_assign rfl rfl rfl ?_
  refine t_nil' ?_
  refine hK37 _ _ ?_
  refine c_seq fun K38 hK38 => ?_
  have B39 := (B9.keep u35 (fun h => h))
  refine WC.weak [(0, .int .i64 m), (3, .int .i64 s), (8, .pointer (some ⟨bk7, 0, none⟩)), (9, .int .i64 ((2592 * p) * hi)), (10, .int .i64 ((2592 * p) * lo)), (11, .int .i64 (((m * 1000) * s) * s)), (22, .int .i64 m), (23, .int .i64 (m * 1000)), (24, .int .i64 s), (25, .int .i64 ((m * 1000) * s)), (26, .int .i64 s), (27, .int .i64 (((m * 1000) * s) * s))] ⟨rfl, rfl, rfl, rfl, rfl, rfl, rfl, rfl, rfl, rfl, rfl, rfl, trivial⟩ ?_
  refine c_drawn follows 23 [some (28, some (.int .i64 s)), some (29, some (.int .i64 (s * 5))), some (30, some (.int .i64 ((2592 * p) * hi))), some (31, some (.int .i64 ((s * 5) * ((2592 * p) * hi)))), some (32, some (.int .i64 (((s * 5) * ((2592 * p) * hi)) / 3))), some (33, some (.int .i64 (((m * 1000) * s) * s))), some (34, some (.int .i64 ((((s * 5) * ((2592 * p) * hi)) / 3) + (((m * 1000) * s) * s)))), some (35, some (.int .i64 ((2592 * p) * hi))), some (36, some (.int .i64 (((((s * 5) * ((2592 * p) * hi)) / 3) + (((m * 1000) * s) * s)) / ((2592 * p) * hi)))), some (37, some (.int .i64 s)), some (38, some (.int .i64 (s * 5))), some (39, some (.int .i64 ((2592 * p) * lo))), some (40, some (.int .i64 ((s * 5) * ((2592 * p) * lo)))), some (41, some (.int .i64 (((s * 5) * ((2592 * p) * lo)) / 3))), some (42, some (.int .i64 (((m * 1000) * s) * s))), some (43, some (.int .i64 ((((s * 5) * ((2592 * p) * lo)) / 3) + (((m * 1000) * s) * s)))), some (44, some (.int .i64 ((2592 * p) * lo))), some (45, some (.int .i64 (((((s * 5) * ((2592 * p) * lo)) / 3) + (((m * 1000) * s) * s)) + ((2592 * p) * lo)))), some (46, some (.int .i64 ((((((s * 5) * ((2592 * p) * lo)) / 3) + (((m * 1000) * s) * s)) + ((2592 * p) * lo)) - 1))), some (47, some (.int .i64 ((2592 * p) * lo))), some (48, some (.int .i64 (((((((s * 5) * ((2592 * p) * lo)) / 3) + (((m * 1000) * s) * s)) + ((2592 * p) * lo)) - 1) / ((2592 * p) * lo)))), some (49, some (.agg #[.int .i64 (((((s * 5) * ((2592 * p) * hi)) / 3) + (((m * 1000) * s) * s)) / ((2592 * p) * hi)), .int .i64 (((((((s * 5) * ((2592 * p) * lo)) / 3) + (((m * 1000) * s) * s)) + ((2592 * p) * lo)) - 1) / ((2592 * p) * lo))])), none] [[], [0], [], [1, 2], [3], [], [4, 5], [], [6, 7], [], [9], [], [10, 11], [12], [], [13, 14], [], [15, 16], [17], [], [18, 19], [8, 20], [21, 0, 1, 2, 3, 4, 5, 6, 7, 8, 9, 10, 11, 12, 13, 14, 15, 16, 17, 18, 19, 20, 21]] (fun D _ w => Upd (fun i => i = bk7) w34 w ∧ Blk w bk7 45 [(bif D 22 then .int .i64 (((((s * 5) * ((2592 * p) * hi)) / 3) + (((m * 1000) * s) * s)) / ((2592 * p) * hi)) else .int .i64 0), (bif D 22 then .int .i64 (((((((s * 5) * ((2592 * p) * lo)) / 3) + (((m * 1000) * s) * s)) + ((2592 * p) * lo)) - 1) / ((2592 * p) * lo)) else .int .i64 0)]) rfl rfl rfl (by kernel_rfl) (by kernel_rfl) ⟨(Upd.drew _).to, (B39.keep (Upd.drew _) (fun h => h))⟩ ⟨?_, ?_, ?_, ?_, ?_, ?_, ?_, ?_, ?_, ?_, ?_, ?_, ?_, ?_, ?_, ?_, ?_, ?_, ?_, ?_, ?_, ?_, ?_, trivial⟩ ?_
  · exact fun D ρ w hcD hnD hdD hW => ⟨[(3, .int .i64 s)], ⟨.inr ⟨rfl, rfl⟩, trivial⟩, fun Lr => t_move rfl rfl rfl (t_nil' fun a ha => ⟨rfl, _, (fun v' h => by cases h; rfl), ha, hW⟩)⟩
  · -- 1
    intro D ρ w40 hcD hnD hdD hW
    obtain ⟨u41, B42⟩ := hW
    have zu41 := u41.size
    have E43 := E36.next u41 (fun i hi (h : i = bk7) => show False by first | omega | assumption)
    have d22 := hcD.late 22 hnD rfl
    have B44 := B42
    simp only [d22, cond_true, cond_false] at B44
    refine ⟨[(28, .int .i64 s)], ⟨.inl ⟨0, some (.int .i64 s), rfl, rfl, rfl⟩, trivial⟩, fun Lr => ?_⟩
    show WL _ _ _ _ _ _ _ ((28, .int .i64 s) :: Lr) _
    refine t_ari rfl rfl rfl rfl rfl (by omega) ?_
    refine t_nil' ?_
    exact fun a ha => ⟨rfl, _, (fun v' h => by cases h; rfl), ha, ⟨u41, B42⟩⟩
  · exact fun D ρ w hcD hnD hdD hW => ⟨[(9, .int .i64 ((2592 * p) * hi))], ⟨.inr ⟨rfl, rfl⟩, trivial⟩, fun Lr => t_move rfl rfl rfl (t_nil' fun a ha => ⟨rfl, _, (fun v' h => by cases h; rfl), ha, hW⟩)⟩
  · -- 3
    intro D ρ w45 hcD hnD hdD hW
    obtain ⟨u46, B47⟩ := hW
    have zu46 := u46.size
    have E48 := E36.next u46 (fun i hi (h : i = bk7) => show False by first | omega | assumption)
    have d22 := hcD.late 22 hnD rfl
    have B49 := B47
    simp only [d22, cond_true, cond_false] at B49
    refine ⟨[(29, .int .i64 (s * 5)), (30, .int .i64 ((2592 * p) * hi))], ⟨.inl ⟨1, some (.int .i64 (s * 5)), rfl, rfl, rfl⟩, .inl ⟨2, some (.int .i64 ((2592 * p) * hi)), rfl, rfl, rfl⟩, trivial⟩, fun Lr => ?_⟩
    show WL _ _ _ _ _ _ _ ((29, .int .i64 (s * 5)) :: (30, .int .i64 ((2592 * p) * hi)) :: Lr) _
    refine t_ari rfl rfl rfl rfl rfl (by omega) ?_
    refine t_nil' ?_
    exact fun a ha => ⟨rfl, _, (fun v' h => by cases h; rfl), ha, ⟨u46, B47⟩⟩
  · -- 4
    intro D ρ w50 hcD hnD hdD hW
    obtain ⟨u51, B52⟩ := hW
    have zu51 := u51.size
    have E53 := E36.next u51 (fun i hi (h : i = bk7) => show False by first | omega | assumption)
    have d22 := hcD.late 22 hnD rfl
    have B54 := B52
    simp only [d22, cond_true, cond_false] at B54
    refine ⟨[(31, .int .i64 ((s * 5) * ((2592 * p) * hi)))], ⟨.inl ⟨3, some (.int .i64 ((s * 5) * ((2592 * p) * hi))), rfl, rfl, rfl⟩, trivial⟩, fun Lr => ?_⟩
    show WL _ _ _ _ _ _ _ ((31, .int .i64 ((s * 5) * ((2592 * p) * hi))) :: Lr) _
    refine t_quo rfl rfl rfl rfl (by omega) (by omega) ?_
    refine t_nil' ?_
    exact fun a ha => ⟨rfl, _, (fun v' h => by cases h; rfl), ha, ⟨u51, B52⟩⟩
  · exact fun D ρ w hcD hnD hdD hW => ⟨[(11, .int .i64 (((m * 1000) * s) * s))], ⟨.inr ⟨rfl, rfl⟩, trivial⟩, fun Lr => t_move rfl rfl rfl (t_nil' fun a ha => ⟨rfl, _, (fun v' h => by cases h; rfl), ha, hW⟩)⟩
  · -- 6
    intro D ρ w55 hcD hnD hdD hW
    obtain ⟨u56, B57⟩ := hW
    have zu56 := u56.size
    have E58 := E36.next u56 (fun i hi (h : i = bk7) => show False by first | omega | assumption)
    have d22 := hcD.late 22 hnD rfl
    have B59 := B57
    simp only [d22, cond_true, cond_false] at B59
    refine ⟨[(32, .int .i64 (((s * 5) * ((2592 * p) * hi)) / 3)), (33, .int .i64 (((m * 1000) * s) * s))], ⟨.inl ⟨4, some (.int .i64 (((s * 5) * ((2592 * p) * hi)) / 3)), rfl, rfl, rfl⟩, .inl ⟨5, some (.int .i64 (((m * 1000) * s) * s)), rfl, rfl, rfl⟩, trivial⟩, fun Lr => ?_⟩
    show WL _ _ _ _ _ _ _ ((32, .int .i64 (((s * 5) * ((2592 * p) * hi)) / 3)) :: (33, .int .i64 (((m * 1000) * s) * s)) :: Lr) _
    refine t_ari rfl rfl rfl rfl rfl (by omega) ?_
    refine t_nil' ?_
    exact fun a ha => ⟨rfl, _, (fun v' h => by cases h; rfl), ha, ⟨u56, B57⟩⟩
  · exact fun D ρ w hcD hnD hdD hW => ⟨[(9, .int .i64 ((2592 * p) * hi))], ⟨.inr ⟨rfl, rfl⟩, trivial⟩, fun Lr => t_move rfl rfl rfl (t_nil' fun a ha => ⟨rfl, _, (fun v' h => by cases h; rfl), ha, hW⟩)⟩
  · -- 8
    intro D ρ w60 hcD hnD hdD hW
    obtain ⟨u61, B62⟩ := hW
    have zu61 := u61.size
    have E63 := E36.next u61 (fun i hi (h : i = bk7) => show False by first | omega | assumption)
    have d22 := hcD.late 22 hnD rfl
    have B64 := B62
    simp only [d22, cond_true, cond_false] at B64
    refine ⟨[(34, .int .i64 ((((s * 5) * ((2592 * p) * hi)) / 3) + (((m * 1000) * s) * s))), (35, .int .i64 ((2592 * p) * hi))], ⟨.inl ⟨6, some (.int .i64 ((((s * 5) * ((2592 * p) * hi)) / 3) + (((m * 1000) * s) * s))), rfl, rfl, rfl⟩, .inl ⟨7, some (.int .i64 ((2592 * p) * hi)), rfl, rfl, rfl⟩, trivial⟩, fun Lr => ?_⟩
    show WL _ _ _ _ _ _ _ ((34, .int .i64 ((((s * 5) * ((2592 * p) * hi)) / 3) + (((m * 1000) * s) * s))) :: (35, .int .i64 ((2592 * p) * hi)) :: Lr) _
    refine t_quo rfl rfl rfl rfl (by omega) (by omega) ?_
    refine t_nil' ?_
    exact fun a ha => ⟨rfl, _, (fun v' h => by cases h; rfl), ha, ⟨u61, B62⟩⟩
  · exact fun D ρ w hcD hnD hdD hW => ⟨[(3, .int .i64 s)], ⟨.inr ⟨rfl, rfl⟩, trivial⟩, fun Lr => t_move rfl rfl rfl (t_nil' fun a ha => ⟨rfl, _, (fun v' h => by cases h; rfl), ha, hW⟩)⟩
  · -- 10
    intro D ρ w65 hcD hnD hdD hW
    obtain ⟨u66, B67⟩ := hW
    have zu66 := u66.size
    have E68 := E36.next u66 (fun i hi (h : i = bk7) => show False by first | omega | assumption)
    have d22 := hcD.late 22 hnD rfl
    have B69 := B67
    simp only [d22, cond_true, cond_false] at B69
    refine ⟨[(37, .int .i64 s)], ⟨.inl ⟨9, some (.int .i64 s), rfl, rfl, rfl⟩, trivial⟩, fun Lr => ?_⟩
    show WL _ _ _ _ _ _ _ ((37, .int .i64 s) :: Lr) _
    refine t_ari rfl rfl rfl rfl rfl (by omega) ?_
    refine t_nil' ?_
    exact fun a ha => ⟨rfl, _, (fun v' h => by cases h; rfl), ha, ⟨u66, B67⟩⟩
  · exact fun D ρ w hcD hnD hdD hW => ⟨[(10, .int .i64 ((2592 * p) * lo))], ⟨.inr ⟨rfl, rfl⟩, trivial⟩, fun Lr => t_move rfl rfl rfl (t_nil' fun a ha => ⟨rfl, _, (fun v' h => by cases h; rfl), ha, hW⟩)⟩
  · -- 12
    intro D ρ w70 hcD hnD hdD hW
    obtain ⟨u71, B72⟩ := hW
    have zu71 := u71.size
    have E73 := E36.next u71 (fun i hi (h : i = bk7) => show False by first | omega | assumption)
    have d22 := hcD.late 22 hnD rfl
    have B74 := B72
    simp only [d22, cond_true, cond_false] at B74
    refine ⟨[(38, .int .i64 (s * 5)), (39, .int .i64 ((2592 * p) * lo))], ⟨.inl ⟨10, some (.int .i64 (s * 5)), rfl, rfl, rfl⟩, .inl ⟨11, some (.int .i64 ((2592 * p) * lo)), rfl, rfl, rfl⟩, trivial⟩, fun Lr => ?_⟩
    show WL _ _ _ _ _ _ _ ((38, .int .i64 (s * 5)) :: (39, .int .i64 ((2592 * p) * lo)) :: Lr) _
    refine t_ari rfl rfl rfl rfl rfl (by omega) ?_
    refine t_nil' ?_
    exact fun a ha => ⟨rfl, _, (fun v' h => by cases h; rfl), ha, ⟨u71, B72⟩⟩
  · -- 13
    intro D ρ w75 hcD hnD hdD hW
    obtain ⟨u76, B77⟩ := hW
    have zu76 := u76.size
    have E78 := E36.next u76 (fun i hi (h : i = bk7) => show False by first | omega | assumption)
    have d22 := hcD.late 22 hnD rfl
    have B79 := B77
    simp only [d22, cond_true, cond_false] at B79
    refine ⟨[(40, .int .i64 ((s * 5) * ((2592 * p) * lo)))], ⟨.inl ⟨12, some (.int .i64 ((s * 5) * ((2592 * p) * lo))), rfl, rfl, rfl⟩, trivial⟩, fun Lr => ?_⟩
    show WL _ _ _ _ _ _ _ ((40, .int .i64 ((s * 5) * ((2592 * p) * lo))) :: Lr) _
    refine t_quo rfl rfl rfl rfl (by omega) (by omega) ?_
    refine t_nil' ?_
    exact fun a ha => ⟨rfl, _, (fun v' h => by cases h; rfl), ha, ⟨u76, B77⟩⟩
  · exact fun D ρ w hcD hnD hdD hW => ⟨[(11, .int .i64 (((m * 1000) * s) * s))], ⟨.inr ⟨rfl, rfl⟩, trivial⟩, fun Lr => t_move rfl rfl rfl (t_nil' fun a ha => ⟨rfl, _, (fun v' h => by cases h; rfl), ha, hW⟩)⟩
  · -- 15
    intro D ρ w80 hcD hnD hdD hW
    obtain ⟨u81, B82⟩ := hW
    have zu81 := u81.size
    have E83 := E36.next u81 (fun i hi (h : i = bk7) => show False by first | omega | assumption)
    have d22 := hcD.late 22 hnD rfl
    have B84 := B82
    simp only [d22, cond_true, cond_false] at B84
    refine ⟨[(41, .int .i64 (((s * 5) * ((2592 * p) * lo)) / 3)), (42, .int .i64 (((m * 1000) * s) * s))], ⟨.inl ⟨13, some (.int .i64 (((s * 5) * ((2592 * p) * lo)) / 3)), rfl, rfl, rfl⟩, .inl ⟨14, some (.int .i64 (((m * 1000) * s) * s)), rfl, rfl, rfl⟩, trivial⟩, fun Lr => ?_⟩
    show WL _ _ _ _ _ _ _ ((41, .int .i64 (((s * 5) * ((2592 * p) * lo)) / 3)) :: (42, .int .i64 (((m * 1000) * s) * s)) :: Lr) _
    refine t_ari rfl rfl rfl rfl rfl (by omega) ?_
    refine t_nil' ?_
    exact fun a ha => ⟨rfl, _, (fun v' h => by cases h; rfl), ha, ⟨u81, B82⟩⟩
  · exact fun D ρ w hcD hnD hdD hW => ⟨[(10, .int .i64 ((2592 * p) * lo))], ⟨.inr ⟨rfl, rfl⟩, trivial⟩, fun Lr => t_move rfl rfl rfl (t_nil' fun a ha => ⟨rfl, _, (fun v' h => by cases h; rfl), ha, hW⟩)⟩
  · -- 17
    intro D ρ w85 hcD hnD hdD hW
    obtain ⟨u86, B87⟩ := hW
    have zu86 := u86.size
    have E88 := E36.next u86 (fun i hi (h : i = bk7) => show False by first | omega | assumption)
    have d22 := hcD.late 22 hnD rfl
    have B89 := B87
    simp only [d22, cond_true, cond_false] at B89
    refine ⟨[(43, .int .i64 ((((s * 5) * ((2592 * p) * lo)) / 3) + (((m * 1000) * s) * s))), (44, .int .i64 ((2592 * p) * lo))], ⟨.inl ⟨15, some (.int .i64 ((((s * 5) * ((2592 * p) * lo)) / 3) + (((m * 1000) * s) * s))), rfl, rfl, rfl⟩, .inl ⟨16, some (.int .i64 ((2592 * p) * lo)), rfl, rfl, rfl⟩, trivial⟩, fun Lr => ?_⟩
    show WL _ _ _ _ _ _ _ ((43, .int .i64 ((((s * 5) * ((2592 * p) * lo)) / 3) + (((m * 1000) * s) * s))) :: (44, .int .i64 ((2592 * p) * lo)) :: Lr) _
    refine t_ari rfl rfl rfl rfl rfl (by omega) ?_
    refine t_nil' ?_
    exact fun a ha => ⟨rfl, _, (fun v' h => by cases h; rfl), ha, ⟨u86, B87⟩⟩
  · -- 18
    intro D ρ w90 hcD hnD hdD hW
    obtain ⟨u91, B92⟩ := hW
    have zu91 := u91.size
    have E93 := E36.next u91 (fun i hi (h : i = bk7) => show False by first | omega | assumption)
    have d22 := hcD.late 22 hnD rfl
    have B94 := B92
    simp only [d22, cond_true, cond_false] at B94
    refine ⟨[(45, .int .i64 (((((s * 5) * ((2592 * p) * lo)) / 3) + (((m * 1000) * s) * s)) + ((2592 * p) * lo)))], ⟨.inl ⟨17, some (.int .i64 (((((s * 5) * ((2592 * p) * lo)) / 3) + (((m * 1000) * s) * s)) + ((2592 * p) * lo))), rfl, rfl, rfl⟩, trivial⟩, fun Lr => ?_⟩
    show WL _ _ _ _ _ _ _ ((45, .int .i64 (((((s * 5) * ((2592 * p) * lo)) / 3) + (((m * 1000) * s) * s)) + ((2592 * p) * lo))) :: Lr) _
    refine t_ari rfl rfl rfl rfl rfl (by omega) ?_
    refine t_nil' ?_
    exact fun a ha => ⟨rfl, _, (fun v' h => by cases h; rfl), ha, ⟨u91, B92⟩⟩
  · exact fun D ρ w hcD hnD hdD hW => ⟨[(10, .int .i64 ((2592 * p) * lo))], ⟨.inr ⟨rfl, rfl⟩, trivial⟩, fun Lr => t_move rfl rfl rfl (t_nil' fun a ha => ⟨rfl, _, (fun v' h => by cases h; rfl), ha, hW⟩)⟩
  · -- 20
    intro D ρ w95 hcD hnD hdD hW
    obtain ⟨u96, B97⟩ := hW
    have zu96 := u96.size
    have E98 := E36.next u96 (fun i hi (h : i = bk7) => show False by first | omega | assumption)
    have d22 := hcD.late 22 hnD rfl
    have B99 := B97
    simp only [d22, cond_true, cond_false] at B99
    refine ⟨[(46, .int .i64 ((((((s * 5) * ((2592 * p) * lo)) / 3) + (((m * 1000) * s) * s)) + ((2592 * p) * lo)) - 1)), (47, .int .i64 ((2592 * p) * lo))], ⟨.inl ⟨18, some (.int .i64 ((((((s * 5) * ((2592 * p) * lo)) / 3) + (((m * 1000) * s) * s)) + ((2592 * p) * lo)) - 1)), rfl, rfl, rfl⟩, .inl ⟨19, some (.int .i64 ((2592 * p) * lo)), rfl, rfl, rfl⟩, trivial⟩, fun Lr => ?_⟩
    show WL _ _ _ _ _ _ _ ((46, .int .i64 ((((((s * 5) * ((2592 * p) * lo)) / 3) + (((m * 1000) * s) * s)) + ((2592 * p) * lo)) - 1)) :: (47, .int .i64 ((2592 * p) * lo)) :: Lr) _
    refine t_quo rfl rfl rfl rfl (by omega) (by omega) ?_
    refine t_nil' ?_
    exact fun a ha => ⟨rfl, _, (fun v' h => by cases h; rfl), ha, ⟨u96, B97⟩⟩
  · exact fun D ρ w hcD hnD hdD hW => ⟨[(36, .int .i64 (((((s * 5) * ((2592 * p) * hi)) / 3) + (((m * 1000) * s) * s)) / ((2592 * p) * hi))), (48, .int .i64 (((((((s * 5) * ((2592 * p) * lo)) / 3) + (((m * 1000) * s) * s)) + ((2592 * p) * lo)) - 1) / ((2592 * p) * lo)))], ⟨.inl ⟨8, some (.int .i64 (((((s * 5) * ((2592 * p) * hi)) / 3) + (((m * 1000) * s) * s)) / ((2592 * p) * hi))), rfl, rfl, rfl⟩, .inl ⟨20, some (.int .i64 (((((((s * 5) * ((2592 * p) * lo)) / 3) + (((m * 1000) * s) * s)) + ((2592 * p) * lo)) - 1) / ((2592 * p) * lo))), rfl, rfl, rfl⟩, trivial⟩, fun Lr => t_build (ps := [(0, .int .i64 (((((s * 5) * ((2592 * p) * hi)) / 3) + (((m * 1000) * s) * s)) / ((2592 * p) * hi))), (1, .int .i64 (((((((s * 5) * ((2592 * p) * lo)) / 3) + (((m * 1000) * s) * s)) + ((2592 * p) * lo)) - 1) / ((2592 * p) * lo)))]) (v := .agg #[.int .i64 (((((s * 5) * ((2592 * p) * hi)) / 3) + (((m * 1000) * s) * s)) / ((2592 * p) * hi)), .int .i64 (((((((s * 5) * ((2592 * p) * lo)) / 3) + (((m * 1000) * s) * s)) + ((2592 * p) * lo)) - 1) / ((2592 * p) * lo))]) rfl rfl ⟨rfl, rfl⟩ (fun w => by kernel_rfl) (t_nil' fun a ha => ⟨rfl, _, (fun v' h => by cases h; rfl), ha, hW⟩)⟩
  · -- 22
    intro D ρ w100 hcD hnD hdD hW
    obtain ⟨u101, B102⟩ := hW
    have zu101 := u101.size
    have E103 := E36.next u101 (fun i hi (h : i = bk7) => show False by first | omega | assumption)
    have B104 := B102
    simp only [hnD, cond_true, cond_false] at B104
    refine ⟨[(8, .pointer (some ⟨bk7, 0, none⟩)), (49, .agg #[.int .i64 (((((s * 5) * ((2592 * p) * hi)) / 3) + (((m * 1000) * s) * s)) / ((2592 * p) * hi)), .int .i64 (((((((s * 5) * ((2592 * p) * lo)) / 3) + (((m * 1000) * s) * s)) + ((2592 * p) * lo)) - 1) / ((2592 * p) * lo))])], ⟨.inr ⟨rfl, rfl⟩, .inl ⟨21, some (.agg #[.int .i64 (((((s * 5) * ((2592 * p) * hi)) / 3) + (((m * 1000) * s) * s)) / ((2592 * p) * hi)), .int .i64 (((((((s * 5) * ((2592 * p) * lo)) / 3) + (((m * 1000) * s) * s)) + ((2592 * p) * lo)) - 1) / ((2592 * p) * lo))]), rfl, rfl, rfl⟩, trivial⟩, fun Lr => ?_⟩
    show WL _ _ _ _ _ _ _ ((8, .pointer (some ⟨bk7, 0, none⟩)) :: (49, .agg #[.int .i64 (((((s * 5) * ((2592 * p) * hi)) / 3) + (((m * 1000) * s) * s)) / ((2592 * p) * hi)), .int .i64 (((((((s * 5) * ((2592 * p) * lo)) / 3) + (((m * 1000) * s) * s)) + ((2592 * p) * lo)) - 1) / ((2592 * p) * lo))]) :: Lr) _
    refine t_store (vs := [.int .i64 (((((s * 5) * ((2592 * p) * hi)) / 3) + (((m * 1000) * s) * s)) / ((2592 * p) * hi)), .int .i64 (((((((s * 5) * ((2592 * p) * lo)) / 3) + (((m * 1000) * s) * s)) + ((2592 * p) * lo)) - 1) / ((2592 * p) * lo))]) Try.sizeOf45 rfl rfl rfl B104 rfl rfl (Nat.le_of_ble_eq_true rfl) (by simp [Value.oneCell']) (fun w105 sw105 B107 u106 => ?_)
    have zu106 := u106.size
    have E108 := E103.next u106 (fun i hi (h : i = bk7) => show False by first | omega | assumption)
    have B107 : Blk w105 bk7 45 [.int .i64 (((((s * 5) * ((2592 * p) * hi)) / 3) + (((m * 1000) * s) * s)) / ((2592 * p) * hi)), .int .i64 (((((((s * 5) * ((2592 * p) * lo)) / 3) + (((m * 1000) * s) * s)) + ((2592 * p) * lo)) - 1) / ((2592 * p) * lo))] := B107
    refine t_nil' ?_
    exact fun a ha => ⟨rfl, ha, ⟨(u101.next u106 (fun i hi (h : i = bk7) => show i = bk7 by first | omega | assumption)), (by show Blk w105 bk7 45 [.int .i64 (((((s * 5) * ((2592 * p) * hi)) / 3) + (((m * 1000) * s) * s)) / ((2592 * p) * hi)), .int .i64 (((((((s * 5) * ((2592 * p) * lo)) / 3) + (((m * 1000) * s) * s)) + ((2592 * p) * lo)) - 1) / ((2592 * p) * lo))]; exact B107)⟩⟩
  intro ρ w109 hW
  obtain ⟨u110, B111⟩ := hW
  have zu110 := u110.size
  have E112 := E36.next u110 (fun i hi (h : i = bk7) => show False by first | omega | assumption)
  have B111 : Blk w109 bk7 45 [.int .i64 (((((s * 5) * ((2592 * p) * hi)) / 3) + (((m * 1000) * s) * s)) / ((2592 * p) * hi)), .int .i64 (((((((s * 5) * ((2592 * p) * lo)) / 3) + (((m * 1000) * s) * s)) + ((2592 * p) * lo)) - 1) / ((2592 * p) * lo))] := B111
  refine QK.weak [(8, .pointer (some ⟨bk7, 0, none⟩))] ⟨rfl, trivial⟩ ?_
  refine hK38 _ _ ?_
  refine c_ret ?_
  refine f_ret1 (v := .agg #[.int .i64 (((((s * 5) * ((2592 * p) * hi)) / 3) + (((m * 1000) * s) * s)) / ((2592 * p) * hi)), .int .i64 (((((((s * 5) * ((2592 * p) * lo)) / 3) + (((m * 1000) * s) * s)) + ((2592 * p) * lo)) - 1) / ((2592 * p) * lo))]) Try.results49 ⟨_, _, rfl, run_loadVarN (vs := [.int .i64 (((((s * 5) * ((2592 * p) * hi)) / 3) + (((m * 1000) * s) * s)) / ((2592 * p) * hi)), .int .i64 (((((((s * 5) * ((2592 * p) * lo)) / 3) + (((m * 1000) * s) * s)) + ((2592 * p) * lo)) - 1) / ((2592 * p) * lo))]) Try.isAgg45 Try.sizeOf45 rfl (B111.at.sub 0 2)⟩ ?_
  exact ⟨by rw [h2l, h2h]; rfl, E112⟩


def RefSafe (m p g s r : Int) : Prop := (0 ≤ r ∧ r ≤ 400) ∧ (0 < r → mostV m p g r ≤ s) ∧ ∀ q, 0 ≤ q → q ≤ 400 → mostV m p g q ≤ s → q ≤ r
def RefTo (m p g s k r : Int) : Prop := (0 ≤ r ∧ r ≤ 400 ∧ (0 < r → r < k)) ∧ (0 < r → mostV m p g r ≤ s) ∧ ∀ q, 0 ≤ q → q < k → mostV m p g q ≤ s → q ≤ r
theorem refTo_start {m p g s : Int} : RefTo m p g s 0 0 := ⟨⟨Int.le_refl _, (by decide), fun h => (by omega)⟩, fun h => (by omega), fun q h1 h2 _ => (by omega)⟩
theorem refTo_hit {m p g s k r : Int} (h : RefTo m p g s k r) (hk : 0 ≤ k ∧ k ≤ 400) (hm : mostV m p g k ≤ s) : RefTo m p g s (k + 1) k :=
  ⟨⟨hk.1, hk.2, fun _ => by omega⟩, fun _ => hm, fun q h1 h2 _ => by omega⟩
theorem refTo_miss {m p g s k r : Int} (h : RefTo m p g s k r) (hk : 0 ≤ k ∧ k ≤ 400) (hm : ¬ mostV m p g k ≤ s) : RefTo m p g s (k + 1) r :=
  ⟨⟨h.1.1, h.1.2.1, fun hr => by have := h.1.2.2 hr; omega⟩, h.2.1, fun q h1 h2 h3 => by
    by_cases e : q = k
    · subst e; exact absurd h3 hm
    · exact h.2.2 q h1 (by omega) h3⟩

theorem rSafe_c (m p lo hi s : Int) (w0 : World) (q1 : 0 ≤ m ∧ m ≤ 400000) (q2 : 1 ≤ p ∧ p ≤ 20000) (q3 : 1 ≤ lo ∧ lo ≤ 1000) (q4 : 1 ≤ hi ∧ hi ≤ 1000) :
    CallsV Try.prog 50 [.int .i64 m, .int .i64 p, .agg #[.int .i64 lo, .int .i64 hi], .int .i64 s] w0 (fun v w' => (∃ r : Int, v = .int .i64 r ∧ RefSafe m p lo s r) ∧ Ext w0 w') := by
  have E0 := Upd.refl (fun _ => False) w0
  refine f_enter (N := 25) Try.func50 rfl rfl rfl ?_
  change WC _ _ _ _ _ _ [(0, .int .i64 m), (1, .int .i64 p), (2, .agg #[.int .i64 lo, .int .i64 hi]), (3, .int .i64 s)] _
  refine c_seq fun K1 hK1 => ?_
  refine c_region ?_
  refine t_box (cs := [.int .i64 lo, .int .i64 hi]) rfl rfl rfl rfl (fun bk2 w3 ebk2 sbk2 B4 u5 => ?_)
  have zu5 := u5.size
  have E6 := E0.next u5 (fun _ _ h => h.elim)
  refine t_assign rfl rfl rfl ?_
  refine t_nil' ?_
  refine hK1 _ _ ?_
  refine c_seq fun K7 hK7 => ?_
  refine c_region ?_
  refine t_assign rfl rfl rfl ?_
  refine t_nil' ?_
  refine hK7 _ _ ?_
  refine c_seq fun K8 hK8 => ?_
  refine c_seq fun K9 hK9 => ?_
  refine c_region ?_
  refine t_assign rfl rfl rfl ?_
  refine t_nil' ?_
  refine hK9 _ _ ?_
  refine c_block ?_
  refine c_loop (γ := Int × Int) (fun gg => [(0, .int .i64 m), (1, .int .i64 p), (3, .int .i64 s), (6, .pointer (some ⟨bk2, 0, none⟩)), (8, .int .i64 0), (9, .int .i64 gg.2), (10, .int .i64 gg.1)]) (fun gg w => Upd (fun _ => False) w3 w ∧ (0 ≤ gg.1 ∧ gg.1 ≤ 401) ∧ (RefTo m p lo s gg.1 gg.2)) (fun gg => (401 - gg.1).toNat) (0, 0) ⟨rfl, rfl, rfl, rfl, rfl, rfl, rfl, trivial⟩ ⟨Upd.refl _ _, (by simp only []; omega), refTo_start⟩ ?_
  intro gg w11 hW K10 hK10
  obtain ⟨k, r⟩ := gg
  change WC _ _ _ _ _ _ [(0, .int .i64 m), (1, .int .i64 p), (3, .int .i64 s), (6, .pointer (some ⟨bk2, 0, none⟩)), (8, .int .i64 0), (9, .int .i64 r), (10, .int .i64 k)] _
  change Upd (fun _ => False) w3 w11 ∧ (0 ≤ k ∧ k ≤ 401) ∧ (RefTo m p lo s k r) at hW
  obtain ⟨u12, I13, I14⟩ := hW
  have zu12 := u12.size
  have E15 := E6.next u12 (fun _ _ h => h.elim)
  have hk := I13; clear I13
  have hr := I14; clear I14
  refine c_seq fun K16 hK16 => ?_
  refine c_seq fun K17 hK17 => ?_
  refine c_region ?_
  refine t_move rfl rfl rfl ?_
  refine t_cmp rfl rfl rfl rfl rfl ?_
  refine t_nil' ?_
  refine hK17 _ _ ?_
  refine c_condp rfl (fun g12 => ?_) (fun g12 => ?_)
  · -- .bool (decide (k ≤ 400))
    refine c_skip ?_
    refine hK16 _ _ ?_
    refine c_seq fun K18 hK18 => ?_
    refine c_block ?_
    refine c_seq fun K19 hK19 => ?_
    refine c_region ?_
    refine t_move rfl rfl rfl ?_
    refine t_move rfl rfl rfl ?_
    have B20 := (B4.keep u12 (fun h => h))
    refine t_loadN (vs := [.int .i64 lo, .int .i64 hi]) Try.isAgg45 Try.sizeOf45 rfl rfl rfl (B20.at.sub 0 2) rfl ?_
    refine t_move rfl rfl rfl ?_
    refine t_call (vs := [.int .i64 m, .int .i64 p, .agg #[.int .i64 lo, .int .i64 hi], .int .i64 k]) own49 rfl rfl rfl rfl (rStop_c m p lo hi k _ q1 q2 q3 q4 (by omega)) (fun v21 w22 r24 => ?_)
    obtain ⟨rfl, u23⟩ := r24
    have zu23 := u23.size
    have E25 := E15.next u23 (fun _ _ h => h.elim)
    refine t_fieldv (cs := [.int .i64 ((rStopB m p lo hi k).lo), .int .i64 ((rStopB m p lo hi k).hi)]) Try.underlying45 rfl Try.isAgg3 rfl rfl rfl rfl ?_
    refine t_move rfl rfl rfl ?_
    refine t_cmp rfl rfl rfl rfl rfl ?_
    refine t_nil' ?_
    refine hK19 _ _ ?_
    refine c_condp rfl (fun g22 => ?_) (fun g22 => ?_)
    · -- .bool (decide ((rStopB m p lo hi k).hi ≤ s))
      refine c_region ?_
      refine t_move rfl rfl rfl ?_
      refine t_assign rfl rfl rfl ?_
      refine t_nil' ?_
      refine hK18 _ _ ?_
      refine c_region ?_
      refine t_move rfl rfl rfl ?_
      refine t_ari rfl rfl rfl rfl rfl (by omega) ?_
      refine t_assign rfl rfl rfl ?_
      refine t_nil' ?_
      exact hK10 ((k + 1), k) _ _ (by show (401 - (k + 1)).toNat < (401 - k).toNat; omega) ⟨rfl, rfl, rfl, rfl, rfl, rfl, rfl, trivial⟩ ⟨(u12.next u23 (fun _ _ h => h.elim)), (by show 0 ≤ (k + 1) ∧ (k + 1) ≤ 401; omega), (refTo_hit hr (by omega) g22)⟩
    · -- not .bool (decide ((rStopB m p lo hi k).hi ≤ s))
      refine c_skip ?_
      refine hK18 _ _ ?_
      refine c_region ?_
      refine t_move rfl rfl rfl ?_
      refine t_ari rfl rfl rfl rfl rfl (by omega) ?_
      refine t_assign rfl rfl rfl ?_
      refine t_nil' ?_
      exact hK10 ((k + 1), r) _ _ (by show (401 - (k + 1)).toNat < (401 - k).toNat; omega) ⟨rfl, rfl, rfl, rfl, rfl, rfl, rfl, trivial⟩ ⟨(u12.next u23 (fun _ _ h => h.elim)), (by show 0 ≤ (k + 1) ∧ (k + 1) ≤ 401; omega), (refTo_miss hr (by omega) g22)⟩
  · -- not .bool (decide (k ≤ 400))
    refine c_exit ?_
    refine hK8 _ _ ?_
    refine c_seq fun K26 hK26 => ?_
    refine c_region ?_
    refine t_move rfl rfl rfl ?_
    refine t_assign rfl rfl rfl ?_
    refine t_nil' ?_
    refine hK26 _ _ ?_
    refine c_ret ?_
    refine f_ret1 (v := .int .i64 r) Try.results50 rfl ?_
    exact ⟨⟨r, rfl, ⟨hr.1.1, hr.1.2.1⟩, hr.2.1, fun q h1 h2 h3 => hr.2.2 q h1 (by omega) h3⟩, E15⟩

end Go.Proofs.Ytmicjleiheoieaa
