/-
  The law TowBrakes returns true. Conditions: none.
-/
import Derived.Test.YtmicjleiheoieaaA13
namespace Go.Proofs.Ytmicjleiheoieaa
open Go Go.RowKit
theorem floor_cross {a b c d : Int} (hb : 0 < b) (hd : 0 < d) (h : a * d ≤ c * b) : a / b ≤ c / d := by
  rw [Int.le_ediv_iff_mul_le hd]
  have h1 : a / b * b ≤ a := Int.ediv_mul_le a (by omega)
  have h2 : a / b * b * d ≤ a * d := Int.mul_le_mul_of_nonneg_right h1 (by omega)
  refine Int.le_of_mul_le_mul_right (a := b) ?_ hb
  rw [show a / b * d * b = a / b * b * d by rw [Int.mul_assoc, Int.mul_comm d b, ← Int.mul_assoc]]
  omega
theorem ceil_le {a b c : Int} (hb : 0 < b) (h : a ≤ c * b) : (a + b - 1) / b ≤ c := by
  have h1 : (a + b - 1) / b < c + 1 := by
    rw [Int.ediv_lt_iff_lt_mul hb, Int.add_mul]
    omega
  omega
theorem le_ceil {a b : Int} (hb : 0 < b) : a ≤ (a + b - 1) / b * b := by
  have := Int.lt_ediv_add_one_mul_self (a + b - 1) hb
  rw [Int.add_mul] at this
  omega
theorem ceil_cross {a b c d : Int} (hb : 0 < b) (hd : 0 < d) (h : a * d ≤ c * b) : (a + b - 1) / b ≤ (c + d - 1) / d := by
  refine ceil_le hb ?_
  have h1 := le_ceil (a := c) hd
  have h2 : c * b ≤ (c + d - 1) / d * d * b := Int.mul_le_mul_of_nonneg_right h1 (by omega)
  refine Int.le_of_mul_le_mul_right (a := d) ?_ hd
  rw [show (c + d - 1) / d * b * d = (c + d - 1) / d * d * b by rw [Int.mul_assoc, Int.mul_comm b d, ← Int.mul_assoc]]
  omega
theorem way_cross {m p g s m' p' g' s' : Int} (hs : 0 ≤ s) (hs' : s ≤ s') (hm : 0 ≤ m) (hm' : m ≤ m') (hG : 0 ≤ p' * g') (hG' : p' * g' ≤ p * g) : wayN m p g s * wayD p' g' ≤ wayN m' p' g' s' * wayD p g := by
  have a1 : s * ((p * g) * (p' * g')) ≤ s' * ((p * g) * (p' * g')) := Int.mul_le_mul_of_nonneg_right hs' (Int.mul_nonneg (by omega) hG)
  have a2 : s * s ≤ s' * s' := Int.mul_le_mul hs' hs' hs (by omega)
  have a3 : m * (s * s) ≤ m' * (s' * s') := Int.mul_le_mul hm' a2 (Int.mul_nonneg hs hs) (by omega)
  have a4 : (m * (s * s)) * (p' * g') ≤ (m' * (s' * s')) * (p * g) := Int.mul_le_mul a3 hG' hG (Int.mul_nonneg (by omega) (Int.mul_nonneg (by omega) (by omega)))
  have e1 : wayN m p g s * wayD p' g' = 4320 * (2592 * (s * ((p * g) * (p' * g')))) + 1000 * (2592 * ((m * (s * s)) * (p' * g'))) := by
    unfold wayN wayD; rw [Int.add_mul]; simp only [Int.mul_assoc, Int.mul_left_comm, Int.mul_comm]
  have e2 : wayN m' p' g' s' * wayD p g = 4320 * (2592 * (s' * ((p * g) * (p' * g')))) + 1000 * (2592 * ((m' * (s' * s')) * (p * g))) := by
    unfold wayN wayD; rw [Int.add_mul]; simp only [Int.mul_assoc, Int.mul_left_comm, Int.mul_comm]
  rw [e1, e2]
  generalize s * ((p * g) * (p' * g')) = x1 at a1 ⊢
  generalize s' * ((p * g) * (p' * g')) = x2 at a1 ⊢
  generalize (m * (s * s)) * (p' * g') = x3 at a4 ⊢
  generalize (m' * (s' * s')) * (p * g) = x4 at a4 ⊢
  omega
theorem wayD_pos {p g : Int} (hp : 0 < p) (hg : 0 < g) : 0 < wayD p g := Int.mul_pos (by omega) hg
theorem low_le {m p g s m' p' g' s' : Int} (hs : 0 ≤ s) (hs' : s ≤ s') (hm : 0 ≤ m) (hm' : m ≤ m') (hp : 0 < p') (hg : 0 < g') (hpp : p' ≤ p) (hgg : g' ≤ g) : wayN m p g s / wayD p g ≤ wayN m' p' g' s' / wayD p' g' :=
  floor_cross (wayD_pos (by omega) (by omega)) (wayD_pos hp hg) (way_cross hs hs' hm hm' (Int.mul_nonneg (by omega) (by omega)) (Int.mul_le_mul hpp hgg (by omega) (by omega)))
theorem high_le {m p g s m' p' g' s' : Int} (hs : 0 ≤ s) (hs' : s ≤ s') (hm : 0 ≤ m) (hm' : m ≤ m') (hp : 0 < p') (hg : 0 < g') (hpp : p' ≤ p) (hgg : g' ≤ g) : mostV m p g s ≤ mostV m' p' g' s' :=
  ceil_cross (wayD_pos (by omega) (by omega)) (wayD_pos hp hg) (way_cross hs hs' hm hm' (Int.mul_nonneg (by omega) (by omega)) (Int.mul_le_mul hpp hgg (by omega) (by omega)))
theorem low_high {m p g s : Int} (hp : 0 < p) (hg : 0 < g) : wayN m p g s / wayD p g ≤ mostV m p g s :=
  Int.ediv_le_ediv (wayD_pos hp hg) (by have := wayD_pos hp hg; omega)
theorem low_nonneg {m p g s : Int} (hm : 0 ≤ m) (hp : 0 < p) (hg : 0 < g) (hs : 0 ≤ s) : 0 ≤ wayN m p g s / wayD p g :=
  Int.ediv_nonneg (by unfold wayN; exact Int.add_nonneg (Int.mul_nonneg (Int.mul_nonneg (by omega) (by omega)) (by omega)) (Int.mul_nonneg (Int.mul_nonneg (by omega) hs) hs)) (by have := wayD_pos hp hg; omega)
theorem high_five {m p g s : Int} (hm : 0 ≤ m) (hp : 0 < p) (hg : 0 < g) (hs : 0 ≤ s) : 5 * s ≤ 3 * mostV m p g s := by
  have h1 : wayN m p g s ≤ mostV m p g s * wayD p g := le_ceil (wayD_pos hp hg)
  have h2 : 0 ≤ m * 1000 * s * s := Int.mul_nonneg (Int.mul_nonneg (by omega) hs) hs
  have h3 : 4320 * s * (p * g) ≤ 2592 * mostV m p g s * (p * g) := by
    have e1 : s * 4320 * p * g = 4320 * s * (p * g) := by simp only [Int.mul_assoc, Int.mul_left_comm, Int.mul_comm]
    have e2 : mostV m p g s * wayD p g = 2592 * mostV m p g s * (p * g) := by unfold wayD; simp only [Int.mul_assoc, Int.mul_left_comm, Int.mul_comm]
    unfold wayN at h1; omega
  have := Int.le_of_mul_le_mul_right h3 (Int.mul_pos hp hg)
  omega
theorem most_zero {m p g : Int} (hp : 0 < p) (hg : 0 < g) : mostV m p g 0 = 0 := by
  unfold mostV wayN
  have := wayD_pos hp hg
  exact Int.ediv_eq_zero_of_lt (by omega) (by omega)
theorem most_le {m p g s : Int} (h : RB m p g s) : 0 ≤ mostV m p g s ∧ mostV m p g s ≤ 2000000000000000 := by
  have h1 := h.wayN
  have h2 := h.wayD
  unfold mostV
  exact ⟨Int.ediv_nonneg (by omega) (by omega), Int.le_trans (Int.ediv_le_self _ (by omega)) (by omega)⟩
theorem StopE_ok {m p lo hi s : Int} (h : okStop m p lo hi s = true) : StopE m p lo hi s = 0 := by simp [StopE, h]
theorem StopB_ok {m p lo hi s : Int} (h : okStop m p lo hi s = true) : StopB m p lo hi s = ⟨wayN m p hi s / wayD p hi, mostV m p lo s⟩ := by simp [StopB, h]
theorem okStop_of {m p lo hi s : Int} (h1 : 0 ≤ m ∧ m ≤ 400000) (h2 : 1 ≤ p ∧ p ≤ 20000) (h3 : 1 ≤ lo ∧ lo ≤ hi ∧ hi ≤ 1000) (h4 : 0 ≤ s ∧ s ≤ 400) : okStop m p lo hi s = true := by
  simp [okStop, okBrake]; omega

theorem own11 : Own Try.prog 11 := ⟨Try.f11, Try.func11, by kernel_rfl, by kernel_rfl⟩


theorem StopOk_c (m p lo hi s : Int) (w : World) (h : okStop m p lo hi s = true) : CallsV Try.prog 46 [.int .i64 m, .int .i64 p, .agg #[.int .i64 lo, .int .i64 hi], .int .i64 s] w (fun v w' => v = .tuple #[.agg #[.int .i64 (wayN m p hi s / wayD p hi), .int .i64 (mostV m p lo s)], .int .i64 0] ∧ Ext w w') :=
  (Stop_c m p lo hi s w).mono fun _ _ q => ⟨q.1.trans (by rw [StopE_ok h, StopB_ok h]), q.2⟩
theorem SafeOk_c (m p lo hi s : Int) (w : World) (h : okSafe m p lo hi s = true) : CallsV Try.prog 47 [.int .i64 m, .int .i64 p, .agg #[.int .i64 lo, .int .i64 hi], .int .i64 s] w (fun v w' => (∃ r : Int, v = .tuple #[.int .i64 r, .int .i64 0] ∧ SafeR m p lo s r) ∧ Ext w w') :=
  (Safe_c m p lo hi s w).mono fun _ _ ⟨⟨r, e, h1, h2⟩, u⟩ => by
    unfold SafeQ at h2; rw [if_pos h] at h2
    obtain ⟨rfl, h2⟩ := h2
    exact ⟨⟨r, h1, h2⟩, u⟩

set_option maxHeartbeats 1000000 in
theorem TowBrakes_c (n0 n1 n2 n3 n4 n5 n6 : Int) (w0 : World) (h0 : 0 ≤ n0 ∧ n0 ≤ 65535) (h1 : 0 ≤ n1 ∧ n1 ≤ 65535) (h2 : 0 ≤ n2 ∧ n2 ≤ 255) (h3 : 0 ≤ n3 ∧ n3 ≤ 255) (h4 : 0 ≤ n4 ∧ n4 ≤ 255) (h5 : 0 ≤ n5 ∧ n5 ≤ 255) (h6 : 0 ≤ n6 ∧ n6 ≤ 65535) :
    CallsV Try.prog 11 [.agg #[.int .u16 n0, .int .u16 n1, .int .u8 n2, .int .u8 n3, .int .u8 n4, .int .u8 n5, .int .u16 n6]] w0 (fun x w' => x = .bool true ∧ Ext w0 w') := by
  have E0 := Upd.refl (fun _ => False) w0
  refine f_enter (N := 234) Try.func11 rfl rfl rfl ?_
  change WC _ _ _ _ _ _ [(0, .agg #[.int .u16 n0, .int .u16 n1, .int .u8 n2, .int .u8 n3, .int .u8 n4, .int .u8 n5, .int .u16 n6])] _
  refine c_seq fun K1 hK1 => ?_
  refine c_region ?_
  refine t_box (cs := [.int .u16 n0, .int .u16 n1, .int .u8 n2, .int .u8 n3, .int .u8 n4, .int .u8 n5, .int .u16 n6]) rfl rfl rfl rfl (fun bk2 w3 ebk2 sbk2 B4 u5 => ?_)
  have zu5 := u5.size
  have E6 := E0.next u5 (fun _ _ h => h.elim)
  refine t_assign rfl rfl rfl ?_
  refine t_nil' ?_
  refine hK1 _ _ ?_
  refine c_seq fun K7 hK7 => ?_
  refine WC.weak [(0, .agg #[.int .u16 n0, .int .u16 n1, .int .u8 n2, .int .u8 n3, .int .u8 n4, .int .u8 n5, .int .u16 n6]), (1, .pointer (some ⟨bk2, 0, none⟩)), (2, .bool false)] ⟨rfl, rfl, rfl, trivial⟩ ?_
  refine c_drawn follows 11 [some (22, some (.pointer (some ⟨bk2, 0, none⟩))), some (23, some (.int .u16 n0)), some (24, some (.int .i64 n0)), some (25, some (.int .i64 (5 * n0))), some (26, some (.pointer (some ⟨bk2, 1, none⟩))), some (27, some (.int .u16 n1)), some (28, some (.int .i64 n1)), some (29, some (.int .i64 (n1 % 19999))), some (30, some (.int .i64 (1 + (n1 % 19999)))), some (3, some (.int .i64 (5 * n0))), some (4, some (.int .i64 (1 + (n1 % 19999))))] [[], [0], [1], [2], [], [4], [5], [6], [7], [3, 0, 1, 2, 3], [8, 9, 0, 1, 2, 3, 4, 5, 6, 7, 8, 9]] (fun _ _ w => Upd (fun _ => False) w3 w) rfl rfl rfl (by kernel_rfl) (by kernel_rfl) (Upd.drew _).to ⟨?_, ?_, ?_, ?_, ?_, ?_, ?_, ?_, ?_, ?_, ?_, trivial⟩ ?_
  · exact fun D ρ w hcD hnD hdD hW => ⟨[(1, .pointer (some ⟨bk2, 0, none⟩))], ⟨.inr ⟨rfl, rfl⟩, trivial⟩, fun Lr => t_field Try.underlying92 rfl Try.sizeOf57 (0) rfl rfl rfl rfl (t_nil' fun a ha => ⟨rfl, _, (fun v' h => by cases h; rfl), ha, hW⟩)⟩
  · -- 1
    intro D ρ w8 hcD hnD hdD hW
    have zhW := hW.size
    have E10 := E6.next hW (fun _ _ h => h.elim)
    refine ⟨[(22, .pointer (some ⟨bk2, 0, none⟩))], ⟨.inl ⟨0, some (.pointer (some ⟨bk2, 0, none⟩)), rfl, rfl, rfl⟩, trivial⟩, fun Lr => ?_⟩
    show WL _ _ _ _ _ _ _ ((22, .pointer (some ⟨bk2, 0, none⟩)) :: Lr) _
    have B11 := (B4.keep hW (fun h => h))
    refine t_load Try.isAgg57 rfl rfl rfl (B11.get rfl) ?_
    refine t_nil' ?_
    exact fun a ha => ⟨rfl, _, (fun v' h => by cases h; rfl), ha, hW⟩
  · -- 2
    intro D ρ w12 hcD hnD hdD hW
    have zhW := hW.size
    have E14 := E6.next hW (fun _ _ h => h.elim)
    refine ⟨[(23, .int .u16 n0)], ⟨.inl ⟨1, some (.int .u16 n0), rfl, rfl, rfl⟩, trivial⟩, fun Lr => ?_⟩
    show WL _ _ _ _ _ _ _ ((23, .int .u16 n0) :: Lr) _
    refine t_conv Try.underlying57 Try.underlying3 rfl rfl rfl (IntWalk.i64_in _ (by omega)) ?_
    refine t_nil' ?_
    exact fun a ha => ⟨rfl, _, (fun v' h => by cases h; rfl), ha, hW⟩
  · -- 3
    intro D ρ w15 hcD hnD hdD hW
    have zhW := hW.size
    have E17 := E6.next hW (fun _ _ h => h.elim)
    refine ⟨[(24, .int .i64 n0)], ⟨.inl ⟨2, some (.int .i64 n0), rfl, rfl, rfl⟩, trivial⟩, fun Lr => ?_⟩
    show WL _ _ _ _ _ _ _ ((24, .int .i64 n0) :: Lr) _
    refine t_ari rfl rfl rfl rfl rfl (by omega) ?_
    refine t_nil' ?_
    exact fun a ha => ⟨rfl, _, (fun v' h => by cases h; rfl), ha, hW⟩
  · exact fun D ρ w hcD hnD hdD hW => ⟨[(1, .pointer (some ⟨bk2, 0, none⟩))], ⟨.inr ⟨rfl, rfl⟩, trivial⟩, fun Lr => t_field Try.underlying92 rfl Try.sizeOf57 (1) rfl rfl rfl rfl (t_nil' fun a ha => ⟨rfl, _, (fun v' h => by cases h; rfl), ha, hW⟩)⟩
  · -- 5
    intro D ρ w18 hcD hnD hdD hW
    have zhW := hW.size
    have E20 := E6.next hW (fun _ _ h => h.elim)
    refine ⟨[(26, .pointer (some ⟨bk2, 1, none⟩))], ⟨.inl ⟨4, some (.pointer (some ⟨bk2, 1, none⟩)), rfl, rfl, rfl⟩, trivial⟩, fun Lr => ?_⟩
    show WL _ _ _ _ _ _ _ ((26, .pointer (some ⟨bk2, 1, none⟩)) :: Lr) _
    have B21 := (B4.keep hW (fun h => h))
    refine t_load Try.isAgg57 rfl rfl rfl (B21.get rfl) ?_
    refine t_nil' ?_
    exact fun a ha => ⟨rfl, _, (fun v' h => by cases h; rfl), ha, hW⟩
  · -- 6
    intro D ρ w22 hcD hnD hdD hW
    have zhW := hW.size
    have E24 := E6.next hW (fun _ _ h => h.elim)
    refine ⟨[(27, .int .u16 n1)], ⟨.inl ⟨5, some (.int .u16 n1), rfl, rfl, rfl⟩, trivial⟩, fun Lr => ?_⟩
    show WL _ _ _ _ _ _ _ ((27, .int .u16 n1) :: Lr) _
    refine t_conv Try.underlying57 Try.underlying3 rfl rfl rfl (IntWalk.i64_in _ (by omega)) ?_
    refine t_nil' ?_
    exact fun a ha => ⟨rfl, _, (fun v' h => by cases h; rfl), ha, hW⟩
  · -- 7
    intro D ρ w25 hcD hnD hdD hW
    have zhW := hW.size
    have E27 := E6.next hW (fun _ _ h => h.elim)
    refine ⟨[(28, .int .i64 n1)], ⟨.inl ⟨6, some (.int .i64 n1), rfl, rfl, rfl⟩, trivial⟩, fun Lr => ?_⟩
    show WL _ _ _ _ _ _ _ ((28, .int .i64 n1) :: Lr) _
    refine t_rem rfl rfl rfl rfl (by omega) (by omega) ?_
    refine t_nil' ?_
    exact fun a ha => ⟨rfl, _, (fun v' h => by cases h; rfl), ha, hW⟩
  · -- 8
    intro D ρ w28 hcD hnD hdD hW
    have zhW := hW.size
    have E30 := E6.next hW (fun _ _ h => h.elim)
    refine ⟨[(29, .int .i64 (n1 % 19999))], ⟨.inl ⟨7, some (.int .i64 (n1 % 19999)), rfl, rfl, rfl⟩, trivial⟩, fun Lr => ?_⟩
    show WL _ _ _ _ _ _ _ ((29, .int .i64 (n1 % 19999)) :: Lr) _
    refine t_ari rfl rfl rfl rfl rfl (by omega) ?_
    refine t_nil' ?_
    exact fun a ha => ⟨rfl, _, (fun v' h => by cases h; rfl), ha, hW⟩
  · exact fun D ρ w hcD hnD hdD hW => ⟨[(25, .int .i64 (5 * n0))], ⟨.inl ⟨3, some (.int .i64 (5 * n0)), rfl, rfl, rfl⟩, trivial⟩, fun Lr => t_assign rfl rfl rfl (t_nil' fun a ha => ⟨rfl, _, (fun v' h => by cases h; rfl), ha, hW⟩)⟩
  · exact fun D ρ w hcD hnD hdD hW => ⟨[(30, .int .i64 (1 + (n1 % 19999)))], ⟨.inl ⟨8, some (.int .i64 (1 + (n1 % 19999))), rfl, rfl, rfl⟩, trivial⟩, fun Lr => t_assign rfl rfl rfl (t_nil' fun a ha => ⟨rfl, _, (fun v' h => by cases h; rfl), ha, hW⟩)⟩
  intro ρ w31 hW
  have u32 : Upd (fun _ => False) w3 w31 := hW
  have zu32 := u32.size
  have E33 := E6.next u32 (fun _ _ h => h.elim)
  refine QK.weak [(1, .pointer (some ⟨bk2, 0, none⟩)), (2, .bool false), (3, .int .i64 (5 * n0)), (4, .int .i64 (1 + (n1 % 19999)))] ⟨rfl, rfl, rfl, rfl, trivial⟩ ?_
  refine hK7 _ _ ?_
  refine c_seq fun K34 hK34 => ?_
  obtain ⟨m, hm⟩ : ∃ y : Int, y = (5 * n0) := ⟨_, rfl⟩
  refine c_same 3 (v := .int .i64 m) rfl (congrArg (Value.int .i64) hm.symm) ?_
  obtain ⟨p, hp⟩ : ∃ y : Int, y = (1 + (n1 % 19999)) := ⟨_, rfl⟩
  refine c_same 4 (v := .int .i64 p) rfl (congrArg (Value.int .i64) hp.symm) ?_
  refine WC.weak [(1, .pointer (some ⟨bk2, 0, none⟩)), (2, .bool false), (3, .int .i64 m), (4, .int .i64 p)] ⟨rfl, rfl, rfl, rfl, trivial⟩ ?_
  refine c_drawn follows 11 [some (31, some (.pointer (some ⟨bk2, 2, none⟩))), some (32, some (.agg #[.int .u8 n2, .int .u8 n3])), some (33, some (.pointer (some ⟨bk2, 4, none⟩))), some (34, some (.agg #[.int .u8 n4, .int .u8 n5])), some (35, some (.pointer (some ⟨bk2, 6, none⟩))), some (36, some (.int .u16 n6)), some (5, none), some (6, none), none, none, some (7, some (.int .u16 n6))] [[], [0], [], [2], [], [4], [], [], [6, 1, 0, 1, 6, 7], [7, 3, 8, 0, 1, 2, 3, 6, 7, 8], [5, 9, 0, 1, 2, 3, 4, 5, 6, 7, 8, 9]] (fun D ρ w => Upd (fun _ => False) w31 w ∧ (D 6 = true → ∃ bk36, ρ 6 = .pointer (some ⟨bk36, 0, none⟩) ∧ w31.heap.size ≤ bk36 ∧ Blk w bk36 90 [(bif D 8 then .int .u8 n2 else .int .u8 0), (bif D 8 then .int .u8 n3 else .int .u8 0)]) ∧ (D 7 = true → ∃ bk41, ρ 7 = .pointer (some ⟨bk41, 0, none⟩) ∧ w31.heap.size ≤ bk41 ∧ Blk w bk41 90 [(bif D 9 then .int .u8 n4 else .int .u8 0), (bif D 9 then .int .u8 n5 else .int .u8 0)]) ∧ (∀ b c, D 6 = true → D 7 = true → ρ 6 = .pointer (some ⟨b, 0, none⟩) → ρ 7 = .pointer (some ⟨c, 0, none⟩) → b ≠ c)) rfl rfl rfl (by kernel_rfl) (by kernel_rfl) ⟨(Upd.drew _).to, (fun h => by cases h), (fun h => by cases h), (fun _ _ h => by cases h)⟩ ⟨?_, ?_, ?_, ?_, ?_, ?_, ?_, ?_, ?_, ?_, ?_, trivial⟩ ?_
  · exact fun D ρ w hcD hnD hdD hW => ⟨[(1, .pointer (some ⟨bk2, 0, none⟩))], ⟨.inr ⟨rfl, rfl⟩, trivial⟩, fun Lr => t_field Try.underlying92 rfl Try.sizeOf90 (2) rfl rfl rfl rfl (t_nil' fun a ha => ⟨rfl, _, (fun v' h => by cases h; rfl), ha, hW⟩)⟩
  · -- 1
    intro D ρ w46 hcD hnD hdD hW
    obtain ⟨u47, F48, F49, P50⟩ := hW
    have zu47 := u47.size
    have E51 := E33.next u47 (fun _ _ h => h.elim)
    refine ⟨[(31, .pointer (some ⟨bk2, 2, none⟩))], ⟨.inl ⟨0, some (.pointer (some ⟨bk2, 2, none⟩)), rfl, rfl, rfl⟩, trivial⟩, fun Lr => ?_⟩
    show WL _ _ _ _ _ _ _ ((31, .pointer (some ⟨bk2, 2, none⟩)) :: Lr) _
    have B52 := ((B4.keep u32 (fun h => h)).keep u47 (fun h => h))
    refine t_loadN (vs := [.int .u8 n2, .int .u8 n3]) Try.isAgg90 Try.sizeOf90 rfl rfl rfl (B52.at.sub 2 2) rfl ?_
    refine t_nil' ?_
    exact fun a ha => ⟨rfl, _, (fun v' h => by cases h; rfl), ha, ⟨u47, F48, F49, P50⟩⟩
  · exact fun D ρ w hcD hnD hdD hW => ⟨[(1, .pointer (some ⟨bk2, 0, none⟩))], ⟨.inr ⟨rfl, rfl⟩, trivial⟩, fun Lr => t_field Try.underlying92 rfl Try.sizeOf90 (4) rfl rfl rfl rfl (t_nil' fun a ha => ⟨rfl, _, (fun v' h => by cases h; rfl), ha, hW⟩)⟩
  · -- 3
    intro D ρ w53 hcD hnD hdD hW
    obtain ⟨u54, F55, F56, P57⟩ := hW
    have zu54 := u54.size
    have E58 := E33.next u54 (fun _ _ h => h.elim)
    refine ⟨[(33, .pointer (some ⟨bk2, 4, none⟩))], ⟨.inl ⟨2, some (.pointer (some ⟨bk2, 4, none⟩)), rfl, rfl, rfl⟩, trivial⟩, fun Lr => ?_⟩
    show WL _ _ _ _ _ _ _ ((33, .pointer (some ⟨bk2, 4, none⟩)) :: Lr) _
    have B59 := ((B4.keep u32 (fun h => h)).keep u54 (fun h => h))
    refine t_loadN (vs := [.int .u8 n4, .int .u8 n5]) Try.isAgg90 Try.sizeOf90 rfl rfl rfl (B59.at.sub 4 2) rfl ?_
    refine t_nil' ?_
    exact fun a ha => ⟨rfl, _, (fun v' h => by cases h; rfl), ha, ⟨u54, F55, F56, P57⟩⟩
  · exact fun D ρ w hcD hnD hdD hW => ⟨[(1, .pointer (some ⟨bk2, 0, none⟩))], ⟨.inr ⟨rfl, rfl⟩, trivial⟩, fun Lr => t_field Try.underlying92 rfl Try.sizeOf57 (6) rfl rfl rfl rfl (t_nil' fun a ha => ⟨rfl, _, (fun v' h => by cases h; rfl), ha, hW⟩)⟩
  · -- 5
    intro D ρ w60 hcD hnD hdD hW
    obtain ⟨u61, F62, F63, P64⟩ := hW
    have zu61 := u61.size
    have E65 := E33.next u61 (fun _ _ h => h.elim)
    refine ⟨[(35, .pointer (some ⟨bk2, 6, none⟩))], ⟨.inl ⟨4, some (.pointer (some ⟨bk2, 6, none⟩)), rfl, rfl, rfl⟩, trivial⟩, fun Lr => ?_⟩
    show WL _ _ _ _ _ _ _ ((35, .pointer (some ⟨bk2, 6, none⟩)) :: Lr) _
    have B66 := ((B4.keep u32 (fun h => h)).keep u61 (fun h => h))
    refine t_load Try.isAgg57 rfl rfl rfl (B66.get rfl) ?_
    refine t_nil' ?_
    exact fun a ha => ⟨rfl, _, (fun v' h => by cases h; rfl), ha, ⟨u61, F62, F63, P64⟩⟩
  · -- 6
    intro D ρ w67 hcD hnD hdD hW
    obtain ⟨u68, F69, F70, P71⟩ := hW
    have zu68 := u68.size
    have E72 := E33.next u68 (fun _ _ h => h.elim)
    refine ⟨[], trivial, fun Lr => ?_⟩
    show WL _ _ _ _ _ _ _ (Lr) _
    refine t_alloc (cs := [.int .u8 0, .int .u8 0]) Try.zeroValue90 rfl rfl rfl (fun bk73 w74 ebk73 sbk73 B75 u76 => ?_)
    have zu76 := u76.size
    have E77 := E72.next u76 (fun _ _ h => h.elim)
    refine t_nil' ?_
    have d8 := hcD.late 8 hnD rfl
    exact fun a ha => ⟨rfl, _, (fun v' h => by cases h), ha, ⟨(u68.next u76 (fun _ _ h => h.elim)), (fun _ => ⟨bk73, rfl, (by omega), (by show Blk w74 bk73 90 [(bif D 8 then .int .u8 n2 else .int .u8 0), (bif D 8 then .int .u8 n3 else .int .u8 0)]; simp only [d8, cond_true, cond_false]; exact B75)⟩), (fun h => by obtain ⟨b, e, hge, hB⟩ := F70 h; exact ⟨b, e, hge, (hB.keep u76 (fun h => h))⟩), (fun b c h1 h2 e1 e2 => by obtain ⟨b1, e3, _, hB⟩ := F70 h2; have hl := hB.lt; have e4 : Value.pointer (some ⟨b1, 0, none⟩) = .pointer (some ⟨c, 0, none⟩) := e3.symm.trans e2; have e5 : Value.pointer (some ⟨bk73, 0, none⟩) = .pointer (some ⟨b, 0, none⟩) := e1; simp at e4 e5; omega)⟩⟩
  · -- 7
    intro D ρ w78 hcD hnD hdD hW
    obtain ⟨u79, F80, F81, P82⟩ := hW
    have zu79 := u79.size
    have E83 := E33.next u79 (fun _ _ h => h.elim)
    refine ⟨[], trivial, fun Lr => ?_⟩
    show WL _ _ _ _ _ _ _ (Lr) _
    refine t_alloc (cs := [.int .u8 0, .int .u8 0]) Try.zeroValue90 rfl rfl rfl (fun bk84 w85 ebk84 sbk84 B86 u87 => ?_)
    have zu87 := u87.size
    have E88 := E83.next u87 (fun _ _ h => h.elim)
    refine t_nil' ?_
    have d9 := hcD.late 9 hnD rfl
    exact fun a ha => ⟨rfl, _, (fun v' h => by cases h), ha, ⟨(u79.next u87 (fun _ _ h => h.elim)), (fun h => by obtain ⟨b, e, hge, hB⟩ := F80 h; exact ⟨b, e, hge, (hB.keep u87 (fun h => h))⟩), (fun _ => ⟨bk84, rfl, (by omega), (by show Blk w85 bk84 90 [(bif D 9 then .int .u8 n4 else .int .u8 0), (bif D 9 then .int .u8 n5 else .int .u8 0)]; simp only [d9, cond_true, cond_false]; exact B86)⟩), (fun b c h1 h2 e1 e2 => by obtain ⟨b1, e3, _, hB⟩ := F80 h1; have hl := hB.lt; have e4 : Value.pointer (some ⟨b1, 0, none⟩) = .pointer (some ⟨b, 0, none⟩) := e3.symm.trans e1; have e5 : Value.pointer (some ⟨bk84, 0, none⟩) = .pointer (some ⟨c, 0, none⟩) := e2; simp at e4 e5; omega)⟩⟩
  · -- 8
    intro D ρ w89 hcD hnD hdD hW
    obtain ⟨u90, F91, F92, P93⟩ := hW
    have zu90 := u90.size
    have E94 := E33.next u90 (fun _ _ h => h.elim)
    obtain ⟨bk36, e95, gebk36, B96⟩ := F91 (hdD 6 rfl)
    have B97 := B96
    simp only [hnD, cond_true, cond_false] at B97
    refine ⟨[(5, .pointer (some ⟨bk36, 0, none⟩)), (32, .agg #[.int .u8 n2, .int .u8 n3])], ⟨.inl ⟨6, none, rfl, rfl, e95.symm⟩, .inl ⟨1, some (.agg #[.int .u8 n2, .int .u8 n3]), rfl, rfl, rfl⟩, trivial⟩, fun Lr => ?_⟩
    show WL _ _ _ _ _ _ _ ((5, .pointer (some ⟨bk36, 0, none⟩)) :: (32, .agg #[.int .u8 n2, .int .u8 n3]) :: Lr) _
    refine t_store (vs := [.int .u8 n2, .int .u8 n3]) Try.sizeOf90 rfl rfl rfl B97 rfl rfl (Nat.le_of_ble_eq_true rfl) (by simp [Value.oneCell']) (fun w98 sw98 B100 u99 => ?_)
    have zu99 := u99.size
    have E101 := E94.next u99 (fun i hi (h : i = bk36) => show False by first | omega | assumption)
    have B100 : Blk w98 bk36 90 [.int .u8 n2, .int .u8 n3] := B100
    refine t_nil' ?_
    exact fun a ha => ⟨rfl, ha, ⟨(u90.next u99 (fun i hi (h : i = bk36) => show False by first | omega | assumption)), (fun _ => ⟨bk36, e95, gebk36, (by show Blk w98 bk36 90 [.int .u8 n2, .int .u8 n3]; exact B100)⟩), (fun h => by obtain ⟨b, e, hge, hB⟩ := F92 h; have hne := P93 _ _ (hdD 6 rfl) h e95 e; exact ⟨b, e, hge, (hB.keep u99 (show ¬ (b = bk36) by first | omega | assumption))⟩), P93⟩⟩
  · -- 9
    intro D ρ w102 hcD hnD hdD hW
    obtain ⟨u103, F104, F105, P106⟩ := hW
    have zu103 := u103.size
    have E107 := E33.next u103 (fun _ _ h => h.elim)
    obtain ⟨bk41, e108, gebk41, B109⟩ := F105 (hdD 7 rfl)
    have B110 := B109
    simp only [hnD, cond_true, cond_false] at B110
    refine ⟨[(6, .pointer (some ⟨bk41, 0, none⟩)), (34, .agg #[.int .u8 n4, .int .u8 n5])], ⟨.inl ⟨7, none, rfl, rfl, e108.symm⟩, .inl ⟨3, some (.agg #[.int .u8 n4, .int .u8 n5]), rfl, rfl, rfl⟩, trivial⟩, fun Lr => ?_⟩
    show WL _ _ _ _ _ _ _ ((6, .pointer (some ⟨bk41, 0, none⟩)) :: (34, .agg #[.int .u8 n4, .int .u8 n5]) :: Lr) _
    refine t_store (vs := [.int .u8 n4, .int .u8 n5]) Try.sizeOf90 rfl rfl rfl B110 rfl rfl (Nat.le_of_ble_eq_true rfl) (by simp [Value.oneCell']) (fun w111 sw111 B113 u112 => ?_)
    have zu112 := u112.size
    have E114 := E107.next u112 (fun i hi (h : i = bk41) => show False by first | omega | assumption)
    have B113 : Blk w111 bk41 90 [.int .u8 n4, .int .u8 n5] := B113
    refine t_nil' ?_
    exact fun a ha => ⟨rfl, ha, ⟨(u103.next u112 (fun i hi (h : i = bk41) => show False by first | omega | assumption)), (fun h => by obtain ⟨b, e, hge, hB⟩ := F104 h; have hne := P106 _ _ h (hdD 7 rfl) e e108; exact ⟨b, e, hge, (hB.keep u112 (show ¬ (b = bk41) by first | omega | assumption))⟩), (fun _ => ⟨bk41, e108, gebk41, (by show Blk w111 bk41 90 [.int .u8 n4, .int .u8 n5]; exact B113)⟩), P106⟩⟩
  · exact fun D ρ w hcD hnD hdD hW => ⟨[(36, .int .u16 n6)], ⟨.inl ⟨5, some (.int .u16 n6), rfl, rfl, rfl⟩, trivial⟩, fun Lr => t_assign rfl rfl rfl (t_nil' fun a ha => ⟨rfl, _, (fun v' h => by cases h; rfl), ha, hW⟩)⟩
  intro ρ w115 hW
  obtain ⟨u116, F117, F118, P119⟩ := hW
  have zu116 := u116.size
  have E120 := E33.next u116 (fun _ _ h => h.elim)
  obtain ⟨bk36, e121, gebk36, B122⟩ := F117 rfl
  have B122 : Blk w115 bk36 90 [.int .u8 n2, .int .u8 n3] := B122
  have lt_bk36 := B122.lt
  obtain ⟨bk41, e123, gebk41, B124⟩ := F118 rfl
  have B124 : Blk w115 bk41 90 [.int .u8 n4, .int .u8 n5] := B124
  have lt_bk41 := B124.lt
  have nbk36_bk41 := P119 _ _ rfl rfl e121 e123
  refine QK.weak [(2, .bool false), (3, .int .i64 m), (4, .int .i64 p), (5, .pointer (some ⟨bk36, 0, none⟩)), (6, .pointer (some ⟨bk41, 0, none⟩)), (7, .int .u16 n6)] ⟨rfl, rfl, rfl, (look_nd (j := 6) rfl rfl rfl e121), (look_nd (j := 7) rfl rfl rfl e123), rfl, trivial⟩ ?_
  refine hK34 _ _ ?_
  refine c_seq fun K125 hK125 => ?_
  refine c_region ?_
  refine t_indexArr (j := 0) (0) Try.underlying90 Try.sizeOf5 rfl rfl rfl rfl rfl (by decide) rfl ?_
  refine t_load Try.isAgg5 rfl rfl rfl (B122.get rfl) ?_
  refine t_indexArr (j := 1) (1) Try.underlying90 Try.sizeOf5 rfl rfl rfl rfl rfl (by decide) rfl ?_
  refine t_load Try.isAgg5 rfl rfl rfl (B122.get rfl) ?_
  refine t_minK rfl rfl rfl rfl ?_
  refine t_conv Try.underlying5 Try.underlying3 rfl rfl rfl (IntWalk.i64_in _ (by omega)) ?_
  refine t_ari rfl rfl rfl rfl rfl (by omega) ?_
  obtain ⟨lo, hlo⟩ : ∃ y : Int, y = (1 + (min n2 n3)) := ⟨_, rfl⟩
  refine t_same 43 (v := .int .i64 lo) rfl (congrArg (Value.int .i64) hlo.symm) ?_
  refine t_indexArr (j := 0) (0) Try.underlying90 Try.sizeOf5 rfl rfl rfl rfl rfl (by decide) rfl ?_
  refine t_load Try.isAgg5 rfl rfl rfl (B122.get rfl) ?_
  refine t_indexArr (j := 1) (1) Try.underlying90 Try.sizeOf5 rfl rfl rfl rfl rfl (by decide) rfl ?_
  refine t_load Try.isAgg5 rfl rfl rfl (B122.get rfl) ?_
  refine t_maxK rfl rfl rfl rfl ?_
  refine t_conv Try.underlying5 Try.underlying3 rfl rfl rfl (IntWalk.i64_in _ (by omega)) ?_
  refine t_ari rfl rfl rfl rfl rfl (by omega) ?_
  obtain ⟨hi, hhi⟩ : ∃ y : Int, y = (1 + (max n2 n3)) := ⟨_, rfl⟩
  refine t_same 50 (v := .int .i64 hi) rfl (congrArg (Value.int .i64) hhi.symm) ?_
  refine t_build (ps := [(0, .int .i64 lo), (1, .int .i64 hi)]) (v := .agg #[.int .i64 lo, .int .i64 hi]) rfl rfl ⟨rfl, rfl⟩ (fun w => by kernel_rfl) ?_
  refine t_alloc (cs := [.int .i64 0, .int .i64 0]) Try.zeroValue45 rfl rfl rfl (fun bk126 w127 ebk126 sbk126 B128 u129 => ?_)
  have zu129 := u129.size
  have E130 := E120.next u129 (fun _ _ h => h.elim)
  refine t_store (vs := [.int .i64 lo, .int .i64 hi]) Try.sizeOf45 rfl rfl rfl B128 rfl rfl (Nat.le_of_ble_eq_true rfl) (by simp [Value.oneCell']) (fun w131 sw131 B133 u132 => ?_)
  have zu132 := u132.size
  have E134 := E130.next u132 (fun i hi (h : i = bk126) => show False by first | omega | assumption)
  have B133 : Blk w131 bk126 45 [.int .i64 lo, .int .i64 hi] := B133
  refine t_nil' ?_
  refine hK125 _ _ ?_
  refine c_seq fun K135 hK135 => ?_
  refine c_region ?_
  refine t_indexArr (j := 0) (0) Try.underlying90 Try.sizeOf5 rfl rfl rfl rfl rfl (by decide) rfl ?_
  have B136 := ((B124.keep u129 (fun h => h)).keep u132 (show ¬ (bk41 = bk126) by first | omega | assumption))
  refine t_load Try.isAgg5 rfl rfl rfl (B136.get rfl) ?_
  refine t_conv Try.underlying5 Try.underlying3 rfl rfl rfl (IntWalk.i64_in _ (by omega)) ?_
  refine t_assign rfl rfl rfl ?_
  refine t_nil' ?_
  refine hK135 _ _ ?_
  refine c_seq fun K137 hK137 => ?_
  refine c_region ?_
  refine t_move rfl rfl rfl ?_
  refine t_move rfl rfl rfl ?_
  refine t_loadN (vs := [.int .i64 lo, .int .i64 hi]) Try.isAgg45 Try.sizeOf45 rfl rfl rfl (B133.at.sub 0 2) rfl ?_
  refine t_move rfl rfl rfl ?_
  refine t_call (vs := [.int .i64 m, .int .i64 p, .agg #[.int .i64 lo, .int .i64 hi], .int .i64 n4]) own46 rfl rfl rfl rfl (StopOk_c m p lo hi n4 _ (okStop_of (by omega) (by omega) (by omega) (by omega))) (fun v138 w139 r141 => ?_)
  obtain ⟨rfl, u140⟩ := r141
  have zu140 := u140.size
  have E142 := E134.next u140 (fun _ _ h => h.elim)
  refine t_move rfl rfl rfl ?_
  refine t_extract (vs := [.agg #[.int .i64 (wayN m p hi n4 / wayD p hi), .int .i64 (mostV m p lo n4)], .int .i64 0]) rfl rfl rfl rfl ?_
  refine t_extract (vs := [.agg #[.int .i64 (wayN m p hi n4 / wayD p hi), .int .i64 (mostV m p lo n4)], .int .i64 0]) rfl rfl rfl rfl ?_
  refine t_alloc (cs := [.int .i64 0, .int .i64 0]) Try.zeroValue45 rfl rfl rfl (fun bk143 w144 ebk143 sbk143 B145 u146 => ?_)
  have zu146 := u146.size
  have E147 := E142.next u146 (fun _ _ h => h.elim)
  refine t_store (vs := [.int .i64 (wayN m p hi n4 / wayD p hi), .int .i64 (mostV m p lo n4)]) Try.sizeOf45 rfl rfl rfl B145 rfl rfl (Nat.le_of_ble_eq_true rfl) (by simp [Value.oneCell']) (fun w148 sw148 B150 u149 => ?_)
  have zu149 := u149.size
  have E151 := E147.next u149 (fun i hi (h : i = bk143) => show False by first | omega | assumption)
  have B150 : Blk w148 bk143 45 [.int .i64 (wayN m p hi n4 / wayD p hi), .int .i64 (mostV m p lo n4)] := B150
  refine t_assign rfl rfl rfl ?_
  refine t_nil' ?_
  refine hK137 _ _ ?_
  refine c_seq fun K152 hK152 => ?_
  refine c_region ?_
  refine t_move rfl rfl rfl ?_
  refine t_move rfl rfl rfl ?_
  have B153 := (((B133.keep u140 (fun h => h)).keep u146 (fun h => h)).keep u149 (show ¬ (bk126 = bk143) by first | omega | assumption))
  refine t_loadN (vs := [.int .i64 lo, .int .i64 hi]) Try.isAgg45 Try.sizeOf45 rfl rfl rfl (B153.at.sub 0 2) rfl ?_
  refine t_move rfl rfl rfl ?_
  refine t_indexArr (j := 1) (1) Try.underlying90 Try.sizeOf5 rfl rfl rfl rfl rfl (by decide) rfl ?_
  have B154 := (((B136.keep u140 (fun h => h)).keep u146 (fun h => h)).keep u149 (show ¬ (bk41 = bk143) by first | omega | assumption))
  refine t_load Try.isAgg5 rfl rfl rfl (B154.get rfl) ?_
  refine t_conv Try.underlying5 Try.underlying3 rfl rfl rfl (IntWalk.i64_in _ (by omega)) ?_
  refine t_rem rfl rfl rfl rfl (by omega) (by omega) ?_
  refine t_ari rfl rfl rfl rfl rfl (by omega) ?_
  obtain ⟨s2, hs2⟩ : ∃ y : Int, y = (n4 + (n5 % 140)) := ⟨_, rfl⟩
  refine t_same 72 (v := .int .i64 s2) rfl (congrArg (Value.int .i64) hs2.symm) ?_
  refine t_call (vs := [.int .i64 m, .int .i64 p, .agg #[.int .i64 lo, .int .i64 hi], .int .i64 s2]) own46 rfl rfl rfl rfl (StopOk_c m p lo hi s2 _ (okStop_of (by omega) (by omega) (by omega) (by omega))) (fun v155 w156 r158 => ?_)
  obtain ⟨rfl, u157⟩ := r158
  have zu157 := u157.size
  have E159 := E151.next u157 (fun _ _ h => h.elim)
  refine t_move rfl rfl rfl ?_
  refine t_extract (vs := [.agg #[.int .i64 (wayN m p hi s2 / wayD p hi), .int .i64 (mostV m p lo s2)], .int .i64 0]) rfl rfl rfl rfl ?_
  refine t_extract (vs := [.agg #[.int .i64 (wayN m p hi s2 / wayD p hi), .int .i64 (mostV m p lo s2)], .int .i64 0]) rfl rfl rfl rfl ?_
  refine t_alloc (cs := [.int .i64 0, .int .i64 0]) Try.zeroValue45 rfl rfl rfl (fun bk160 w161 ebk160 sbk160 B162 u163 => ?_)
  have zu163 := u163.size
  have E164 := E159.next u163 (fun _ _ h => h.elim)
  refine t_store (vs := [.int .i64 (wayN m p hi s2 / wayD p hi), .int .i64 (mostV m p lo s2)]) Try.sizeOf45 rfl rfl rfl B162 rfl rfl (Nat.le_of_ble_eq_true rfl) (by simp [Value.oneCell']) (fun w165 sw165 B167 u166 => ?_)
  have zu166 := u166.size
  have E168 := E164.next u166 (fun i hi (h : i = bk160) => show False by first | omega | assumption)
  have B167 : Blk w165 bk160 45 [.int .i64 (wayN m p hi s2 / wayD p hi), .int .i64 (mostV m p lo s2)] := B167
  refine t_assign rfl rfl rfl ?_
  refine t_nil' ?_
  refine hK152 _ _ ?_
  refine c_seq fun K169 hK169 => ?_
  refine c_region ?_
  refine t_move rfl rfl rfl ?_
  refine t_move rfl rfl rfl ?_
  refine t_conv Try.underlying57 Try.underlying3 rfl rfl rfl (IntWalk.i64_in _ (by omega)) ?_
  refine t_ari rfl rfl rfl rfl rfl (by omega) ?_
  obtain ⟨m2, hm2⟩ : ∃ y : Int, y = (m + n6) := ⟨_, rfl⟩
  refine t_same 80 (v := .int .i64 m2) rfl (congrArg (Value.int .i64) hm2.symm) ?_
  refine t_move rfl rfl rfl ?_
  have B170 := (((B153.keep u157 (fun h => h)).keep u163 (fun h => h)).keep u166 (show ¬ (bk126 = bk160) by first | omega | assumption))
  refine t_loadN (vs := [.int .i64 lo, .int .i64 hi]) Try.isAgg45 Try.sizeOf45 rfl rfl rfl (B170.at.sub 0 2) rfl ?_
  refine t_move rfl rfl rfl ?_
  refine t_call (vs := [.int .i64 m2, .int .i64 p, .agg #[.int .i64 lo, .int .i64 hi], .int .i64 n4]) own46 rfl rfl rfl rfl (StopOk_c m2 p lo hi n4 _ (okStop_of (by omega) (by omega) (by omega) (by omega))) (fun v171 w172 r174 => ?_)
  obtain ⟨rfl, u173⟩ := r174
  have zu173 := u173.size
  have E175 := E168.next u173 (fun _ _ h => h.elim)
  refine t_move rfl rfl rfl ?_
  refine t_extract (vs := [.agg #[.int .i64 (wayN m2 p hi n4 / wayD p hi), .int .i64 (mostV m2 p lo n4)], .int .i64 0]) rfl rfl rfl rfl ?_
  refine t_extract (vs := [.agg #[.int .i64 (wayN m2 p hi n4 / wayD p hi), .int .i64 (mostV m2 p lo n4)], .int .i64 0]) rfl rfl rfl rfl ?_
  refine t_alloc (cs := [.int .i64 0, .int .i64 0]) Try.zeroValue45 rfl rfl rfl (fun bk176 w177 ebk176 sbk176 B178 u179 => ?_)
  have zu179 := u179.size
  have E180 := E175.next u179 (fun _ _ h => h.elim)
  refine t_store (vs := [.int .i64 (wayN m2 p hi n4 / wayD p hi), .int .i64 (mostV m2 p lo n4)]) Try.sizeOf45 rfl rfl rfl B178 rfl rfl (Nat.le_of_ble_eq_true rfl) (by simp [Value.oneCell']) (fun w181 sw181 B183 u182 => ?_)
  have zu182 := u182.size
  have E184 := E180.next u182 (fun i hi (h : i = bk176) => show False by first | omega | assumption)
  have B183 : Blk w181 bk176 45 [.int .i64 (wayN m2 p hi n4 / wayD p hi), .int .i64 (mostV m2 p lo n4)] := B183
  refine t_assign rfl rfl rfl ?_
  refine t_nil' ?_
  refine hK169 _ _ ?_
  refine c_seq fun K185 hK185 => ?_
  refine c_region ?_
  refine t_move rfl rfl rfl ?_
  refine t_move rfl rfl rfl ?_
  refine t_ari rfl rfl rfl rfl rfl (by omega) ?_
  obtain ⟨p1, hp1⟩ : ∃ y : Int, y = (p + 1) := ⟨_, rfl⟩
  refine t_same 90 (v := .int .i64 p1) rfl (congrArg (Value.int .i64) hp1.symm) ?_
  refine t_field Try.underlying45 rfl Try.sizeOf3 (0) rfl rfl rfl rfl ?_
  have B186 := (((B170.keep u173 (fun h => h)).keep u179 (fun h => h)).keep u182 (show ¬ (bk126 = bk176) by first | omega | assumption))
  refine t_load Try.isAgg3 rfl rfl rfl (B186.get rfl) ?_
  refine t_field Try.underlying45 rfl Try.sizeOf3 (1) rfl rfl rfl rfl ?_
  refine t_load Try.isAgg3 rfl rfl rfl (B186.get rfl) ?_
  refine t_ari rfl rfl rfl rfl rfl (by omega) ?_
  obtain ⟨hi3, hhi3⟩ : ∃ y : Int, y = (hi + 3) := ⟨_, rfl⟩
  refine t_same 95 (v := .int .i64 hi3) rfl (congrArg (Value.int .i64) hhi3.symm) ?_
  refine t_build (ps := [(0, .int .i64 lo), (1, .int .i64 hi3)]) (v := .agg #[.int .i64 lo, .int .i64 hi3]) rfl rfl ⟨rfl, rfl⟩ (fun w => by kernel_rfl) ?_
  refine t_move rfl rfl rfl ?_
  refine t_call (vs := [.int .i64 m, .int .i64 p1, .agg #[.int .i64 lo, .int .i64 hi3], .int .i64 n4]) own46 rfl rfl rfl rfl (StopOk_c m p1 lo hi3 n4 _ (okStop_of (by omega) (by omega) (by omega) (by omega))) (fun v187 w188 r190 => ?_)
  obtain ⟨rfl, u189⟩ := r190
  have zu189 := u189.size
  have E191 := E184.next u189 (fun _ _ h => h.elim)
  refine t_move rfl rfl rfl ?_
  refine t_extract (vs := [.agg #[.int .i64 (wayN m p1 hi3 n4 / wayD p1 hi3), .int .i64 (mostV m p1 lo n4)], .int .i64 0]) rfl rfl rfl rfl ?_
  refine t_extract (vs := [.agg #[.int .i64 (wayN m p1 hi3 n4 / wayD p1 hi3), .int .i64 (mostV m p1 lo n4)], .int .i64 0]) rfl rfl rfl rfl ?_
  refine t_alloc (cs := [.int .i64 0, .int .i64 0]) Try.zeroValue45 rfl rfl rfl (fun bk192 w193 ebk192 sbk192 B194 u195 => ?_)
  have zu195 := u195.size
  have E196 := E191.next u195 (fun _ _ h => h.elim)
  refine t_store (vs := [.int .i64 (wayN m p1 hi3 n4 / wayD p1 hi3), .int .i64 (mostV m p1 lo n4)]) Try.sizeOf45 rfl rfl rfl B194 rfl rfl (Nat.le_of_ble_eq_true rfl) (by simp [Value.oneCell']) (fun w197 sw197 B199 u198 => ?_)
  have zu198 := u198.size
  have E200 := E196.next u198 (fun i hi (h : i = bk192) => show False by first | omega | assumption)
  have B199 : Blk w197 bk192 45 [.int .i64 (wayN m p1 hi3 n4 / wayD p1 hi3), .int .i64 (mostV m p1 lo n4)] := B199
  refine t_assign rfl rfl rfl ?_
  refine t_nil' ?_
  refine hK185 _ _ ?_
  refine c_seq fun K201 hK201 => ?_
  refine c_seq fun K202 hK202 => ?_
  refine c_region ?_
  have f1 := low_nonneg (m := m) (p := p) (g := hi) (s := n4) (by omega) (by omega) (by omega) (by omega)
  have f2 := Int.le_trans (low_le (m := m) (p := p) (g := hi) (s := n4) (m' := m) (p' := p) (g' := lo) (s' := n4) (by omega) (by omega) (by omega) (by omega) (by omega) (by omega) (by omega) (by omega)) (low_high (m := m) (p := p) (g := lo) (s := n4) (by omega) (by omega))
  have f3 := low_le (m := m) (p := p) (g := hi) (s := n4) (m' := m) (p' := p) (g' := hi) (s' := s2) (by omega) (by omega) (by omega) (by omega) (by omega) (by omega) (by omega) (by omega)
  have f4 := high_le (m := m) (p := p) (g := lo) (s := n4) (m' := m) (p' := p) (g' := lo) (s' := s2) (by omega) (by omega) (by omega) (by omega) (by omega) (by omega) (by omega) (by omega)
  have f5 := low_le (m := m) (p := p) (g := hi) (s := n4) (m' := m2) (p' := p) (g' := hi) (s' := n4) (by omega) (by omega) (by omega) (by omega) (by omega) (by omega) (by omega) (by omega)
  have f6 := high_le (m := m) (p := p) (g := lo) (s := n4) (m' := m2) (p' := p) (g' := lo) (s' := n4) (by omega) (by omega) (by omega) (by omega) (by omega) (by omega) (by omega) (by omega)
  have f7 := low_le (m := m) (p := p1) (g := hi3) (s := n4) (m' := m) (p' := p) (g' := hi) (s' := n4) (by omega) (by omega) (by omega) (by omega) (by omega) (by omega) (by omega) (by omega)
  have f8 := high_le (m := m) (p := p1) (g := lo) (s := n4) (m' := m) (p' := p) (g' := lo) (s' := n4) (by omega) (by omega) (by omega) (by omega) (by omega) (by omega) (by omega) (by omega)
  have f9 := high_five (m := m) (p := p) (g := lo) (s := n4) (by omega) (by omega) (by omega) (by omega)
  have f10 := most_le (m := m) (p := p) (g := lo) (s := n4) ⟨by omega, by omega, by omega, by omega⟩
  refine t_move rfl rfl rfl ?_
  refine t_cmp rfl rfl rfl rfl rfl ?_
  refine t_samehd (v := .bool false) rfl ?_
  refine t_move rfl rfl rfl ?_
  refine t_move rfl rfl rfl ?_
  refine t_cmp rfl rfl rfl rfl rfl ?_
  refine t_samehd (v := .bool false) rfl ?_
  refine t_pick_f rfl rfl rfl rfl ?_
  refine t_move rfl rfl rfl ?_
  refine t_move rfl rfl rfl ?_
  refine t_cmp rfl rfl rfl rfl rfl ?_
  refine t_samehd (v := .bool false) rfl ?_
  refine t_pick_f rfl rfl rfl rfl ?_
  refine t_move rfl rfl rfl ?_
  refine t_move rfl rfl rfl ?_
  refine t_cmp rfl rfl rfl rfl rfl ?_
  refine t_samehd (v := .bool false) rfl ?_
  refine t_pick_f rfl rfl rfl rfl ?_
  refine t_move rfl rfl rfl ?_
  refine t_field Try.underlying45 rfl Try.sizeOf3 (0) rfl rfl rfl rfl ?_
  have B203 := (((((((((B150.keep u157 (fun h => h)).keep u163 (fun h => h)).keep u166 (show ¬ (bk143 = bk160) by first | omega | assumption)).keep u173 (fun h => h)).keep u179 (fun h => h)).keep u182 (show ¬ (bk143 = bk176) by first | omega | assumption)).keep u189 (fun h => h)).keep u195 (fun h => h)).keep u198 (show ¬ (bk143 = bk192) by first | omega | assumption))
  refine t_load Try.isAgg3 rfl rfl rfl (B203.get rfl) ?_
  refine t_cmp rfl rfl rfl rfl rfl ?_
  refine t_same 118 (v := .bool false) rfl (congrArg Value.bool (decide_eq_false (by omega))) ?_
  refine t_pick_f rfl rfl rfl rfl ?_
  refine t_move rfl rfl rfl ?_
  refine t_field Try.underlying45 rfl Try.sizeOf3 (0) rfl rfl rfl rfl ?_
  refine t_load Try.isAgg3 rfl rfl rfl (B203.get rfl) ?_
  refine t_field Try.underlying45 rfl Try.sizeOf3 (1) rfl rfl rfl rfl ?_
  refine t_load Try.isAgg3 rfl rfl rfl (B203.get rfl) ?_
  refine t_cmp rfl rfl rfl rfl rfl ?_
  refine t_same 125 (v := .bool false) rfl (congrArg Value.bool (decide_eq_false (by omega))) ?_
  refine t_pick_f rfl rfl rfl rfl ?_
  refine t_move rfl rfl rfl ?_
  refine t_field Try.underlying45 rfl Try.sizeOf3 (0) rfl rfl rfl rfl ?_
  have B204 := ((((((B167.keep u173 (fun h => h)).keep u179 (fun h => h)).keep u182 (show ¬ (bk160 = bk176) by first | omega | assumption)).keep u189 (fun h => h)).keep u195 (fun h => h)).keep u198 (show ¬ (bk160 = bk192) by first | omega | assumption))
  refine t_load Try.isAgg3 rfl rfl rfl (B204.get rfl) ?_
  refine t_field Try.underlying45 rfl Try.sizeOf3 (0) rfl rfl rfl rfl ?_
  refine t_load Try.isAgg3 rfl rfl rfl (B203.get rfl) ?_
  refine t_cmp rfl rfl rfl rfl rfl ?_
  refine t_same 132 (v := .bool false) rfl (congrArg Value.bool (decide_eq_false (by omega))) ?_
  refine t_pick_f rfl rfl rfl rfl ?_
  refine t_move rfl rfl rfl ?_
  refine t_field Try.underlying45 rfl Try.sizeOf3 (1) rfl rfl rfl rfl ?_
  refine t_load Try.isAgg3 rfl rfl rfl (B204.get rfl) ?_
  refine t_field Try.underlying45 rfl Try.sizeOf3 (1) rfl rfl rfl rfl ?_
  refine t_load Try.isAgg3 rfl rfl rfl (B203.get rfl) ?_
  refine t_cmp rfl rfl rfl rfl rfl ?_
  refine t_same 139 (v := .bool false) rfl (congrArg Value.bool (decide_eq_false (by omega))) ?_
  refine t_pick_f rfl rfl rfl rfl ?_
  refine t_move rfl rfl rfl ?_
  refine t_field Try.underlying45 rfl Try.sizeOf3 (0) rfl rfl rfl rfl ?_
  have B205 := (((B183.keep u189 (fun h => h)).keep u195 (fun h => h)).keep u198 (show ¬ (bk176 = bk192) by first | omega | assumption))
  refine t_load Try.isAgg3 rfl rfl rfl (B205.get rfl) ?_
  refine t_field Try.underlying45 rfl Try.sizeOf3 (0) rfl rfl rfl rfl ?_
  refine t_load Try.isAgg3 rfl rfl rfl (B203.get rfl) ?_
  refine t_cmp rfl rfl rfl rfl rfl ?_
  refine t_same 146 (v := .bool false) rfl (congrArg Value.bool (decide_eq_false (by omega))) ?_
  refine t_pick_f rfl rfl rfl rfl ?_
  refine t_move rfl rfl rfl ?_
  refine t_field Try.underlying45 rfl Try.sizeOf3 (1) rfl rfl rfl rfl ?_
  refine t_load Try.isAgg3 rfl rfl rfl (B205.get rfl) ?_
  refine t_field Try.underlying45 rfl Try.sizeOf3 (1) rfl rfl rfl rfl ?_
  refine t_load Try.isAgg3 rfl rfl rfl (B203.get rfl) ?_
  refine t_cmp rfl rfl rfl rfl rfl ?_
  refine t_same 153 (v := .bool false) rfl (congrArg Value.bool (decide_eq_false (by omega))) ?_
  refine t_pick_f rfl rfl rfl rfl ?_
  refine t_move rfl rfl rfl ?_
  refine t_field Try.underlying45 rfl Try.sizeOf3 (0) rfl rfl rfl rfl ?_
  refine t_load Try.isAgg3 rfl rfl rfl (B199.get rfl) ?_
  refine t_field Try.underlying45 rfl Try.sizeOf3 (0) rfl rfl rfl rfl ?_
  refine t_load Try.isAgg3 rfl rfl rfl (B203.get rfl) ?_
  refine t_cmp rfl rfl rfl rfl rfl ?_
  refine t_same 160 (v := .bool false) rfl (congrArg Value.bool (decide_eq_false (by omega))) ?_
  refine t_pick_f rfl rfl rfl rfl ?_
  refine t_move rfl rfl rfl ?_
  refine t_field Try.underlying45 rfl Try.sizeOf3 (1) rfl rfl rfl rfl ?_
  refine t_load Try.isAgg3 rfl rfl rfl (B199.get rfl) ?_
  refine t_field Try.underlying45 rfl Try.sizeOf3 (1) rfl rfl rfl rfl ?_
  refine t_load Try.isAgg3 rfl rfl rfl (B203.get rfl) ?_
  refine t_cmp rfl rfl rfl rfl rfl ?_
  refine t_same 167 (v := .bool false) rfl (congrArg Value.bool (decide_eq_false (by omega))) ?_
  refine t_pick_f rfl rfl rfl rfl ?_
  refine t_move rfl rfl rfl ?_
  refine t_field Try.underlying45 rfl Try.sizeOf3 (1) rfl rfl rfl rfl ?_
  refine t_load Try.isAgg3 rfl rfl rfl (B203.get rfl) ?_
  refine t_ari rfl rfl rfl rfl rfl (by omega) ?_
  refine t_move rfl rfl rfl ?_
  refine t_ari rfl rfl rfl rfl rfl (by omega) ?_
  refine t_cmp rfl rfl rfl rfl rfl ?_
  refine t_same 175 (v := .bool false) rfl (congrArg Value.bool (decide_eq_false (by omega))) ?_
  refine t_pick_f rfl rfl rfl rfl ?_
  refine t_nil' ?_
  refine hK202 _ _ ?_
  refine c_cond_f rfl ?_
  refine c_skip ?_
  refine hK201 _ _ ?_
  refine c_seq fun K206 hK206 => ?_
  refine c_region ?_
  refine t_move rfl rfl rfl ?_
  refine t_move rfl rfl rfl ?_
  have B207 := (((B186.keep u189 (fun h => h)).keep u195 (fun h => h)).keep u198 (show ¬ (bk126 = bk192) by first | omega | assumption))
  refine t_loadN (vs := [.int .i64 lo, .int .i64 hi]) Try.isAgg45 Try.sizeOf45 rfl rfl rfl (B207.at.sub 0 2) rfl ?_
  refine t_move rfl rfl rfl ?_
  refine t_conv Try.underlying57 Try.underlying3 rfl rfl rfl (IntWalk.i64_in _ (by omega)) ?_
  refine t_call (vs := [.int .i64 m, .int .i64 p, .agg #[.int .i64 lo, .int .i64 hi], .int .i64 n6]) own47 rfl rfl rfl rfl (SafeOk_c m p lo hi n6 _ (by simp only [okSafe, okBrake, Bool.and_eq_true, decide_eq_true_eq]; omega)) (fun v208 w209 r211 => ?_)
  obtain ⟨⟨n, rfl, hsafe⟩, u210⟩ := r211
  have zu210 := u210.size
  have E212 := E200.next u210 (fun _ _ h => h.elim)
  obtain ⟨⟨hr1, hr2⟩, hr3, hr4⟩ := hsafe
  have hr5 : mostV m p lo n ≤ n6 := by
    rcases Int.lt_or_eq_of_le hr1 with h | h
    · exact hr3 h
    · rw [← h, most_zero (by omega) (by omega)]; omega
  refine t_move rfl rfl rfl ?_
  refine t_extract (vs := [.int .i64 n, .int .i64 0]) rfl rfl rfl rfl ?_
  refine t_extract (vs := [.int .i64 n, .int .i64 0]) rfl rfl rfl rfl ?_
  refine t_assign rfl rfl rfl ?_
  refine t_assign rfl rfl rfl ?_
  refine t_nil' ?_
  refine hK206 _ _ ?_
  refine c_seq fun K213 hK213 => ?_
  refine c_seq fun K214 hK214 => ?_
  refine c_region ?_
  refine t_move rfl rfl rfl ?_
  refine t_cmp rfl rfl rfl rfl rfl ?_
  refine t_samehd (v := .bool false) rfl ?_
  refine t_move rfl rfl rfl ?_
  refine t_move rfl rfl rfl ?_
  refine t_cmp rfl rfl rfl rfl rfl ?_
  refine t_same 190 (v := .bool false) rfl (congrArg Value.bool (decide_eq_false (by omega))) ?_
  refine t_pick_f rfl rfl rfl rfl ?_
  refine t_move rfl rfl rfl ?_
  refine t_move rfl rfl rfl ?_
  refine t_cmp rfl rfl rfl rfl rfl ?_
  refine t_same 194 (v := .bool false) rfl (congrArg Value.bool (decide_eq_false (by omega))) ?_
  refine t_pick_f rfl rfl rfl rfl ?_
  refine t_nil' ?_
  refine hK214 _ _ ?_
  refine c_cond_f rfl ?_
  refine c_skip ?_
  refine hK213 _ _ ?_
  refine c_seq fun K215 hK215 => ?_
  refine c_region ?_
  refine t_move rfl rfl rfl ?_
  refine t_move rfl rfl rfl ?_
  have B216 := (B207.keep u210 (fun h => h))
  refine t_loadN (vs := [.int .i64 lo, .int .i64 hi]) Try.isAgg45 Try.sizeOf45 rfl rfl rfl (B216.at.sub 0 2) rfl ?_
  refine t_move rfl rfl rfl ?_
  refine t_call (vs := [.int .i64 m, .int .i64 p, .agg #[.int .i64 lo, .int .i64 hi], .int .i64 n]) own46 rfl rfl rfl rfl (StopOk_c m p lo hi n _ (okStop_of (by omega) (by omega) (by omega) (by omega))) (fun v217 w218 r220 => ?_)
  obtain ⟨rfl, u219⟩ := r220
  have zu219 := u219.size
  have E221 := E212.next u219 (fun _ _ h => h.elim)
  refine t_move rfl rfl rfl ?_
  refine t_extract (vs := [.agg #[.int .i64 (wayN m p hi n / wayD p hi), .int .i64 (mostV m p lo n)], .int .i64 0]) rfl rfl rfl rfl ?_
  refine t_extract (vs := [.agg #[.int .i64 (wayN m p hi n / wayD p hi), .int .i64 (mostV m p lo n)], .int .i64 0]) rfl rfl rfl rfl ?_
  refine t_alloc (cs := [.int .i64 0, .int .i64 0]) Try.zeroValue45 rfl rfl rfl (fun bk222 w223 ebk222 sbk222 B224 u225 => ?_)
  have zu225 := u225.size
  have E226 := E221.next u225 (fun _ _ h => h.elim)
  refine t_store (vs := [.int .i64 (wayN m p hi n / wayD p hi), .int .i64 (mostV m p lo n)]) Try.sizeOf45 rfl rfl rfl B224 rfl rfl (Nat.le_of_ble_eq_true rfl) (by simp [Value.oneCell']) (fun w227 sw227 B229 u228 => ?_)
  have zu228 := u228.size
  have E230 := E226.next u228 (fun i hi (h : i = bk222) => show False by first | omega | assumption)
  have B229 : Blk w227 bk222 45 [.int .i64 (wayN m p hi n / wayD p hi), .int .i64 (mostV m p lo n)] := B229
  refine t_assign rfl rfl rfl ?_
  refine t_nil' ?_
  refine hK215 _ _ ?_
  refine c_seq fun K231 hK231 => ?_
  refine c_seq fun K232 hK232 => ?_
  refine c_region ?_
  refine t_move rfl rfl rfl ?_
  refine t_cmp rfl rfl rfl rfl rfl ?_
  refine t_samehd (v := .bool false) rfl ?_
  refine t_move rfl rfl rfl ?_
  refine t_field Try.underlying45 rfl Try.sizeOf3 (1) rfl rfl rfl rfl ?_
  refine t_load Try.isAgg3 rfl rfl rfl (B229.get rfl) ?_
  refine t_move rfl rfl rfl ?_
  refine t_conv Try.underlying57 Try.underlying3 rfl rfl rfl (IntWalk.i64_in _ (by omega)) ?_
  refine t_cmp rfl rfl rfl rfl rfl ?_
  refine t_same 211 (v := .bool false) rfl (congrArg Value.bool (decide_eq_false (by omega))) ?_
  refine t_pick_f rfl rfl rfl rfl ?_
  refine t_nil' ?_
  refine hK232 _ _ ?_
  refine c_cond_f rfl ?_
  refine c_skip ?_
  refine hK231 _ _ ?_
  refine c_seq fun K233 hK233 => ?_
  refine c_seq fun K234 hK234 => ?_
  refine c_region ?_
  refine t_move rfl rfl rfl ?_
  refine t_cmp rfl rfl rfl rfl rfl ?_
  refine t_nil' ?_
  refine hK234 _ _ ?_
  refine c_condp rfl (fun g214 => ?_) (fun g214 => ?_)
  · -- .bool (decide (n < 400))
    refine c_seq fun K235 hK235 => ?_
    refine c_region ?_
    refine t_move rfl rfl rfl ?_
    refine t_move rfl rfl rfl ?_
    have B236 := (((B216.keep u219 (fun h => h)).keep u225 (fun h => h)).keep u228 (show ¬ (bk126 = bk222) by first | omega | assumption))
    refine t_loadN (vs := [.int .i64 lo, .int .i64 hi]) Try.isAgg45 Try.sizeOf45 rfl rfl rfl (B236.at.sub 0 2) rfl ?_
    refine t_move rfl rfl rfl ?_
    refine t_ari rfl rfl rfl rfl rfl (by omega) ?_
    refine t_call (vs := [.int .i64 m, .int .i64 p, .agg #[.int .i64 lo, .int .i64 hi], .int .i64 (n + 1)]) own46 rfl rfl rfl rfl (StopOk_c m p lo hi (n + 1) _ (okStop_of (by omega) (by omega) (by omega) (by omega))) (fun v237 w238 r240 => ?_)
    obtain ⟨rfl, u239⟩ := r240
    have zu239 := u239.size
    have E241 := E230.next u239 (fun _ _ h => h.elim)
    refine t_move rfl rfl rfl ?_
    refine t_extract (vs := [.agg #[.int .i64 (wayN m p hi (n + 1) / wayD p hi), .int .i64 (mostV m p lo (n + 1))], .int .i64 0]) rfl rfl rfl rfl ?_
    refine t_extract (vs := [.agg #[.int .i64 (wayN m p hi (n + 1) / wayD p hi), .int .i64 (mostV m p lo (n + 1))], .int .i64 0]) rfl rfl rfl rfl ?_
    refine t_alloc (cs := [.int .i64 0, .int .i64 0]) Try.zeroValue45 rfl rfl rfl (fun bk242 w243 ebk242 sbk242 B244 u245 => ?_)
    have zu245 := u245.size
    have E246 := E241.next u245 (fun _ _ h => h.elim)
    refine t_store (vs := [.int .i64 (wayN m p hi (n + 1) / wayD p hi), .int .i64 (mostV m p lo (n + 1))]) Try.sizeOf45 rfl rfl rfl B244 rfl rfl (Nat.le_of_ble_eq_true rfl) (by simp [Value.oneCell']) (fun w247 sw247 B249 u248 => ?_)
    have zu248 := u248.size
    have E250 := E246.next u248 (fun i hi (h : i = bk242) => show False by first | omega | assumption)
    have B249 : Blk w247 bk242 45 [.int .i64 (wayN m p hi (n + 1) / wayD p hi), .int .i64 (mostV m p lo (n + 1))] := B249
    refine t_assign rfl rfl rfl ?_
    refine t_nil' ?_
    refine hK235 _ _ ?_
    refine c_seq fun K251 hK251 => ?_
    refine c_region ?_
    refine t_move rfl rfl rfl ?_
    refine t_cmp rfl rfl rfl rfl rfl ?_
    refine t_samehd (v := .bool false) rfl ?_
    refine t_move rfl rfl rfl ?_
    refine t_field Try.underlying45 rfl Try.sizeOf3 (1) rfl rfl rfl rfl ?_
    refine t_load Try.isAgg3 rfl rfl rfl (B249.get rfl) ?_
    refine t_move rfl rfl rfl ?_
    refine t_conv Try.underlying57 Try.underlying3 rfl rfl rfl (IntWalk.i64_in _ (by omega)) ?_
    refine t_cmp rfl rfl rfl rfl rfl ?_
    refine t_same 231 (v := .bool false) rfl (congrArg Value.bool (decide_eq_false (by omega))) ?_
    refine t_pick_f rfl rfl rfl rfl ?_
    refine t_nil' ?_
    refine hK251 _ _ ?_
    refine c_cond_f rfl ?_
    refine c_skip ?_
    refine hK233 _ _ ?_
    refine c_seq fun K252 hK252 => ?_
    refine c_region ?_
    refine t_call (vs := []) own16 rfl rfl rfl rfl (known_c _) (fun v253 w254 r256 => ?_)
    obtain ⟨rfl, u255⟩ := r256
    have zu255 := u255.size
    have E257 := E250.next u255 (fun _ _ h => h.elim)
    refine t_assign rfl rfl rfl ?_
    refine t_nil' ?_
    refine hK252 _ _ ?_
    refine c_ret ?_
    refine f_ret1 (v := .bool true) Try.results11 rfl ?_
    exact ⟨rfl, E257⟩
  · -- not .bool (decide (n < 400))
    refine c_skip ?_
    refine hK233 _ _ ?_
    refine c_seq fun K258 hK258 => ?_
    refine c_region ?_
    refine t_call (vs := []) own16 rfl rfl rfl rfl (known_c _) (fun v259 w260 r262 => ?_)
    obtain ⟨rfl, u261⟩ := r262
    have zu261 := u261.size
    have E263 := E230.next u261 (fun _ _ h => h.elim)
    refine t_assign rfl rfl rfl ?_
    refine t_nil' ?_
    refine hK258 _ _ ?_
    refine c_ret ?_
    refine f_ret1 (v := .bool true) Try.results11 rfl ?_
    exact ⟨rfl, E263⟩

end Go.Proofs.Ytmicjleiheoieaa
