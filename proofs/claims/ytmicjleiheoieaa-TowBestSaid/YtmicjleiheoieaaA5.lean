/-
  Contracts of Stop, Safe and sort.Search. Conditions: none.
-/
import Derived.Test.YtmicjleiheoieaaA1
import Derived.Test.YtmicjleiheoieaaDraw
namespace Go.Proofs.Ytmicjleiheoieaa
open Go Go.RowKit
theorem followsS : Try.prog.follows .mixedOrders = true := by kernel_rfl
theorem mulr {a b A B : Int} (ha : 0 ≤ a ∧ a ≤ A) (hb : 0 ≤ b ∧ b ≤ B) : 0 ≤ a * b ∧ a * b ≤ A * B :=
  ⟨Int.mul_nonneg ha.1 hb.1, Int.mul_le_mul ha.2 hb.2 hb.1 (Int.le_trans ha.1 ha.2)⟩
theorem mull {a b A B : Int} (ha : A ≤ a) (hb : B ≤ b) (hA : 0 ≤ A) (hB : 0 ≤ B) : A * B ≤ a * b := Int.mul_le_mul ha hb hB (Int.le_trans hA ha)
def wayN (m p g s : Int) : Int := s * 4320 * p * g + m * 1000 * s * s
def wayD (p g : Int) : Int := 2592 * p * g
def mostV (m p g s : Int) : Int := (wayN m p g s + wayD p g - 1) / wayD p g
def okBrake (m p lo hi : Int) : Bool := decide ((0 ≤ m ∧ m ≤ 400000) ∧ (1 ≤ p ∧ p ≤ 20000) ∧ lo ≤ hi ∧ (1 ≤ lo ∧ lo ≤ 1000) ∧ (1 ≤ hi ∧ hi ≤ 1000))
structure RB (m p g s : Int) : Prop where
  m : 0 ≤ m ∧ m ≤ 400000
  p : 1 ≤ p ∧ p ≤ 20000
  g : 1 ≤ g ∧ g ≤ 1000
  s : 0 ≤ s ∧ s ≤ 500
theorem RB.wayD {m p g s : Int} (h : RB m p g s) : 2592 ≤ wayD p g ∧ wayD p g ≤ 51840000000 := by
  have h1 := mulr (a := 2592 * p) (A := 51840000) (b := g) (B := 1000) (by have := h.p; omega) (by have := h.g; omega)
  have h2 := mull (a := 2592 * p) (A := 2592) (b := g) (B := 1) (by have := h.p; omega) (by have := h.g; omega) (by decide) (by decide)
  unfold Proofs.Ytmicjleiheoieaa.wayD; omega
theorem RB.wayN {m p g s : Int} (h : RB m p g s) : 0 ≤ wayN m p g s ∧ wayN m p g s ≤ 1000000000000000 := by
  have h1 := mulr (a := s * 4320) (A := 2160000) (b := p) (B := 20000) (by have := h.s; omega) (by have := h.p; omega)
  have h2 := mulr (a := s * 4320 * p) (A := 43200000000) (b := g) (B := 1000) (by omega) (by have := h.g; omega)
  have h3 := mulr (a := m * 1000) (A := 400000000) (b := s) (B := 500) (by have := h.m; omega) (by have := h.s; omega)
  have h4 := mulr (a := m * 1000 * s) (A := 200000000000) (b := s) (B := 500) (by omega) (by have := h.s; omega)
  unfold Proofs.Ytmicjleiheoieaa.wayN; omega

theorem own37 : Own Try.prog 37 := ⟨Try.f37, Try.func37, by kernel_rfl, by kernel_rfl⟩
theorem own46 : Own Try.prog 46 := ⟨Try.f46, Try.func46, by kernel_rfl, by kernel_rfl⟩
theorem own47 : Own Try.prog 47 := ⟨Try.f47, Try.func47, by kernel_rfl, by kernel_rfl⟩
theorem own80 : Own Try.prog 80 := ⟨Try.f80, Try.func80, by kernel_rfl, by kernel_rfl⟩
theorem own81 : Own Try.prog 81 := ⟨Try.f81, Try.func81, by kernel_rfl, by kernel_rfl⟩
theorem own82 : Own Try.prog 82 := ⟨Try.f82, Try.func82, by kernel_rfl, by kernel_rfl⟩
theorem own83 : Own Try.prog 83 := ⟨Try.f83, Try.func83, by kernel_rfl, by kernel_rfl⟩
theorem own84 : Own Try.prog 84 := ⟨Try.f84, Try.func84, by kernel_rfl, by kernel_rfl⟩

theorem brakeOk_c (m p lo hi : Int) (w0 : World) :
    CallsV Try.prog 80 [.agg #[.int .i64 m, .int .i64 p, .int .i64 lo, .int .i64 hi]] w0 (fun v w' => v = .bool (okBrake m p lo hi) ∧ Ext w0 w') := by
 have E0 := Upd.refl (fun _ => False) w0
 refine f_enter (N := 18) Try.func80 rfl rfl rfl ?_
 change WC _ _ _ _ _ _ [(0, .agg #[.int .i64 m, .int .i64 p, .int .i64 lo, .int .i64 hi])] _
 refine c_seq fun K1 hK1 => (c_region (t_box (cs := [.int .i64 m, .int .i64 p, .int .i64 lo, .int .i64 hi]) rfl rfl rfl rfl (fun bk2 w3 ebk2 sbk2 B4 u5 => ?_)))
 have zu5 := u5.size
 have E6 := E0.next u5 (fun _ _ h => h.elim)
 refine t_assign rfl rfl rfl (t_nil' (hK1 _ _ (c_seq fun K7 hK7 => (c_region (t_field Try.underlying146 rfl Try.sizeOf3 (0) rfl rfl rfl rfl (t_load Try.isAgg3 rfl rfl rfl (B4.get rfl) (t_bslice (ps := [(0, .int .i64 m)]) (cs := [.int .i64 m]) (e := 3) rfl rfl ⟨rfl, rfl⟩ (fun w => by kernel_rfl) (fun bk8 w9 ebk8 sbk8 B10 u11 => ?_))))))))
 have zu11 := u11.size
 have E12 := E6.next u11 (fun _ _ h => h.elim)
 refine t_call (vs := [.int .i64 0, .int .i64 400000, .slice (some ⟨bk8, 0, none⟩) 1 1]) own58 rfl rfl rfl rfl (within1_v 0 400000 m _ _ _ B10) (fun v13 w14 r16 => ?_)
 obtain ⟨rfl, u15⟩ := r16
 have zu15 := u15.size
 have E17 := E12.next u15 (fun _ _ h => h.elim)
 refine t_move rfl rfl rfl (t_splitp 7 rfl (fun g7 => ?_) (fun g7 => ?_))
 ·
  refine t_field Try.underlying146 rfl Try.sizeOf3 (1) rfl rfl rfl rfl ?_
  have B18 := ((B4.keep u11 (fun h => h)).keep u15 (fun h => h))
  refine t_load Try.isAgg3 rfl rfl rfl (B18.get rfl) (t_bslice (ps := [(0, .int .i64 p)]) (cs := [.int .i64 p]) (e := 3) rfl rfl ⟨rfl, rfl⟩ (fun w => by kernel_rfl) (fun bk19 w20 ebk19 sbk19 B21 u22 => ?_))
  have zu22 := u22.size
  have E23 := E17.next u22 (fun _ _ h => h.elim)
  refine t_call (vs := [.int .i64 1, .int .i64 20000, .slice (some ⟨bk19, 0, none⟩) 1 1]) own58 rfl rfl rfl rfl (within1_v 1 20000 p _ _ _ B21) (fun v24 w25 r27 => ?_)
  obtain ⟨rfl, u26⟩ := r27
  have zu26 := u26.size
  have E28 := E23.next u26 (fun _ _ h => h.elim)
  refine t_pick_t rfl rfl rfl rfl (t_move rfl rfl rfl (t_splitp 13 rfl (fun g13 => ?_) (fun g13 => ?_)))
  ·
   refine t_field Try.underlying146 rfl Try.sizeOf45 (2) rfl rfl rfl rfl ?_
   have B29 := ((B18.keep u22 (fun h => h)).keep u26 (fun h => h))
   refine t_loadN (vs := [.int .i64 lo, .int .i64 hi]) Try.isAgg45 Try.sizeOf45 rfl rfl rfl (B29.at.sub 2 2) rfl (t_call (vs := [.int .i64 1, .int .i64 1000, .agg #[.int .i64 lo, .int .i64 hi]]) own66 rfl rfl rfl rfl (isValid_c 1 1000 lo hi _) (fun v30 w31 r33 => ?_))
   obtain ⟨rfl, u32⟩ := r33
   have zu32 := u32.size
   have E34 := E28.next u32 (fun _ _ h => h.elim)
   refine t_pick_t rfl rfl rfl rfl (t_assign rfl rfl rfl (t_nil' (hK7 _ _ (c_ret (f_ret1 (v := .bool (decide (lo ≤ hi ∧ (1 ≤ lo ∧ lo ≤ 1000) ∧ (1 ≤ hi ∧ hi ≤ 1000)))) Try.results80 rfl ?_)))))
   exact ⟨by simp [okBrake, *], E34⟩
  ·
   refine t_skip rfl rfl rfl (t_skip rfl rfl rfl (t_skip rfl rfl rfl (t_pick_f rfl rfl rfl rfl (t_assign rfl rfl rfl (t_nil' (hK7 _ _ (c_ret (f_ret1 (v := .bool false) Try.results80 rfl ?_))))))))
   exact ⟨by simp [okBrake, *], E28⟩
 ·
  refine t_skip rfl rfl rfl (t_skip rfl rfl rfl (t_skip rfl rfl rfl (t_skip rfl rfl rfl (t_pick_f rfl rfl rfl rfl (t_move rfl rfl rfl (t_skip rfl rfl rfl (t_skip rfl rfl rfl (t_skip rfl rfl rfl (t_pick_f rfl rfl rfl rfl (t_assign rfl rfl rfl (t_nil' (hK7 _ _ (c_ret (f_ret1 (v := .bool false) Try.results80 rfl ?_))))))))))))))
  exact ⟨by simp [okBrake, *], E17⟩

theorem way_c (m p lo hi s g : Int) (w0 : World) (h : RB m p g s) :
    CallsV Try.prog 81 [.agg #[.int .i64 m, .int .i64 p, .int .i64 lo, .int .i64 hi], .int .i64 s, .int .i64 g] w0 (fun v w' => v = .tuple #[.int .i64 (wayN m p g s), .int .i64 (wayD p g)] ∧ Ext w0 w') := by
 have q1 := h.m
 have q2 := h.p
 have q3 := h.g
 have q4 := h.s
 have h0 := mulr (a := 2592 * p) (A := 51840000) (b := g) (B := 1000) (by omega) (by omega)
 have h1 := mulr (a := s * 4320) (A := 2160000) (b := p) (B := 20000) (by omega) (by omega)
 have h2 := mulr (a := s * 4320 * p) (A := 43200000000) (b := g) (B := 1000) (by omega) (by omega)
 have h3 := mulr (a := m * 1000) (A := 400000000) (b := s) (B := 500) (by omega) (by omega)
 have h4 := mulr (a := m * 1000 * s) (A := 200000000000) (b := s) (B := 500) (by omega) (by omega)
 have E0 := Upd.refl (fun _ => False) w0
 refine f_enter (N := 29) Try.func81 rfl rfl rfl ?_
 change WC _ _ _ _ _ _ [(0, .agg #[.int .i64 m, .int .i64 p, .int .i64 lo, .int .i64 hi]), (1, .int .i64 s), (2, .int .i64 g)] _
 refine c_seq fun K1 hK1 => (c_region (t_box (cs := [.int .i64 m, .int .i64 p, .int .i64 lo, .int .i64 hi]) rfl rfl rfl rfl (fun bk2 w3 ebk2 sbk2 B4 u5 => ?_)))
 have zu5 := u5.size
 have E6 := E0.next u5 (fun _ _ h => h.elim)
 refine t_assign rfl rfl rfl (t_assign rfl rfl rfl (t_nil' (hK1 _ _ (c_seq fun K7 hK7 => (c_region (t_field Try.underlying146 rfl Try.sizeOf3 (1) rfl rfl rfl rfl (t_load Try.isAgg3 rfl rfl rfl (B4.get rfl) (t_ari rfl rfl rfl rfl rfl (by omega) (t_move rfl rfl rfl (t_ari rfl rfl rfl rfl rfl (by omega) (t_assign rfl rfl rfl (t_nil' (hK7 _ _ (c_seq fun K8 hK8 => (c_region (t_move rfl rfl rfl (t_ari rfl rfl rfl rfl rfl (by omega) (t_field Try.underlying146 rfl Try.sizeOf3 (1) rfl rfl rfl rfl (t_load Try.isAgg3 rfl rfl rfl (B4.get rfl) (t_ari rfl rfl rfl rfl rfl (by omega) (t_move rfl rfl rfl (t_ari rfl rfl rfl rfl rfl (by omega) (t_field Try.underlying146 rfl Try.sizeOf3 (0) rfl rfl rfl rfl ?_)))))))))))))))))))))))
 refine t_load Try.isAgg3 rfl rfl rfl (B4.get rfl) (t_ari rfl rfl rfl rfl rfl (by omega) (t_move rfl rfl rfl (t_ari rfl rfl rfl rfl rfl (by omega) (t_move rfl rfl rfl (t_ari rfl rfl rfl rfl rfl (by omega) (t_ari rfl rfl rfl rfl rfl (by omega) (t_move rfl rfl rfl (t_assign rfl rfl rfl (t_assign rfl rfl rfl (t_nil' (hK8 _ _ (c_ret (f_ret2 (v1 := .int .i64 ((((s * 4320) * p) * g) + (((m * 1000) * s) * s))) (v2 := .int .i64 ((2592 * p) * g)) Try.results81 rfl rfl ?_)))))))))))))
 exact ⟨rfl, E6⟩

theorem most_c (m p lo hi s : Int) (w0 : World) (h : RB m p lo s) :
    CallsV Try.prog 82 [.agg #[.int .i64 m, .int .i64 p, .int .i64 lo, .int .i64 hi], .int .i64 s] w0 (fun v w' => v = .int .i64 (mostV m p lo s) ∧ Ext w0 w') := by
 have h1 := h.wayN
 have h2 := h.wayD
 have E0 := Upd.refl (fun _ => False) w0
 refine f_enter (N := 22) Try.func82 rfl rfl rfl ?_
 change WC _ _ _ _ _ _ [(0, .agg #[.int .i64 m, .int .i64 p, .int .i64 lo, .int .i64 hi]), (1, .int .i64 s)] _
 refine c_seq fun K1 hK1 => (c_region (t_box (cs := [.int .i64 m, .int .i64 p, .int .i64 lo, .int .i64 hi]) rfl rfl rfl rfl (fun bk2 w3 ebk2 sbk2 B4 u5 => ?_)))
 have zu5 := u5.size
 have E6 := E0.next u5 (fun _ _ h => h.elim)
 refine t_assign rfl rfl rfl (t_nil' (hK1 _ _ (c_seq fun K7 hK7 => (c_region (t_loadN (vs := [.int .i64 m, .int .i64 p, .int .i64 lo, .int .i64 hi]) Try.isAgg146 Try.sizeOf146 rfl rfl rfl (B4.at.sub 0 4) rfl (t_move rfl rfl rfl (t_field Try.underlying146 rfl Try.sizeOf45 (2) rfl rfl rfl rfl (t_field Try.underlying45 rfl Try.sizeOf3 (2) rfl rfl rfl rfl (t_load Try.isAgg3 rfl rfl rfl (B4.get rfl) (t_call (vs := [.agg #[.int .i64 m, .int .i64 p, .int .i64 lo, .int .i64 hi], .int .i64 s, .int .i64 lo]) own81 rfl rfl rfl rfl (way_c m p lo hi s lo _ h) (fun v8 w9 r11 => ?_)))))))))))
 obtain ⟨rfl, u10⟩ := r11
 have zu10 := u10.size
 have E12 := E6.next u10 (fun _ _ h => h.elim)
 refine t_move rfl rfl rfl (t_extract (vs := [.int .i64 (wayN m p lo s), .int .i64 (wayD p lo)]) rfl rfl rfl rfl (t_extract (vs := [.int .i64 (wayN m p lo s), .int .i64 (wayD p lo)]) rfl rfl rfl rfl (t_assign rfl rfl rfl (t_assign rfl rfl rfl (t_nil' (hK7 _ _ (c_seq fun K13 hK13 => (c_region (t_move rfl rfl rfl (t_move rfl rfl rfl (t_ari rfl rfl rfl rfl rfl (by omega) (t_ari rfl rfl rfl rfl rfl (by omega) (t_move rfl rfl rfl (t_quo rfl rfl rfl rfl (by omega) (by omega) (t_assign rfl rfl rfl (t_nil' (hK13 _ _ (c_ret (f_ret1 (v := .int .i64 ((((wayN m p lo s) + (wayD p lo)) - 1) / (wayD p lo))) Try.results82 rfl ?_)))))))))))))))))))
 exact ⟨rfl, E12⟩

def okStop (m p lo hi s : Int) : Bool := okBrake m p lo hi && decide (0 ≤ s ∧ s ≤ 400)
theorem okBrake_rb {m p lo hi s : Int} (h : okBrake m p lo hi = true) (hs : 0 ≤ s ∧ s ≤ 500) : RB m p lo s ∧ RB m p hi s := by
  unfold okBrake at h; rw [decide_eq_true_eq] at h; exact ⟨⟨h.1, h.2.1, by omega, hs⟩, ⟨h.1, h.2.1, by omega, hs⟩⟩
def StopE (m p lo hi s : Int) : Int := if okStop m p lo hi s then 0 else 3
def StopB (m p lo hi s : Int) : Bnd := if okStop m p lo hi s then ⟨wayN m p hi s / wayD p hi, mostV m p lo s⟩ else ⟨0, 0⟩

theorem Stop_c (m p lo hi s : Int) (w0 : World) :
    CallsV Try.prog 46 [.int .i64 m, .int .i64 p, .agg #[.int .i64 lo, .int .i64 hi], .int .i64 s] w0 (fun v w' => v = .tuple #[.agg #[.int .i64 (StopB m p lo hi s).lo, .int .i64 (StopB m p lo hi s).hi], .int .i64 (StopE m p lo hi s)] ∧ Ext w0 w') := by
 have E0 := Upd.refl (fun _ => False) w0
 refine f_enter (N := 42) Try.func46 rfl rfl rfl ?_
 change WC _ _ _ _ _ _ [(0, .int .i64 m), (1, .int .i64 p), (2, .agg #[.int .i64 lo, .int .i64 hi]), (3, .int .i64 s)] _
 refine c_seq fun K1 hK1 => (c_region (t_box (cs := [.int .i64 lo, .int .i64 hi]) rfl rfl rfl rfl (fun bk2 w3 ebk2 sbk2 B4 u5 => ?_)))
 have zu5 := u5.size
 have E6 := E0.next u5 (fun _ _ h => h.elim)
 refine t_alloc (cs := [.int .i64 0, .int .i64 0]) Try.zeroValue45 rfl rfl rfl (fun bk7 w8 ebk7 sbk7 B9 u10 => ?_)
 have zu10 := u10.size
 have E11 := E6.next u10 (fun _ _ h => h.elim)
 refine t_assign rfl rfl rfl (t_nil' (hK1 _ _ (c_seq fun K12 hK12 => (c_region (t_move rfl rfl rfl (t_move rfl rfl rfl ?_))))))
 have B13 := (B4.keep u10 (fun h => h))
 refine t_loadN (vs := [.int .i64 lo, .int .i64 hi]) Try.isAgg45 Try.sizeOf45 rfl rfl rfl (B13.at.sub 0 2) rfl (t_build (ps := [(0, .int .i64 m), (1, .int .i64 p), (2, .agg #[.int .i64 lo, .int .i64 hi])]) (v := .agg #[.int .i64 m, .int .i64 p, .int .i64 lo, .int .i64 hi]) rfl rfl ⟨rfl, rfl⟩ (fun w => by kernel_rfl) (t_alloc (cs := [.int .i64 0, .int .i64 0, .int .i64 0, .int .i64 0]) Try.zeroValue146 rfl rfl rfl (fun bk14 w15 ebk14 sbk14 B16 u17 => ?_)))
 have zu17 := u17.size
 have E18 := E11.next u17 (fun _ _ h => h.elim)
 refine t_store (vs := [.int .i64 m, .int .i64 p, .int .i64 lo, .int .i64 hi]) Try.sizeOf146 rfl rfl rfl B16 rfl rfl (Nat.le_of_ble_eq_true rfl) (by simp [Value.oneCell']) (fun w19 sw19 B21 u20 => ?_)
 have zu20 := u20.size
 have E22 := E18.next u20 (fun i hi (h : i = bk14) => show False by first | omega | assumption)
 have B21 : Blk w19 bk14 146 [.int .i64 m, .int .i64 p, .int .i64 lo, .int .i64 hi] := B21
 refine t_nil' (hK12 _ _ (c_seq fun K23 hK23 => (c_seq fun K24 hK24 => (c_region (t_loadN (vs := [.int .i64 m, .int .i64 p, .int .i64 lo, .int .i64 hi]) Try.isAgg146 Try.sizeOf146 rfl rfl rfl (B21.at.sub 0 4) rfl (t_call (vs := [.agg #[.int .i64 m, .int .i64 p, .int .i64 lo, .int .i64 hi]]) own80 rfl rfl rfl rfl (brakeOk_c m p lo hi _) (fun v25 w26 r28 => ?_)))))))
 obtain ⟨rfl, u27⟩ := r28
 have zu27 := u27.size
 have E29 := E22.next u27 (fun _ _ h => h.elim)
 refine t_not rfl rfl rfl (t_move rfl rfl rfl (t_split 20 rfl (fun g20 => ?_) (fun g20 => ?_)))
 ·
  refine t_skip rfl rfl rfl (t_skip rfl rfl rfl (t_skip rfl rfl rfl (t_skip rfl rfl rfl (t_pick_t rfl rfl rfl rfl (t_nil' (hK24 _ _ (c_cond_t rfl (c_seq fun K30 hK30 => (c_region (t_build (ps := []) (v := .agg #[.int .i64 0, .int .i64 0]) rfl rfl ⟨rfl, rfl⟩ (fun w => by kernel_rfl) ?_))))))))))
  have B31 := (((B9.keep u17 (fun h => h)).keep u20 (show ¬ (bk7 = bk14) by first | omega | assumption)).keep u27 (fun h => h))
  refine t_store (vs := [.int .i64 0, .int .i64 0]) Try.sizeOf45 rfl rfl rfl B31 rfl rfl (Nat.le_of_ble_eq_true rfl) (by simp [Value.oneCell']) (fun w32 sw32 B34 u33 => ?_)
  have zu33 := u33.size
  have E35 := E29.next u33 (fun i hi (h : i = bk7) => show False by first | omega | assumption)
  have B34 : Blk w32 bk7 45 [.int .i64 0, .int .i64 0] := B34
  refine t_assign rfl rfl rfl (t_nil' (hK30 _ _ (c_ret (f_ret2 (v1 := .agg #[.int .i64 0, .int .i64 0]) (v2 := .int .i64 3) Try.results46 ⟨_, _, rfl, run_loadVarN (vs := [.int .i64 0, .int .i64 0]) Try.isAgg45 Try.sizeOf45 rfl (B34.at.sub 0 2)⟩ rfl ?_))))
  exact ⟨by simp_all [StopB, StopE, okStop], E35⟩
 ·
  refine t_move rfl rfl rfl (t_bslice (ps := [(0, .int .i64 s)]) (cs := [.int .i64 s]) (e := 3) rfl rfl ⟨rfl, rfl⟩ (fun w => by kernel_rfl) (fun bk36 w37 ebk36 sbk36 B38 u39 => ?_))
  have zu39 := u39.size
  have E40 := E29.next u39 (fun _ _ h => h.elim)
  refine t_call (vs := [.int .i64 0, .int .i64 400, .slice (some ⟨bk36, 0, none⟩) 1 1]) own58 rfl rfl rfl rfl (within1_v 0 400 s _ _ _ B38) (fun v41 w42 r44 => ?_)
  obtain ⟨rfl, u43⟩ := r44
  have zu43 := u43.size
  have E45 := E40.next u43 (fun _ _ h => h.elim)
  refine t_notp rfl rfl rfl (t_pick_f rfl rfl rfl rfl (t_nil' (hK24 _ _ (c_condp rfl (fun g25 => ?_) (fun g25 => ?_)))))
  ·
   refine c_seq fun K46 hK46 => (c_region (t_build (ps := []) (v := .agg #[.int .i64 0, .int .i64 0]) rfl rfl ⟨rfl, rfl⟩ (fun w => by kernel_rfl) ?_))
   have B47 := (((((B9.keep u17 (fun h => h)).keep u20 (show ¬ (bk7 = bk14) by first | omega | assumption)).keep u27 (fun h => h)).keep u39 (fun h => h)).keep u43 (fun h => h))
   refine t_store (vs := [.int .i64 0, .int .i64 0]) Try.sizeOf45 rfl rfl rfl B47 rfl rfl (Nat.le_of_ble_eq_true rfl) (by simp [Value.oneCell']) (fun w48 sw48 B50 u49 => ?_)
   have zu49 := u49.size
   have E51 := E45.next u49 (fun i hi (h : i = bk7) => show False by first | omega | assumption)
   have B50 : Blk w48 bk7 45 [.int .i64 0, .int .i64 0] := B50
   refine t_assign rfl rfl rfl (t_nil' (hK46 _ _ (c_ret (f_ret2 (v1 := .agg #[.int .i64 0, .int .i64 0]) (v2 := .int .i64 3) Try.results46 ⟨_, _, rfl, run_loadVarN (vs := [.int .i64 0, .int .i64 0]) Try.isAgg45 Try.sizeOf45 rfl (B50.at.sub 0 2)⟩ rfl ?_))))
   exact ⟨by simp only [StopB, StopE, okStop, decide_eq_false g25]; simp, E51⟩
  ·
   refine c_skip (hK23 _ _ (c_seq fun K52 hK52 => (c_region ?_)))
   have hb : okBrake m p lo hi = true := by simpa using g20
   obtain ⟨r1, r2⟩ := okBrake_rb (s := s) hb (by omega)
   have h1 := r2.wayN
   have h2 := r2.wayD
   have B53 := (((B21.keep u27 (fun h => h)).keep u39 (fun h => h)).keep u43 (fun h => h))
   refine t_loadN (vs := [.int .i64 m, .int .i64 p, .int .i64 lo, .int .i64 hi]) Try.isAgg146 Try.sizeOf146 rfl rfl rfl (B53.at.sub 0 4) rfl (t_move rfl rfl rfl (t_field Try.underlying45 rfl Try.sizeOf3 (1) rfl rfl rfl rfl ?_))
   have B54 := (((((B13.keep u17 (fun h => h)).keep u20 (show ¬ (bk2 = bk14) by first | omega | assumption)).keep u27 (fun h => h)).keep u39 (fun h => h)).keep u43 (fun h => h))
   refine t_load Try.isAgg3 rfl rfl rfl (B54.get rfl) (t_call (vs := [.agg #[.int .i64 m, .int .i64 p, .int .i64 lo, .int .i64 hi], .int .i64 s, .int .i64 hi]) own81 rfl rfl rfl rfl (way_c m p lo hi s hi _ r2) (fun v55 w56 r58 => ?_))
   obtain ⟨rfl, u57⟩ := r58
   have zu57 := u57.size
   have E59 := E45.next u57 (fun _ _ h => h.elim)
   refine t_move rfl rfl rfl (t_extract (vs := [.int .i64 (wayN m p hi s), .int .i64 (wayD p hi)]) rfl rfl rfl rfl (t_extract (vs := [.int .i64 (wayN m p hi s), .int .i64 (wayD p hi)]) rfl rfl rfl rfl (t_assign rfl rfl rfl (t_assign rfl rfl rfl (t_nil' (hK52 _ _ (c_seq fun K60 hK60 => ?_)))))))
   have B61 := ((((((B9.keep u17 (fun h => h)).keep u20 (show ¬ (bk7 = bk14) by first | omega | assumption)).keep u27 (fun h => h)).keep u39 (fun h => h)).keep u43 (fun h => h)).keep u57 (fun h => h))
   have B62 := (B53.keep u57 (fun h => h))
   refine WC.weak [(3, .int .i64 s), (8, .pointer (some ⟨bk7, 0, none⟩)), (10, .pointer (some ⟨bk14, 0, none⟩)), (11, .int .i64 (wayN m p hi s)), (12, .int .i64 (wayD p hi))] ⟨rfl, rfl, rfl, rfl, rfl, trivial⟩ (c_drawn followsS 9 [some (35, some (.int .i64 (wayN m p hi s))), some (36, some (.int .i64 (wayD p hi))), some (37, some (.int .i64 ((wayN m p hi s) / (wayD p hi)))), some (38, some (.agg #[.int .i64 m, .int .i64 p, .int .i64 lo, .int .i64 hi])), some (39, some (.int .i64 s)), some (40, some (.int .i64 (mostV m p lo s))), some (41, some (.agg #[.int .i64 ((wayN m p hi s) / (wayD p hi)), .int .i64 (mostV m p lo s)])), none, some (9, some (.int .i64 0))] [[],[],[0,1],[],[],[3,4],[2,5],[6,5,0,1,2,3,4,5,6],[7,0,1,2,3,4,5,6,7]] (fun D _ w => Upd (fun i => i = bk7) w56 w ∧ Blk w bk7 45 [(bif D 7 then .int .i64 ((wayN m p hi s) / (wayD p hi)) else .int .i64 0), (bif D 7 then .int .i64 (mostV m p lo s) else .int .i64 0)]) rfl rfl rfl (by kernel_rfl) (by kernel_rfl) ⟨(Upd.drew _).to, (B61.keep (Upd.drew _) (fun h => h))⟩ ⟨?_, ?_, ?_, ?_, ?_, ?_, ?_, ?_, ?_, trivial⟩ ?_)
   · exact pz rfl rfl rfl rfl fun _ _ _ h => h
   · exact pz rfl rfl rfl rfl fun _ _ _ h => h
   ·
    intro D ρ w68 hcD hnD hdD hW
    obtain ⟨u69, B70⟩ := hW
    have zu69 := u69.size
    have d7 := hcD.late 7 hnD rfl
    have B72 := B70
    simp only [d7, cond_false] at B72
    refine ⟨_, kf_fr [35, 36], fun Lr => ?_⟩
    refine t_quo rfl rfl rfl rfl (by omega) (by omega) ?_
    exact dz rfl ⟨u69, B70⟩
   ·
    intro D ρ w73 hcD hnD hdD hW
    obtain ⟨u74, B75⟩ := hW
    have zu74 := u74.size
    have d7 := hcD.late 7 hnD rfl
    have B77 := B75
    simp only [d7, cond_false] at B77
    refine ⟨_, kf_fr [10], fun Lr => ?_⟩
    have B78 := (B62.keep u74 (show ¬ (bk14 = bk7) by first | omega | assumption))
    refine t_loadN (vs := [.int .i64 m, .int .i64 p, .int .i64 lo, .int .i64 hi]) Try.isAgg146 Try.sizeOf146 rfl rfl rfl (B78.at.sub 0 4) rfl ?_
    exact dz rfl ⟨u74, B75⟩
   · exact pz rfl rfl rfl rfl fun _ _ _ h => h
   ·
    intro D ρ w79 hcD hnD hdD hW
    obtain ⟨u80, B81⟩ := hW
    have zu80 := u80.size
    have d7 := hcD.late 7 hnD rfl
    have B83 := B81
    simp only [d7, cond_false] at B83
    refine ⟨_, kf_fr [38, 39], fun Lr => ?_⟩
    refine t_call (vs := [.agg #[.int .i64 m, .int .i64 p, .int .i64 lo, .int .i64 hi], .int .i64 s]) own82 rfl rfl rfl rfl (most_c m p lo hi s _ r1) (fun v84 w85 r87 => ?_)
    obtain ⟨rfl, u86⟩ := r87
    have zu86 := u86.size
    exact dz rfl ⟨(u80.next u86 (fun _ _ h => h.elim)), (B81.keep u86 (fun h => h))⟩
   · exact fun D ρ w _ _ _ hW => ⟨[(37, .int .i64 ((wayN m p hi s) / (wayD p hi))), (40, .int .i64 (mostV m p lo s))], ⟨fi 2 rfl rfl rfl, fi 5 rfl rfl rfl, trivial⟩, fun Lr => t_build (ps := [(0, .int .i64 ((wayN m p hi s) / (wayD p hi))), (1, .int .i64 (mostV m p lo s))]) (v := .agg #[.int .i64 ((wayN m p hi s) / (wayD p hi)), .int .i64 (mostV m p lo s)]) rfl rfl ⟨rfl, rfl⟩ (fun w => by kernel_rfl) (dz rfl hW)⟩
   ·
    intro D ρ w89 hcD hnD hdD hW
    obtain ⟨u90, B91⟩ := hW
    have zu90 := u90.size
    have B93 := B91
    simp only [hnD, cond_false] at B93
    refine ⟨_, kf_fr [8, 41], fun Lr => ?_⟩
    refine t_store (vs := [.int .i64 ((wayN m p hi s) / (wayD p hi)), .int .i64 (mostV m p lo s)]) Try.sizeOf45 rfl rfl rfl B93 rfl rfl (Nat.le_of_ble_eq_true rfl) (by simp [Value.oneCell']) (fun w94 sw94 B96 u95 => ?_)
    have zu95 := u95.size
    have B96 : Blk w94 bk7 45 [.int .i64 ((wayN m p hi s) / (wayD p hi)), .int .i64 (mostV m p lo s)] := B96
    exact dz0 rfl ⟨(u90.next u95 (fun i hi (h : i = bk7) => show i = bk7 by first | omega | assumption)), (by show Blk w94 bk7 45 [.int .i64 ((wayN m p hi s) / (wayD p hi)), .int .i64 (mostV m p lo s)]; exact B96)⟩
   · exact pz rfl rfl rfl rfl fun _ _ _ h => h
   intro ρ w98 hW
   obtain ⟨u99, B100⟩ := hW
   have zu99 := u99.size
   have E101 := E59.next u99 (fun i hi (h : i = bk7) => show False by first | omega | assumption)
   have B100 : Blk w98 bk7 45 [.int .i64 ((wayN m p hi s) / (wayD p hi)), .int .i64 (mostV m p lo s)] := B100
   refine QK.weak [(8, .pointer (some ⟨bk7, 0, none⟩)), (9, .int .i64 0)] ⟨rfl, rfl, trivial⟩ (hK60 _ _ (c_ret (f_ret2 (v1 := .agg #[.int .i64 ((wayN m p hi s) / (wayD p hi)), .int .i64 (mostV m p lo s)]) (v2 := .int .i64 0) Try.results46 ⟨_, _, rfl, run_loadVarN (vs := [.int .i64 ((wayN m p hi s) / (wayD p hi)), .int .i64 (mostV m p lo s)]) Try.isAgg45 Try.sizeOf45 rfl (B100.at.sub 0 2)⟩ rfl ?_)))
   exact ⟨by simp only [StopB, StopE, okStop, decide_eq_true (Decidable.not_not.1 g25), hb]; simp, E101⟩

theorem Safe1_c (i m p lo hi s : Int) (b c : Nat) (t1 t2 : TypeId) (w0 : World) (hb : Blk w0 b t1 [.int .i64 m, .int .i64 p, .int .i64 lo, .int .i64 hi]) (hc : Blk w0 c t2 [.int .i64 s]) (hin : 0 ≤ i ∧ i ≤ 400) (h : RB m p lo (i + 1)) :
    CallsV Try.prog 84 [.int .i64 i, .pointer (some ⟨b, 0, none⟩), .pointer (some ⟨c, 0, none⟩)] w0 (fun v w' => v = .bool (decide (s < mostV m p lo (i + 1))) ∧ Ext w0 w') := by
 have E0 := Upd.refl (fun _ => False) w0
 refine f_enter (N := 11) Try.func84 rfl rfl rfl ?_
 change WC _ _ _ _ _ _ [(0, .int .i64 i), (1, .pointer (some ⟨b, 0, none⟩)), (2, .pointer (some ⟨c, 0, none⟩))] _
 refine c_seq fun K1 hK1 => (c_region (t_assign rfl rfl rfl (t_nil' (hK1 _ _ (c_seq fun K2 hK2 => (WC.weak [(0, .int .i64 i), (1, .pointer (some ⟨b, 0, none⟩)), (2, .pointer (some ⟨c, 0, none⟩))] ⟨rfl, rfl, rfl, trivial⟩ (c_drawn followsS 7 [some (5, some (.agg #[.int .i64 m, .int .i64 p, .int .i64 lo, .int .i64 hi])), some (6, some (.int .i64 i)), some (7, some (.int .i64 (i + 1))), some (8, some (.int .i64 (mostV m p lo (i + 1)))), some (9, some (.int .i64 s)), some (10, some (.bool (decide (s < (mostV m p lo (i + 1)))))), some (4, some (.bool (decide (s < (mostV m p lo (i + 1))))))] [[],[],[1],[0,2],[],[3,4],[5,3,0,1,2,3,4,5]] (fun _ _ w => Upd (fun _ => False) w0 w) rfl rfl rfl (by kernel_rfl) (by kernel_rfl) (Upd.drew _).to ⟨?_, ?_, ?_, ?_, ?_, ?_, ?_, trivial⟩ ?_)))))))
 ·
  intro D ρ w9 hcD hnD hdD hW
  have zhW := hW.size
  refine ⟨_, kf_fr [1], fun Lr => ?_⟩
  have B12 := (hb.keep hW (fun h => h))
  refine t_loadN (vs := [.int .i64 m, .int .i64 p, .int .i64 lo, .int .i64 hi]) Try.isAgg146 Try.sizeOf146 rfl rfl rfl (B12.at.sub 0 4) rfl ?_
  exact dz rfl hW
 · exact pz rfl rfl rfl rfl fun _ _ _ h => h
 ·
  intro D ρ w13 hcD hnD hdD hW
  have zhW := hW.size
  refine ⟨_, kf_fr [6], fun Lr => ?_⟩
  refine t_ari rfl rfl rfl rfl rfl (by omega) ?_
  exact dz rfl hW
 ·
  intro D ρ w16 hcD hnD hdD hW
  have zhW := hW.size
  refine ⟨_, kf_fr [5, 7], fun Lr => ?_⟩
  refine t_call (vs := [.agg #[.int .i64 m, .int .i64 p, .int .i64 lo, .int .i64 hi], .int .i64 (i + 1)]) own82 rfl rfl rfl rfl (most_c m p lo hi (i + 1) _ h) (fun v19 w20 r22 => ?_)
  obtain ⟨rfl, u21⟩ := r22
  have zu21 := u21.size
  exact dz rfl (hW.next u21 (fun _ _ h => h.elim))
 ·
  intro D ρ w24 hcD hnD hdD hW
  have zhW := hW.size
  refine ⟨_, kf_fr [2], fun Lr => ?_⟩
  have B27 := (hc.keep hW (fun h => h))
  refine t_load Try.isAgg3 rfl rfl rfl (B27.get rfl) ?_
  exact dz rfl hW
 · exact pz rfl rfl rfl rfl fun _ _ _ h => h
 · exact pz rfl rfl rfl rfl fun _ _ _ h => h
 intro ρ w28 hW
 have u29 : Upd (fun _ => False) w0 w28 := hW
 have zu29 := u29.size
 have E30 := E0.next u29 (fun _ _ h => h.elim)
 refine QK.weak [(4, .bool (decide (s < (mostV m p lo (i + 1)))))] ⟨rfl, trivial⟩ (hK2 _ _ (c_ret (f_ret1 (v := .bool (decide (s < (mostV m p lo (i + 1))))) Try.results84 rfl ?_)))
 exact ⟨rfl, E30⟩

theorem search_c (n : Int) (q : Int → Bool) (fv : FuncId) (caps : List Value) (w0 : World) (hn : 0 ≤ n ∧ n ≤ 1000000000) (ho : Own Try.prog fv) (hp : ∀ x, 0 ≤ x ∧ x < n → ∀ w, Ext w0 w → CallsV Try.prog fv ([.int .i64 x] ++ caps) w fun v w' => v = .bool (q x) ∧ Ext w w') :
    CallsV Try.prog 83 [.int .i64 n, .func (.func fv) #[] (caps).toArray] w0 (fun v w' => (∃ r : Int, v = .int .i64 r ∧ 0 ≤ r ∧ r ≤ n ∧ (0 < r → q (r - 1) = false) ∧ (r < n → q r = true)) ∧ Ext w0 w') := by
 have E0 := Upd.refl (fun _ => False) w0
 refine f_enter (N := 26) Try.func83 rfl rfl rfl ?_
 change WC _ _ _ _ _ _ [(0, .int .i64 n), (1, .func (.func fv) #[] (caps).toArray)] _
 refine c_seq fun K1 hK1 => (c_region (t_assign rfl rfl rfl (t_nil' (hK1 _ _ (c_seq fun K2 hK2 => (c_region (t_move rfl rfl rfl (t_assign rfl rfl rfl (t_assign rfl rfl rfl (t_nil' (hK2 _ _ (c_seq fun K3 hK3 => (c_block (c_loop (γ := Int × Int) (fun gg => [(1, .func (.func fv) #[] (caps).toArray), (5, .int .i64 gg.1), (6, .int .i64 gg.2)]) (fun gg w => Upd (fun _ => False) w0 w ∧ (0 ≤ gg.1 ∧ gg.1 ≤ gg.2 ∧ gg.2 ≤ n) ∧ (0 < gg.1 → q (gg.1 - 1) = false) ∧ (gg.2 < n → q gg.2 = true)) (fun gg => (gg.2 - gg.1).toNat) (0, n) ⟨rfl, rfl, rfl, trivial⟩ ⟨Upd.refl _ _, (by simp only []; omega), (by simp only []; omega), (by simp only []; omega)⟩ ?_))))))))))))))
 intro gg w5 hW K4 hK4
 obtain ⟨i, j⟩ := gg
 change WC _ _ _ _ _ _ [(1, .func (.func fv) #[] (caps).toArray), (5, .int .i64 i), (6, .int .i64 j)] _
 change Upd (fun _ => False) w0 w5 ∧ (0 ≤ i ∧ i ≤ j ∧ j ≤ n) ∧ (0 < i → q (i - 1) = false) ∧ (j < n → q j = true) at hW
 obtain ⟨u6, I7, I8, I9⟩ := hW
 have zu6 := u6.size
 have E10 := E0.next u6 (fun _ _ h => h.elim)
 have hij := I7; clear I7
 have hlo := I8; clear I8
 have hhi := I9; clear I9
 refine c_seq fun K11 hK11 => (c_seq fun K12 hK12 => (c_region (t_move rfl rfl rfl (t_move rfl rfl rfl (t_cmp rfl rfl rfl rfl rfl (t_nil' (hK12 _ _ (c_condp rfl (fun g11 => ?_) (fun g11 => ?_)))))))))
 ·
  refine c_skip (hK11 _ _ (c_block (c_seq fun K13 hK13 => (c_region (t_move rfl rfl rfl (t_move rfl rfl rfl (t_ari rfl rfl rfl rfl rfl (by omega) (t_conv Try.underlying3 Try.underlying173 rfl rfl rfl (IntWalk.u64_in _ (by omega)) (t_shr1 rfl rfl rfl rfl (by omega) (t_conv Try.underlying173 Try.underlying3 rfl rfl rfl (IntWalk.i64_in _ (by omega)) (t_assign rfl rfl rfl (t_nil' (hK13 _ _ (c_seq fun K14 hK14 => (c_region (t_move rfl rfl rfl (t_move rfl rfl rfl (t_call (fs := []) (cs := caps) (vs := [.int .i64 ((i + j) / 2)]) ho rfl rfl rfl rfl (hp ((i + j) / 2) (by omega) _ E10) (fun v15 w16 r18 => ?_)))))))))))))))))))
  obtain ⟨rfl, u17⟩ := r18
  have zu17 := u17.size
  refine t_not rfl rfl rfl (t_nil' (hK14 _ _ (c_cond rfl (fun g21 => ?_) (fun g21 => ?_))))
  ·
   refine c_region (t_move rfl rfl rfl (t_ari rfl rfl rfl rfl rfl (by omega) (t_assign rfl rfl rfl (t_nil' ?_))))
   exact hK4 ((((i + j) / 2) + 1), j) _ _ (by show (j - (((i + j) / 2) + 1)).toNat < (j - i).toNat; omega) ⟨rfl, rfl, rfl, trivial⟩ ⟨(u6.next u17 (fun _ _ h => h.elim)), (by show (0 : Int) ≤ (((i + j) / 2) + 1) ∧ ((((i + j) / 2) + 1) : Int) ≤ j ∧ (j : Int) ≤ n; omega), (by intro _; show q ((((i + j) / 2) + 1) - 1) = false; rw [Int.add_sub_cancel]; simpa using g21), hhi⟩
  ·
   refine c_region (t_move rfl rfl rfl (t_assign rfl rfl rfl (t_nil' ?_)))
   exact hK4 (i, ((i + j) / 2)) _ _ (by show (((i + j) / 2) - i).toNat < (j - i).toNat; omega) ⟨rfl, rfl, rfl, trivial⟩ ⟨(u6.next u17 (fun _ _ h => h.elim)), (by show (0 : Int) ≤ i ∧ (i : Int) ≤ ((i + j) / 2) ∧ (((i + j) / 2) : Int) ≤ n; omega), hlo, (by intro _; show q (((i + j) / 2)) = true; simpa using g21)⟩
 ·
  refine c_exit (hK3 _ _ (c_seq fun K20 hK20 => (c_region (t_move rfl rfl rfl (t_assign rfl rfl rfl (t_nil' (hK20 _ _ (c_ret (f_ret1 (v := .int .i64 i) Try.results83 rfl ?_)))))))))
  exact ⟨⟨_, rfl, by omega, by omega, hlo, fun h => by rw [show i = j from by omega] at h ⊢; exact hhi h⟩, E10⟩


def SafeR (m p g s r : Int) : Prop := (0 ≤ r ∧ r ≤ 400) ∧ (0 < r → mostV m p g r ≤ s) ∧ (r < 400 → s < mostV m p g (r + 1))
def okSafe (m p lo hi s : Int) : Bool := okBrake m p lo hi && decide (0 ≤ s ∧ s ≤ 100000)
def SafeQ (m p lo hi s r e : Int) : Prop := if okSafe m p lo hi s then e = 0 ∧ SafeR m p lo s r else r = 0 ∧ e = 3
theorem safeR_of {m p g s r : Int} (h0 : 0 ≤ r) (h1 : r ≤ 400) (h2 : 0 < r → decide (s < mostV m p g (r - 1 + 1)) = false) (h3 : r < 400 → decide (s < mostV m p g (r + 1)) = true) : SafeR m p g s r :=
  ⟨⟨h0, h1⟩, fun h => by have := h2 h; rw [decide_eq_false_iff_not, Int.sub_add_cancel] at this; omega, fun h => of_decide_eq_true (h3 h)⟩

theorem Safe_c (m p glo ghi s : Int) (w0 : World) :
    CallsV Try.prog 47 [.int .i64 m, .int .i64 p, .agg #[.int .i64 glo, .int .i64 ghi], .int .i64 s] w0 (fun v w' => (∃ r e : Int, v = .tuple #[.int .i64 r, .int .i64 e] ∧ SafeQ m p glo ghi s r e) ∧ Ext w0 w') := by
 have E0 := Upd.refl (fun _ => False) w0
 refine f_enter (N := 26) Try.func47 rfl rfl rfl ?_
 change WC _ _ _ _ _ _ [(0, .int .i64 m), (1, .int .i64 p), (2, .agg #[.int .i64 glo, .int .i64 ghi]), (3, .int .i64 s)] _
 refine c_seq fun K1 hK1 => (c_region (t_box (cs := [.int .i64 glo, .int .i64 ghi]) rfl rfl rfl rfl (fun bk2 w3 ebk2 sbk2 B4 u5 => ?_)))
 have zu5 := u5.size
 have E6 := E0.next u5 (fun _ _ h => h.elim)
 refine t_box (cs := [.int .i64 s]) rfl rfl rfl rfl (fun bk7 w8 ebk7 sbk7 B9 u10 => ?_)
 have zu10 := u10.size
 have E11 := E6.next u10 (fun _ _ h => h.elim)
 refine t_assign rfl rfl rfl (t_assign rfl rfl rfl (t_nil' (hK1 _ _ (c_seq fun K12 hK12 => (c_region (t_move rfl rfl rfl (t_move rfl rfl rfl ?_)))))))
 have B13 := (B4.keep u10 (fun h => h))
 refine t_loadN (vs := [.int .i64 glo, .int .i64 ghi]) Try.isAgg45 Try.sizeOf45 rfl rfl rfl (B13.at.sub 0 2) rfl (t_build (ps := [(0, .int .i64 m), (1, .int .i64 p), (2, .agg #[.int .i64 glo, .int .i64 ghi])]) (v := .agg #[.int .i64 m, .int .i64 p, .int .i64 glo, .int .i64 ghi]) rfl rfl ⟨rfl, rfl⟩ (fun w => by kernel_rfl) (t_alloc (cs := [.int .i64 0, .int .i64 0, .int .i64 0, .int .i64 0]) Try.zeroValue146 rfl rfl rfl (fun bk14 w15 ebk14 sbk14 B16 u17 => ?_)))
 have zu17 := u17.size
 have E18 := E11.next u17 (fun _ _ h => h.elim)
 refine t_store (vs := [.int .i64 m, .int .i64 p, .int .i64 glo, .int .i64 ghi]) Try.sizeOf146 rfl rfl rfl B16 rfl rfl (Nat.le_of_ble_eq_true rfl) (by simp [Value.oneCell']) (fun w19 sw19 B21 u20 => ?_)
 have zu20 := u20.size
 have E22 := E18.next u20 (fun i hi (h : i = bk14) => show False by first | omega | assumption)
 have B21 : Blk w19 bk14 146 [.int .i64 m, .int .i64 p, .int .i64 glo, .int .i64 ghi] := B21
 refine t_nil' (hK12 _ _ (c_seq fun K23 hK23 => (c_seq fun K24 hK24 => (c_region (t_loadN (vs := [.int .i64 m, .int .i64 p, .int .i64 glo, .int .i64 ghi]) Try.isAgg146 Try.sizeOf146 rfl rfl rfl (B21.at.sub 0 4) rfl (t_call (vs := [.agg #[.int .i64 m, .int .i64 p, .int .i64 glo, .int .i64 ghi]]) own80 rfl rfl rfl rfl (brakeOk_c m p glo ghi _) (fun v25 w26 r28 => ?_)))))))
 obtain ⟨rfl, u27⟩ := r28
 have zu27 := u27.size
 have E29 := E22.next u27 (fun _ _ h => h.elim)
 refine t_not rfl rfl rfl (t_move rfl rfl rfl (t_split 18 rfl (fun g18 => ?_) (fun g18 => ?_)))
 ·
  refine t_skip rfl rfl rfl (t_skip rfl rfl rfl (t_skip rfl rfl rfl (t_skip rfl rfl rfl (t_pick_t rfl rfl rfl rfl (t_nil' (hK24 _ _ (c_cond_t rfl (c_seq fun K30 hK30 => (c_region (t_assign rfl rfl rfl (t_assign rfl rfl rfl (t_nil' (hK30 _ _ (c_ret (f_ret2 (v1 := .int .i64 0) (v2 := .int .i64 3) Try.results47 rfl rfl ?_)))))))))))))))
  exact ⟨⟨_, _, rfl, by simp_all [SafeQ, okSafe]⟩, E29⟩
 ·
  have B31 := (((B9.keep u17 (fun h => h)).keep u20 (show ¬ (bk7 = bk14) by first | omega | assumption)).keep u27 (fun h => h))
  refine t_load Try.isAgg3 rfl rfl rfl (B31.get rfl) (t_bslice (ps := [(0, .int .i64 s)]) (cs := [.int .i64 s]) (e := 3) rfl rfl ⟨rfl, rfl⟩ (fun w => by kernel_rfl) (fun bk32 w33 ebk32 sbk32 B34 u35 => ?_))
  have zu35 := u35.size
  have E36 := E29.next u35 (fun _ _ h => h.elim)
  refine t_call (vs := [.int .i64 0, .int .i64 100000, .slice (some ⟨bk32, 0, none⟩) 1 1]) own58 rfl rfl rfl rfl (within1_v 0 100000 s _ _ _ B34) (fun v37 w38 r40 => ?_)
  obtain ⟨rfl, u39⟩ := r40
  have zu39 := u39.size
  have E41 := E36.next u39 (fun _ _ h => h.elim)
  refine t_notp rfl rfl rfl (t_pick_f rfl rfl rfl rfl (t_nil' (hK24 _ _ (c_condp rfl (fun g23 => ?_) (fun g23 => ?_)))))
  ·
   refine c_seq fun K42 hK42 => (c_region (t_assign rfl rfl rfl (t_assign rfl rfl rfl (t_nil' (hK42 _ _ (c_ret (f_ret2 (v1 := .int .i64 0) (v2 := .int .i64 3) Try.results47 rfl rfl ?_)))))))
   exact ⟨⟨_, _, rfl, by simp only [SafeQ, okSafe, decide_eq_false g23]; simp⟩, E41⟩
  ·
   refine c_skip (hK23 _ _ (c_seq fun K43 hK43 => (c_region ?_)))
   have hb : okBrake m p glo ghi = true := by simpa using g18
   refine t_mkfunc (vs := []) (us := [.pointer (some ⟨bk14, 0, none⟩), .pointer (some ⟨bk7, 0, none⟩)]) rfl rfl rfl rfl ?_
   have B44 := (((B21.keep u27 (fun h => h)).keep u35 (fun h => h)).keep u39 (fun h => h))
   have B45 := ((B31.keep u35 (fun h => h)).keep u39 (fun h => h))
   refine t_call (vs := [.int .i64 400, .func (.func 84) #[] #[.pointer (some ⟨bk14, 0, none⟩), .pointer (some ⟨bk7, 0, none⟩)]]) own83 rfl rfl rfl rfl (search_c 400 (fun i => decide (s < mostV m p glo (i + 1))) 84 [.pointer (some ⟨bk14, 0, none⟩), .pointer (some ⟨bk7, 0, none⟩)] _ (by omega) own84 (fun x hx w u => Safe1_c x m p glo ghi s bk14 bk7 _ _ w (B44.keep u (fun h => h)) (B45.keep u (fun h => h)) (by omega) (okBrake_rb hb (by omega)).1)) (fun v46 w47 r49 => ?_)
   obtain ⟨⟨r, rfl, hr0, hr1, hr2, hr3⟩, u48⟩ := r49
   have zu48 := u48.size
   have E50 := E41.next u48 (fun _ _ h => h.elim)
   refine t_assign rfl rfl rfl (t_assign rfl rfl rfl (t_nil' (hK43 _ _ (c_ret (f_ret2 (v1 := .int .i64 r) (v2 := .int .i64 0) Try.results47 rfl rfl ?_)))))
   exact ⟨⟨_, _, rfl, by simp only [SafeQ, okSafe, decide_eq_true (Decidable.not_not.1 g23), hb, Bool.and_self, if_true]; exact ⟨trivial, safeR_of hr0 hr1 hr2 hr3⟩⟩, E50⟩


structure HRow where
  ao : Option Addr
  b : Nat
  o : Nat
  cap : Nat
  xs : List Hull
instance : Inhabited HRow := ⟨⟨default, default, default, default, default⟩⟩
def encHRow (r : HRow) : List Value := [.slice r.ao r.xs.length r.cap]
structure Size where
  len : Int
  wid : Int
  mass : Int
  hulls : Int
instance : Inhabited Size := ⟨⟨default, default, default, default⟩⟩
def addH (r : Row) (h : Hull) : Row := ⟨max r.long h.len, r.wide + h.wid, r.mass + h.mass⟩
def rowOf (xs : List Hull) : Row := xs.foldl addH ⟨0, 0, 0⟩
def addRow (s : Size) (xs : List Hull) : Size := ⟨s.len + (rowOf xs).long, max s.wid (rowOf xs).wide, s.mass + (rowOf xs).mass, s.hulls + xs.length⟩
def sizeOf (boat : Hull) (rows : List (List Hull)) : Size := rows.foldl addRow ⟨boat.len, boat.wid, boat.mass, 0⟩
def okRow (xs : List Hull) : Bool := decide (1 ≤ (xs.length : Int) ∧ (xs.length : Int) ≤ 4) && !(xs.any fun h => !okHull h)
def okTow (boat : Hull) (power : Int) (rows : List (List Hull)) : Bool :=
  okHull boat && decide (1 ≤ power ∧ power ≤ 20000) && decide (rows.length ≤ 10) && rows.all okRow && decide ((sizeOf boat rows).hulls ≤ 30)
def MeaE (boat : Hull) (power : Int) (rows : List (List Hull)) : Int := if okTow boat power rows then 0 else 2
def MeaS (boat : Hull) (power : Int) (rows : List (List Hull)) : Size := if okTow boat power rows then sizeOf boat rows else ⟨0, 0, 0, 0⟩
def sizeTo (boat : Hull) (rows : List HRow) (k : Nat) : Size := sizeOf boat ((rows.take k).map (·.xs))
theorem okHull_rng {h : Hull} (ho : okHull h = true) : (1 ≤ h.len ∧ h.len ≤ 200) ∧ (1 ≤ h.wid ∧ h.wid ≤ 30) ∧ (0 ≤ h.mass ∧ h.mass ≤ 10000) := by
  unfold okHull at ho; rwa [decide_eq_true_eq] at ho
theorem mea_bad {boat : Hull} {power : Int} {rows : List (List Hull)} (h : okTow boat power rows = false) : MeaE boat power rows = 2 ∧ MeaS boat power rows = ⟨0, 0, 0, 0⟩ := by simp [MeaE, MeaS, h]
theorem mea_ok {boat : Hull} {power : Int} {rows : List (List Hull)} (h : okTow boat power rows = true) : MeaE boat power rows = 0 ∧ MeaS boat power rows = sizeOf boat rows := by simp [MeaE, MeaS, h]
theorem sizeTo_all {boat : Hull} {rows : List HRow} {k : Nat} (h : rows.length ≤ k) : sizeTo boat rows k = sizeOf boat (rows.map (·.xs)) := by unfold sizeTo; rw [List.take_of_length_le h]
theorem not_all_map {rows : List HRow} {k : Nat} (hk : k < rows.length) (h : okRow (nth rows k).xs = false) : (rows.map (·.xs)).all okRow = false := by
  cases hh : (rows.map (·.xs)).all okRow with
  | false => rfl
  | true => have := List.all_eq_true.1 hh _ (List.mem_map.2 ⟨_, nth_mem hk, rfl⟩); rw [h] at this; cases this
theorem all_map_of {rows : List HRow} {k : Nat} (hk : rows.length ≤ k) (h : (rows.take k).all (fun r => okRow r.xs) = true) : (rows.map (·.xs)).all okRow = true := by
  rw [List.take_of_length_le hk] at h; rw [List.all_map]; exact h
theorem rowTo_succ {xs : List Hull} {j : Nat} (h : j < xs.length) : rowOf (xs.take (j + 1)) = addH (rowOf (xs.take j)) (nth xs j) := by
  rw [take_nth h]; simp [rowOf]
theorem sizeTo_succ {boat : Hull} {rows : List HRow} {k : Nat} (h : k < rows.length) : sizeTo boat rows (k + 1) = addRow (sizeTo boat rows k) (nth rows k).xs := by
  unfold sizeTo; rw [take_nth h]; simp [sizeOf]
theorem all_snoc {α : Type} [Inhabited α] {p : α → Bool} {xs : List α} {k : Nat} (hk : k < xs.length) (h : (xs.take k).all p = true) (hx : p (nth xs k) = true) : (xs.take (k + 1)).all p = true := by
  rw [take_nth hk, List.all_append, h]; simp [hx]
theorem not_all_at {α : Type} [Inhabited α] {p : α → Bool} {xs : List α} {k : Nat} (hk : k < xs.length) (hx : p (nth xs k) = false) : xs.all p = false := by
  cases h : xs.all p with
  | false => rfl
  | true => have := List.all_eq_true.1 h _ (nth_mem hk); rw [hx] at this; cases this

theorem Measure_c (boat : Hull) (power : Int) (rows : List HRow) (ao : Option Addr) (b o cap : Nat) (w0 : World) (hs : Sl encHRow 1 w0 ao b o rows) (hrows : ∀ r ∈ rows, Sl encHull 3 w0 r.ao r.b r.o r.xs) (hl : rows.length ≤ 1000000) (hll : ∀ r ∈ rows, r.xs.length ≤ 1000000) :
    CallsV Try.prog 37 [.agg #[.int .i64 boat.len, .int .i64 boat.wid, .int .i64 boat.mass, .int .i64 power, .slice ao rows.length cap]] w0 (fun v w' => v = .tuple #[.agg #[.int .i64 (MeaS boat power (rows.map (·.xs))).len, .int .i64 (MeaS boat power (rows.map (·.xs))).wid, .int .i64 (MeaS boat power (rows.map (·.xs))).mass, .int .i64 (MeaS boat power (rows.map (·.xs))).hulls], .int .i64 (MeaE boat power (rows.map (·.xs)))] ∧ Ext w0 w') := by
 have E0 := Upd.refl (fun _ => False) w0
 refine f_enter (N := 95) Try.func37 rfl rfl rfl ?_
 change WC _ _ _ _ _ _ [(0, .agg #[.int .i64 boat.len, .int .i64 boat.wid, .int .i64 boat.mass, .int .i64 power, .slice ao rows.length cap])] _
 refine c_seq fun K1 hK1 => (c_region (t_box (cs := [.int .i64 boat.len, .int .i64 boat.wid, .int .i64 boat.mass, .int .i64 power, .slice ao rows.length cap]) rfl rfl rfl rfl (fun bk2 w3 ebk2 sbk2 B4 u5 => ?_)))
 have zu5 := u5.size
 have E6 := E0.next u5 (fun _ _ h => h.elim)
 refine t_alloc (cs := [.int .i64 0, .int .i64 0, .int .i64 0, .int .i64 0]) Try.zeroValue66 rfl rfl rfl (fun bk7 w8 ebk7 sbk7 B9 u10 => ?_)
 have zu10 := u10.size
 have E11 := E6.next u10 (fun _ _ h => h.elim)
 refine t_assign rfl rfl rfl (t_nil' (hK1 _ _ (c_seq fun K12 hK12 => (c_region (t_field Try.underlying64 rfl Try.sizeOf23 (0) rfl rfl rfl rfl (t_field Try.underlying23 rfl Try.sizeOf3 (0) rfl rfl rfl rfl ?_))))))
 have B13 := (B4.keep u10 (fun h => h))
 refine t_load Try.isAgg3 rfl rfl rfl (B13.get rfl) (t_field Try.underlying64 rfl Try.sizeOf23 (0) rfl rfl rfl rfl (t_field Try.underlying23 rfl Try.sizeOf3 (1) rfl rfl rfl rfl (t_load Try.isAgg3 rfl rfl rfl (B13.get rfl) (t_field Try.underlying64 rfl Try.sizeOf23 (0) rfl rfl rfl rfl (t_field Try.underlying23 rfl Try.sizeOf3 (2) rfl rfl rfl rfl (t_load Try.isAgg3 rfl rfl rfl (B13.get rfl) (t_build (ps := [(0, .int .i64 boat.len), (1, .int .i64 boat.wid), (2, .int .i64 boat.mass)]) (v := .agg #[.int .i64 boat.len, .int .i64 boat.wid, .int .i64 boat.mass, .int .i64 0]) rfl rfl ⟨rfl, rfl⟩ (fun w => by kernel_rfl) (t_alloc (cs := [.int .i64 0, .int .i64 0, .int .i64 0, .int .i64 0]) Try.zeroValue66 rfl rfl rfl (fun bk14 w15 ebk14 sbk14 B16 u17 => ?_)))))))))
 have zu17 := u17.size
 have E18 := E11.next u17 (fun _ _ h => h.elim)
 refine t_store (vs := [.int .i64 boat.len, .int .i64 boat.wid, .int .i64 boat.mass, .int .i64 0]) Try.sizeOf66 rfl rfl rfl B16 rfl rfl (Nat.le_of_ble_eq_true rfl) (by simp [Value.oneCell']) (fun w19 sw19 B21 u20 => ?_)
 have zu20 := u20.size
 have E22 := E18.next u20 (fun i hi (h : i = bk14) => show False by first | omega | assumption)
 have B21 : Blk w19 bk14 66 [.int .i64 boat.len, .int .i64 boat.wid, .int .i64 boat.mass, .int .i64 0] := B21
 refine t_nil' (hK12 _ _ (c_seq fun K23 hK23 => (c_seq fun K24 hK24 => (c_region (t_field Try.underlying64 rfl Try.sizeOf23 (0) rfl rfl rfl rfl ?_)))))
 have B25 := ((B13.keep u17 (fun h => h)).keep u20 (show ¬ (bk2 = bk14) by first | omega | assumption))
 refine t_loadN (vs := [.int .i64 boat.len, .int .i64 boat.wid, .int .i64 boat.mass]) Try.isAgg23 Try.sizeOf23 rfl rfl rfl (B25.at.sub 0 3) rfl (t_call (vs := [.agg #[.int .i64 boat.len, .int .i64 boat.wid, .int .i64 boat.mass]]) own56 rfl rfl rfl rfl (isHull_c boat _) (fun v26 w27 r29 => ?_))
 obtain ⟨rfl, u28⟩ := r29
 have zu28 := u28.size
 have E30 := E22.next u28 (fun _ _ h => h.elim)
 refine t_not rfl rfl rfl (t_move rfl rfl rfl (t_split 24 rfl (fun g24 => ?_) (fun g24 => ?_)))
 ·
  refine t_skip rfl rfl rfl (t_skip rfl rfl rfl (t_skip rfl rfl rfl (t_skip rfl rfl rfl (t_skip rfl rfl rfl (t_pick_t rfl rfl rfl rfl (t_move rfl rfl rfl (t_skip rfl rfl rfl (t_skip rfl rfl rfl (t_skip rfl rfl rfl (t_skip rfl rfl rfl (t_pick_t rfl rfl rfl rfl (t_nil' (hK24 _ _ (c_cond_t rfl (c_seq fun K31 hK31 => (c_region ?_))))))))))))))))
  have B32 := (((B9.keep u17 (fun h => h)).keep u20 (show ¬ (bk7 = bk14) by first | omega | assumption)).keep u28 (fun h => h))
  refine t_loadN (vs := [.int .i64 0, .int .i64 0, .int .i64 0, .int .i64 0]) Try.isAgg66 Try.sizeOf66 rfl rfl rfl (B32.at.sub 0 4) rfl (t_store (vs := [.int .i64 0, .int .i64 0, .int .i64 0, .int .i64 0]) Try.sizeOf66 rfl rfl rfl B32 rfl rfl (Nat.le_of_ble_eq_true rfl) (by simp [Value.oneCell']) (fun w33 sw33 B35 u34 => ?_))
  have zu34 := u34.size
  have E36 := E30.next u34 (fun i hi (h : i = bk7) => show False by first | omega | assumption)
  have B35 : Blk w33 bk7 66 [.int .i64 0, .int .i64 0, .int .i64 0, .int .i64 0] := B35
  refine t_assign rfl rfl rfl (t_nil' (hK31 _ _ (c_ret (f_ret2 (v1 := .agg #[.int .i64 0, .int .i64 0, .int .i64 0, .int .i64 0]) (v2 := .int .i64 2) Try.results37 ⟨_, _, rfl, run_loadVarN (vs := [.int .i64 0, .int .i64 0, .int .i64 0, .int .i64 0]) Try.isAgg66 Try.sizeOf66 rfl (B35.at.sub 0 4)⟩ rfl ?_))))
  have hbad : okTow boat power (rows.map (·.xs)) = false := by simp only [okTow]; simp_all
  exact ⟨by rw [(mea_bad hbad).1, (mea_bad hbad).2], E36⟩
 ·
  refine t_field Try.underlying64 rfl Try.sizeOf3 (3) rfl rfl rfl rfl ?_
  have B37 := (B25.keep u28 (fun h => h))
  refine t_load Try.isAgg3 rfl rfl rfl (B37.get rfl) (t_bslice (ps := [(0, .int .i64 power)]) (cs := [.int .i64 power]) (e := 3) rfl rfl ⟨rfl, rfl⟩ (fun w => by kernel_rfl) (fun bk38 w39 ebk38 sbk38 B40 u41 => ?_))
  have zu41 := u41.size
  have E42 := E30.next u41 (fun _ _ h => h.elim)
  refine t_call (vs := [.int .i64 1, .int .i64 20000, .slice (some ⟨bk38, 0, none⟩) 1 1]) own58 rfl rfl rfl rfl (within1_v 1 20000 power _ _ _ B40) (fun v43 w44 r46 => ?_)
  obtain ⟨rfl, u45⟩ := r46
  have zu45 := u45.size
  have E47 := E42.next u45 (fun _ _ h => h.elim)
  refine t_notp rfl rfl rfl (t_pick_f rfl rfl rfl rfl (t_move rfl rfl rfl (t_splitp 31 rfl (fun g31 => ?_) (fun g31 => ?_))))
  ·
   refine t_skip rfl rfl rfl (t_skip rfl rfl rfl (t_skip rfl rfl rfl (t_skip rfl rfl rfl (t_pick_t rfl rfl rfl rfl (t_nil' (hK24 _ _ (c_cond_t rfl (c_seq fun K48 hK48 => (c_region ?_)))))))))
   have B49 := (((((B9.keep u17 (fun h => h)).keep u20 (show ¬ (bk7 = bk14) by first | omega | assumption)).keep u28 (fun h => h)).keep u41 (fun h => h)).keep u45 (fun h => h))
   refine t_loadN (vs := [.int .i64 0, .int .i64 0, .int .i64 0, .int .i64 0]) Try.isAgg66 Try.sizeOf66 rfl rfl rfl (B49.at.sub 0 4) rfl (t_store (vs := [.int .i64 0, .int .i64 0, .int .i64 0, .int .i64 0]) Try.sizeOf66 rfl rfl rfl B49 rfl rfl (Nat.le_of_ble_eq_true rfl) (by simp [Value.oneCell']) (fun w50 sw50 B52 u51 => ?_))
   have zu51 := u51.size
   have E53 := E47.next u51 (fun i hi (h : i = bk7) => show False by first | omega | assumption)
   have B52 : Blk w50 bk7 66 [.int .i64 0, .int .i64 0, .int .i64 0, .int .i64 0] := B52
   refine t_assign rfl rfl rfl (t_nil' (hK48 _ _ (c_ret (f_ret2 (v1 := .agg #[.int .i64 0, .int .i64 0, .int .i64 0, .int .i64 0]) (v2 := .int .i64 2) Try.results37 ⟨_, _, rfl, run_loadVarN (vs := [.int .i64 0, .int .i64 0, .int .i64 0, .int .i64 0]) Try.isAgg66 Try.sizeOf66 rfl (B52.at.sub 0 4)⟩ rfl ?_))))
   have hbad : okTow boat power (rows.map (·.xs)) = false := by simp only [okTow, decide_eq_false g31]; simp
   exact ⟨by rw [(mea_bad hbad).1, (mea_bad hbad).2], E53⟩
  ·
   refine t_field Try.underlying64 rfl Try.sizeOf62 (4) rfl rfl rfl rfl ?_
   have B54 := ((B37.keep u41 (fun h => h)).keep u45 (fun h => h))
   refine t_load Try.isAgg62 rfl rfl rfl (B54.get rfl) (t_len Try.underlying62 rfl rfl rfl rfl (t_cmp rfl rfl rfl rfl rfl (t_pick_f rfl rfl rfl rfl (t_nil' (hK24 _ _ (c_condp rfl (fun g36 => ?_) (fun g36 => ?_)))))))
   ·
    refine c_seq fun K55 hK55 => (c_region ?_)
    have B56 := (((((B9.keep u17 (fun h => h)).keep u20 (show ¬ (bk7 = bk14) by first | omega | assumption)).keep u28 (fun h => h)).keep u41 (fun h => h)).keep u45 (fun h => h))
    refine t_loadN (vs := [.int .i64 0, .int .i64 0, .int .i64 0, .int .i64 0]) Try.isAgg66 Try.sizeOf66 rfl rfl rfl (B56.at.sub 0 4) rfl (t_store (vs := [.int .i64 0, .int .i64 0, .int .i64 0, .int .i64 0]) Try.sizeOf66 rfl rfl rfl B56 rfl rfl (Nat.le_of_ble_eq_true rfl) (by simp [Value.oneCell']) (fun w57 sw57 B59 u58 => ?_))
    have zu58 := u58.size
    have E60 := E47.next u58 (fun i hi (h : i = bk7) => show False by first | omega | assumption)
    have B59 : Blk w57 bk7 66 [.int .i64 0, .int .i64 0, .int .i64 0, .int .i64 0] := B59
    refine t_assign rfl rfl rfl (t_nil' (hK55 _ _ (c_ret (f_ret2 (v1 := .agg #[.int .i64 0, .int .i64 0, .int .i64 0, .int .i64 0]) (v2 := .int .i64 2) Try.results37 ⟨_, _, rfl, run_loadVarN (vs := [.int .i64 0, .int .i64 0, .int .i64 0, .int .i64 0]) Try.isAgg66 Try.sizeOf66 rfl (B59.at.sub 0 4)⟩ rfl ?_))))
    have hbad : okTow boat power (rows.map (·.xs)) = false := by simp only [okTow, List.length_map, decide_eq_false (show ¬ (rows.length ≤ 10) by omega)]; simp
    exact ⟨by rw [(mea_bad hbad).1, (mea_bad hbad).2], E60⟩
   ·
    refine c_skip (hK23 _ _ (c_seq fun K61 hK61 => (c_seq fun K62 hK62 => (c_region (t_field Try.underlying64 rfl Try.sizeOf62 (4) rfl rfl rfl rfl (t_load Try.isAgg62 rfl rfl rfl (B54.get rfl) (t_len Try.underlying62 rfl rfl rfl rfl (t_move rfl rfl rfl (t_nil' (hK62 _ _ (c_block ?_)))))))))))
    have B63 := (((B21.keep u28 (fun h => h)).keep u41 (fun h => h)).keep u45 (fun h => h))
    have hb0 : okHull boat = true := by simpa using g24
    have hb1 := okHull_rng hb0
    have hb2 : rows.length ≤ 10 := by omega
    refine c_loop (γ := Nat × Size) (fun gg => [(2, .pointer (some ⟨bk7, 0, none⟩)), (4, .pointer (some ⟨bk14, 0, none⟩)), (39, .slice ao rows.length cap), (40, .int .i64 (rows.length : Int)), (41, .int .i64 (gg.1 : Int))]) (fun gg w => Upd (fun i => i = bk14) w44 w ∧ Blk w bk14 66 [.int .i64 gg.2.len, .int .i64 gg.2.wid, .int .i64 gg.2.mass, .int .i64 gg.2.hulls] ∧ (gg.1 ≤ rows.length) ∧ (gg.2 = sizeTo boat rows gg.1) ∧ ((rows.take gg.1).all (fun r => okRow r.xs) = true) ∧ ((0 ≤ gg.2.len ∧ gg.2.len ≤ 200 + 200 * gg.1) ∧ (0 ≤ gg.2.wid ∧ gg.2.wid ≤ 200) ∧ (0 ≤ gg.2.mass ∧ gg.2.mass ≤ 10000 + 40000 * gg.1) ∧ (0 ≤ gg.2.hulls ∧ gg.2.hulls ≤ 4 * gg.1))) (fun gg => rows.length - gg.1) (0, ⟨boat.len, boat.wid, boat.mass, 0⟩) ⟨rfl, rfl, rfl, rfl, rfl, trivial⟩ ⟨Upd.refl _ _, B63, Nat.zero_le _, rfl, rfl, (by simp only []; omega)⟩ ?_
    intro gg w65 hW K64 hK64
    obtain ⟨k, z⟩ := gg
    change WC _ _ _ _ _ _ [(2, .pointer (some ⟨bk7, 0, none⟩)), (4, .pointer (some ⟨bk14, 0, none⟩)), (39, .slice ao rows.length cap), (40, .int .i64 (rows.length : Int)), (41, .int .i64 (k : Int))] _
    change Upd (fun i => i = bk14) w44 w65 ∧ Blk w65 bk14 66 [.int .i64 z.len, .int .i64 z.wid, .int .i64 z.mass, .int .i64 z.hulls] ∧ (k ≤ rows.length) ∧ (z = sizeTo boat rows k) ∧ ((rows.take k).all (fun r => okRow r.xs) = true) ∧ ((0 ≤ z.len ∧ z.len ≤ 200 + 200 * k) ∧ (0 ≤ z.wid ∧ z.wid ≤ 200) ∧ (0 ≤ z.mass ∧ z.mass ≤ 10000 + 40000 * k) ∧ (0 ≤ z.hulls ∧ z.hulls ≤ 4 * k)) at hW
    obtain ⟨u66, I67, I68, I69, I70, I71⟩ := hW
    have zu66 := u66.size
    have E72 := E47.next u66 (fun i hi (h : i = bk14) => show False by first | omega | assumption)
    have hle := I68; clear I68
    have hz := I69; clear I69
    have hall := I70; clear I70
    have hbd := I71; clear I71
    refine c_seq fun K73 hK73 => (c_region (t_cmp rfl rfl rfl rfl rfl (t_nil' (hK73 _ _ (c_seq fun K74 hK74 => (c_condp rfl (fun g42 => ?_) (fun g42 => ?_)))))))
    ·
     refine c_skip (hK74 _ _ (c_seq fun K75 hK75 => (c_block (c_seq fun K76 hK76 => (c_region ?_)))))
     have i77 : k < rows.length := (by omega)
     refine t_index (j := k) Try.underlying62 Try.sizeOf24 rfl rfl rfl rfl ((hs.keep E72 (fun _ h => h)).addr (by omega)) rfl i77 (t_load Try.isAgg24 rfl rfl rfl (((hs.keep E72 (fun _ h => h)).at_ k (by omega)) 0 _ rfl) ?_)
     have hlk := hll _ (nth_mem (xs := rows) (i := k) (by omega))
     refine t_assign rfl rfl rfl (t_nil' (hK76 _ _ (c_seq fun K78 hK78 => (c_seq fun K79 hK79 => (c_region (t_move rfl rfl rfl (t_len Try.underlying24 rfl rfl rfl rfl (t_bslice (ps := [(0, .int .i64 (((nth rows k).xs).length : Int))]) (cs := [.int .i64 (((nth rows k).xs).length : Int)]) (e := 3) rfl rfl ⟨rfl, rfl⟩ (fun w => by kernel_rfl) (fun bk80 w81 ebk80 sbk80 B82 u83 => ?_)))))))))
     have zu83 := u83.size
     have E84 := E72.next u83 (fun _ _ h => h.elim)
     refine t_call (vs := [.int .i64 1, .int .i64 4, .slice (some ⟨bk80, 0, none⟩) 1 1]) own58 rfl rfl rfl rfl (within1_v 1 4 (((nth rows k).xs).length : Int) _ _ _ B82) (fun v85 w86 r88 => ?_)
     obtain ⟨rfl, u87⟩ := r88
     have zu87 := u87.size
     have E89 := E84.next u87 (fun _ _ h => h.elim)
     refine t_notp rfl rfl rfl (t_move rfl rfl rfl (t_splitp 50 rfl (fun g50 => ?_) (fun g50 => ?_)))
     ·
      refine t_skip rfl rfl rfl (t_skip rfl rfl rfl (t_pick_t rfl rfl rfl rfl (t_nil' (hK79 _ _ (c_cond_t rfl (c_seq fun K90 hK90 => (c_region ?_)))))))
      have B91 := ((((((((B9.keep u17 (fun h => h)).keep u20 (show ¬ (bk7 = bk14) by first | omega | assumption)).keep u28 (fun h => h)).keep u41 (fun h => h)).keep u45 (fun h => h)).keep u66 (show ¬ (bk7 = bk14) by first | omega | assumption)).keep u83 (fun h => h)).keep u87 (fun h => h))
      refine t_loadN (vs := [.int .i64 0, .int .i64 0, .int .i64 0, .int .i64 0]) Try.isAgg66 Try.sizeOf66 rfl rfl rfl (B91.at.sub 0 4) rfl (t_store (vs := [.int .i64 0, .int .i64 0, .int .i64 0, .int .i64 0]) Try.sizeOf66 rfl rfl rfl B91 rfl rfl (Nat.le_of_ble_eq_true rfl) (by simp [Value.oneCell']) (fun w92 sw92 B94 u93 => ?_))
      have zu93 := u93.size
      have E95 := E89.next u93 (fun i hi (h : i = bk7) => show False by first | omega | assumption)
      have B94 : Blk w92 bk7 66 [.int .i64 0, .int .i64 0, .int .i64 0, .int .i64 0] := B94
      refine t_assign rfl rfl rfl (t_nil' (hK90 _ _ (c_ret (f_ret2 (v1 := .agg #[.int .i64 0, .int .i64 0, .int .i64 0, .int .i64 0]) (v2 := .int .i64 2) Try.results37 ⟨_, _, rfl, run_loadVarN (vs := [.int .i64 0, .int .i64 0, .int .i64 0, .int .i64 0]) Try.isAgg66 Try.sizeOf66 rfl (B94.at.sub 0 4)⟩ rfl ?_))))
      have hbad : okTow boat power (rows.map (·.xs)) = false := by simp only [okTow, not_all_map (by omega) (show okRow (nth rows k).xs = false by simp only [okRow, decide_eq_false g50]; simp)]; simp
      exact ⟨by rw [(mea_bad hbad).1, (mea_bad hbad).2], E95⟩
     ·
      refine t_move rfl rfl rfl (t_call (vs := [.slice ((nth rows k).ao) (((nth rows k).xs).length) ((nth rows k).cap)]) own57 rfl rfl rfl rfl (badHull_c ((nth rows k).xs) _ _ _ _ _ ((hrows (nth rows k) (nth_mem (by omega))).keep E89 (fun _ h => h)) (by omega)) (fun v96 w97 r99 => ?_))
      obtain ⟨rfl, u98⟩ := r99
      have zu98 := u98.size
      have E100 := E89.next u98 (fun _ _ h => h.elim)
      refine t_pick_f rfl rfl rfl rfl (t_nil' (hK79 _ _ (c_cond rfl (fun g53 => ?_) (fun g53 => ?_))))
      ·
       refine c_seq fun K101 hK101 => (c_region ?_)
       have B102 := (((((((((B9.keep u17 (fun h => h)).keep u20 (show ¬ (bk7 = bk14) by first | omega | assumption)).keep u28 (fun h => h)).keep u41 (fun h => h)).keep u45 (fun h => h)).keep u66 (show ¬ (bk7 = bk14) by first | omega | assumption)).keep u83 (fun h => h)).keep u87 (fun h => h)).keep u98 (fun h => h))
       refine t_loadN (vs := [.int .i64 0, .int .i64 0, .int .i64 0, .int .i64 0]) Try.isAgg66 Try.sizeOf66 rfl rfl rfl (B102.at.sub 0 4) rfl (t_store (vs := [.int .i64 0, .int .i64 0, .int .i64 0, .int .i64 0]) Try.sizeOf66 rfl rfl rfl B102 rfl rfl (Nat.le_of_ble_eq_true rfl) (by simp [Value.oneCell']) (fun w103 sw103 B105 u104 => ?_))
       have zu104 := u104.size
       have E106 := E100.next u104 (fun i hi (h : i = bk7) => show False by first | omega | assumption)
       have B105 : Blk w103 bk7 66 [.int .i64 0, .int .i64 0, .int .i64 0, .int .i64 0] := B105
       refine t_assign rfl rfl rfl (t_nil' (hK101 _ _ (c_ret (f_ret2 (v1 := .agg #[.int .i64 0, .int .i64 0, .int .i64 0, .int .i64 0]) (v2 := .int .i64 2) Try.results37 ⟨_, _, rfl, run_loadVarN (vs := [.int .i64 0, .int .i64 0, .int .i64 0, .int .i64 0]) Try.isAgg66 Try.sizeOf66 rfl (B105.at.sub 0 4)⟩ rfl ?_))))
       have hbad : okTow boat power (rows.map (·.xs)) = false := by simp only [okTow, not_all_map (by omega) (show okRow (nth rows k).xs = false by simp only [okRow, g53]; simp)]; simp
       exact ⟨by rw [(mea_bad hbad).1, (mea_bad hbad).2], E106⟩
      ·
       refine c_skip (hK78 _ _ (c_seq fun K107 hK107 => (c_region (t_alloc (cs := [.int .i64 0, .int .i64 0, .int .i64 0]) Try.zeroValue138 rfl rfl rfl (fun bk108 w109 ebk108 sbk108 B110 u111 => ?_)))))
       have zu111 := u111.size
       have E112 := E100.next u111 (fun _ _ h => h.elim)
       refine t_nil' (hK107 _ _ (c_seq fun K113 hK113 => (c_seq fun K114 hK114 => (c_region (t_move rfl rfl rfl (t_len Try.underlying24 rfl rfl rfl rfl (t_move rfl rfl rfl (t_nil' (hK114 _ _ (c_block ?_))))))))))
       have hrk : okRow (nth rows k).xs = true := by simp only [okRow, decide_eq_true (Decidable.not_not.1 g50), g53]; rfl
       have hx4 := Decidable.not_not.1 g50
       have hhull : ∀ h ∈ (nth rows k).xs, okHull h = true := by simpa using g53
       refine c_loop (γ := Nat × Row) (fun gg => [(2, .pointer (some ⟨bk7, 0, none⟩)), (4, .pointer (some ⟨bk14, 0, none⟩)), (6, .slice ((nth rows k).ao) (((nth rows k).xs).length) ((nth rows k).cap)), (7, .pointer (some ⟨bk108, 0, none⟩)), (39, .slice ao rows.length cap), (40, .int .i64 (rows.length : Int)), (41, .int .i64 (k : Int)), (55, .slice ((nth rows k).ao) (((nth rows k).xs).length) ((nth rows k).cap)), (56, .int .i64 (((nth rows k).xs).length : Int)), (57, .int .i64 (gg.1 : Int))]) (fun gg w => Upd (fun i => i = bk108) w109 w ∧ Blk w bk108 138 [.int .i64 gg.2.long, .int .i64 gg.2.wide, .int .i64 gg.2.mass] ∧ (gg.1 ≤ ((nth rows k).xs).length) ∧ (gg.2 = rowOf (((nth rows k).xs).take gg.1)) ∧ ((0 ≤ gg.2.long ∧ gg.2.long ≤ 200) ∧ (0 ≤ gg.2.wide ∧ gg.2.wide ≤ 30 * gg.1) ∧ (0 ≤ gg.2.mass ∧ gg.2.mass ≤ 10000 * gg.1))) (fun gg => ((nth rows k).xs).length - gg.1) (0, ⟨0, 0, 0⟩) ⟨rfl, rfl, rfl, rfl, rfl, rfl, rfl, rfl, rfl, rfl, trivial⟩ ⟨Upd.refl _ _, B110, Nat.zero_le _, rfl, (by simp only []; omega)⟩ ?_
       intro gg w116 hW K115 hK115
       obtain ⟨j, r⟩ := gg
       change WC _ _ _ _ _ _ [(2, .pointer (some ⟨bk7, 0, none⟩)), (4, .pointer (some ⟨bk14, 0, none⟩)), (6, .slice ((nth rows k).ao) (((nth rows k).xs).length) ((nth rows k).cap)), (7, .pointer (some ⟨bk108, 0, none⟩)), (39, .slice ao rows.length cap), (40, .int .i64 (rows.length : Int)), (41, .int .i64 (k : Int)), (55, .slice ((nth rows k).ao) (((nth rows k).xs).length) ((nth rows k).cap)), (56, .int .i64 (((nth rows k).xs).length : Int)), (57, .int .i64 (j : Int))] _
       change Upd (fun i => i = bk108) w109 w116 ∧ Blk w116 bk108 138 [.int .i64 r.long, .int .i64 r.wide, .int .i64 r.mass] ∧ (j ≤ ((nth rows k).xs).length) ∧ (r = rowOf (((nth rows k).xs).take j)) ∧ ((0 ≤ r.long ∧ r.long ≤ 200) ∧ (0 ≤ r.wide ∧ r.wide ≤ 30 * j) ∧ (0 ≤ r.mass ∧ r.mass ≤ 10000 * j)) at hW
       obtain ⟨u117, I118, I119, I120, I121⟩ := hW
       have zu117 := u117.size
       have E122 := E112.next u117 (fun i hi (h : i = bk108) => show False by first | omega | assumption)
       have jle := I119; clear I119
       have hr := I120; clear I120
       have rbd := I121; clear I121
       refine c_seq fun K123 hK123 => (c_region (t_cmp rfl rfl rfl rfl rfl (t_nil' (hK123 _ _ (c_seq fun K124 hK124 => (c_condp rfl (fun g58 => ?_) (fun g58 => ?_)))))))
       ·
        refine c_skip (hK124 _ _ (c_seq fun K125 hK125 => (c_block (c_seq fun K126 hK126 => (c_region ?_)))))
        have i127 : j < ((nth rows k).xs).length := (by omega)
        refine t_index (j := j) Try.underlying24 Try.sizeOf23 rfl rfl rfl rfl (((hrows (nth rows k) (nth_mem (by omega))).keep E122 (fun _ h => h)).addr (by omega)) rfl i127 (t_loadN (vs := [.int .i64 ((nth ((nth rows k).xs) j).len), .int .i64 ((nth ((nth rows k).xs) j).wid), .int .i64 ((nth ((nth rows k).xs) j).mass)]) Try.isAgg23 Try.sizeOf23 rfl rfl rfl ((((hrows (nth rows k) (nth_mem (by omega))).keep E122 (fun _ h => h)).at_ j (by omega)).sub 0 3) rfl ?_)
        have hh := okHull_rng (hhull _ (nth_mem (xs := (nth rows k).xs) (i := j) (by omega)))
        refine t_alloc (cs := [.int .i64 0, .int .i64 0, .int .i64 0]) Try.zeroValue23 rfl rfl rfl (fun bk128 w129 ebk128 sbk128 B130 u131 => ?_)
        have zu131 := u131.size
        refine t_store (vs := [.int .i64 ((nth ((nth rows k).xs) j).len), .int .i64 ((nth ((nth rows k).xs) j).wid), .int .i64 ((nth ((nth rows k).xs) j).mass)]) Try.sizeOf23 rfl rfl rfl B130 rfl rfl (Nat.le_of_ble_eq_true rfl) (by simp [Value.oneCell']) (fun w133 sw133 B135 u134 => ?_)
        have zu134 := u134.size
        have B135 : Blk w133 bk128 23 [.int .i64 ((nth ((nth rows k).xs) j).len), .int .i64 ((nth ((nth rows k).xs) j).wid), .int .i64 ((nth ((nth rows k).xs) j).mass)] := B135
        refine t_nil' (hK126 _ _ (c_region ?_))
        have B137 := ((I118.keep u131 (fun h => h)).keep u134 (show ¬ (bk108 = bk128) by first | omega | assumption))
        refine t_loadN (vs := [.int .i64 r.long, .int .i64 r.wide, .int .i64 r.mass]) Try.isAgg138 Try.sizeOf138 rfl rfl rfl (B137.at.sub 0 3) rfl (t_loadN (vs := [.int .i64 ((nth ((nth rows k).xs) j).len), .int .i64 ((nth ((nth rows k).xs) j).wid), .int .i64 ((nth ((nth rows k).xs) j).mass)]) Try.isAgg23 Try.sizeOf23 rfl rfl rfl (B135.at.sub 0 3) rfl (t_call (vs := [.agg #[.int .i64 r.long, .int .i64 r.wide, .int .i64 r.mass], .agg #[.int .i64 ((nth ((nth rows k).xs) j).len), .int .i64 ((nth ((nth rows k).xs) j).wid), .int .i64 ((nth ((nth rows k).xs) j).mass)]]) own75 rfl rfl rfl rfl (rowAdd_c r (nth ((nth rows k).xs) j) _ (by omega) (by omega) (by omega) (by omega)) (fun v138 w139 r141 => ?_)))
        obtain ⟨rfl, u140⟩ := r141
        have zu140 := u140.size
        have B143 := (B137.keep u140 (fun h => h))
        refine t_store (vs := [.int .i64 (max r.long (nth ((nth rows k).xs) j).len), .int .i64 (r.wide + (nth ((nth rows k).xs) j).wid), .int .i64 (r.mass + (nth ((nth rows k).xs) j).mass)]) Try.sizeOf138 rfl rfl rfl B143 rfl rfl (Nat.le_of_ble_eq_true rfl) (by simp [Value.oneCell']) (fun w144 sw144 B146 u145 => ?_)
        have zu145 := u145.size
        have B146 : Blk w144 bk108 138 [.int .i64 (max r.long (nth ((nth rows k).xs) j).len), .int .i64 (r.wide + (nth ((nth rows k).xs) j).wid), .int .i64 (r.mass + (nth ((nth rows k).xs) j).mass)] := B146
        refine t_nil' (hK125 _ _ (c_region (t_ari rfl rfl rfl rfl rfl (by omega) (t_move rfl rfl rfl (t_nil' ?_)))))
        exact hK115 (j + 1, ⟨(max r.long (nth ((nth rows k).xs) j).len), (r.wide + (nth ((nth rows k).xs) j).wid), (r.mass + (nth ((nth rows k).xs) j).mass)⟩) _ _ (by show ((nth rows k).xs).length - (j + 1) < ((nth rows k).xs).length - j; omega) ⟨rfl, rfl, rfl, rfl, rfl, rfl, rfl, rfl, rfl, rfl, trivial⟩ ⟨((((u117.next u131 (fun _ _ h => h.elim)).next u134 (fun i hi (h : i = bk128) => show i = bk108 by first | omega | assumption)).next u140 (fun _ _ h => h.elim)).next u145 (fun i hi (h : i = bk108) => show i = bk108 by first | omega | assumption)), B146, (by omega), (by rw [rowTo_succ (by omega), ← hr]; rfl), (by show (0 ≤ (max r.long (nth ((nth rows k).xs) j).len) ∧ (max r.long (nth ((nth rows k).xs) j).len) ≤ 200) ∧ (0 ≤ (r.wide + (nth ((nth rows k).xs) j).wid) ∧ (r.wide + (nth ((nth rows k).xs) j).wid) ≤ 30 * (j + 1)) ∧ (0 ≤ (r.mass + (nth ((nth rows k).xs) j).mass) ∧ (r.mass + (nth ((nth rows k).xs) j).mass) ≤ 10000 * (j + 1)); omega)⟩
       ·
        have hrow : rowOf (nth rows k).xs = r := by rw [hr, List.take_of_length_le (by omega)]
        refine c_exit (hK113 _ _ ?_)
        have B148 := (((((I67.keep u83 (fun h => h)).keep u87 (fun h => h)).keep u98 (fun h => h)).keep u111 (fun h => h)).keep u117 (show ¬ (bk14 = bk108) by first | omega | assumption))
        refine WC.weak [(2, .pointer (some ⟨bk7, 0, none⟩)), (4, .pointer (some ⟨bk14, 0, none⟩)), (6, .slice ((nth rows k).ao) (((nth rows k).xs).length) ((nth rows k).cap)), (7, .pointer (some ⟨bk108, 0, none⟩)), (39, .slice ao rows.length cap), (40, .int .i64 (rows.length : Int)), (41, .int .i64 (k : Int))] ⟨rfl, rfl, rfl, rfl, rfl, rfl, rfl, trivial⟩ (c_drawn followsS 28 [some (65, some (.pointer (some ⟨bk14, 0, none⟩))), some (66, some (.int .i64 z.len)), some (67, some (.pointer (some ⟨bk108, 0, none⟩))), some (68, some (.int .i64 r.long)), some (69, some (.int .i64 (z.len + r.long))), some (70, some (.pointer (some ⟨bk14, 1, none⟩))), some (71, some (.int .i64 z.wid)), some (72, some (.pointer (some ⟨bk108, 1, none⟩))), some (73, some (.int .i64 r.wide)), some (74, some (.int .i64 (max z.wid r.wide))), some (75, some (.pointer (some ⟨bk14, 2, none⟩))), some (76, some (.int .i64 z.mass)), some (77, some (.pointer (some ⟨bk108, 2, none⟩))), some (78, some (.int .i64 r.mass)), some (79, some (.int .i64 (z.mass + r.mass))), some (80, some (.pointer (some ⟨bk14, 3, none⟩))), some (81, some (.int .i64 z.hulls)), some (82, some (.slice ((nth rows k).ao) (((nth rows k).xs).length) ((nth rows k).cap))), some (83, some (.int .i64 (((nth rows k).xs).length : Int))), some (84, some (.int .i64 (z.hulls + (((nth rows k).xs).length : Int)))), some (85, some (.pointer (some ⟨bk14, 0, none⟩))), none, some (86, some (.pointer (some ⟨bk14, 1, none⟩))), none, some (87, some (.pointer (some ⟨bk14, 2, none⟩))), none, some (88, some (.pointer (some ⟨bk14, 3, none⟩))), none] [[],[0],[],[2],[1,3],[],[5],[],[7],[6,8],[],[10],[],[12],[11,13],[],[15],[],[17],[16,18],[0,1,2,3,4,5,6,10,11,15,16],[20,4,0,1,2,3,4,5,6,10,11,15,16],[0,1,2,3,4,5,6,7,8,9,10,11,15,16,20,21],[22,9,21,0,1,2,3,4,5,6,7,8,9,10,11,15,16,20,21],[0,1,2,3,4,5,6,7,8,9,10,11,12,13,14,15,16,20,21,22,23],[24,14,23,0,1,2,3,4,5,6,7,8,9,10,11,12,13,14,15,16,20,21,22,23],[0,1,2,3,4,5,6,7,8,9,10,11,12,13,14,15,16,17,18,19,20,21,22,23,24,25],[26,19,25,0,1,2,3,4,5,6,7,8,9,10,11,12,13,14,15,16,17,18,19,20,21,22,23,24,25]] (fun D _ w => Upd (fun i => i = bk14) w116 w ∧ Blk w bk14 66 [(bif D 21 then .int .i64 (z.len + r.long) else .int .i64 z.len), (bif D 23 then .int .i64 (max z.wid r.wide) else .int .i64 z.wid), (bif D 25 then .int .i64 (z.mass + r.mass) else .int .i64 z.mass), (bif D 27 then .int .i64 (z.hulls + (((nth rows k).xs).length : Int)) else .int .i64 z.hulls)]) rfl rfl rfl (by kernel_rfl) (by kernel_rfl) ⟨(Upd.drew _).to, (B148.keep (Upd.drew _) (fun h => h))⟩ ⟨?_, ?_, ?_, ?_, ?_, ?_, ?_, ?_, ?_, ?_, ?_, ?_, ?_, ?_, ?_, ?_, ?_, ?_, ?_, ?_, ?_, ?_, ?_, ?_, ?_, ?_, ?_, ?_, trivial⟩ ?_)
        · exact pzf Try.underlying66 rfl Try.sizeOf3 (0) rfl rfl rfl rfl rfl fun _ _ _ h => h
        ·
         intro D ρ w149 hcD hnD hdD hW
         obtain ⟨u150, B151⟩ := hW
         have zu150 := u150.size
         have d21 := hcD.late 21 hnD rfl
         have d23 := hcD.late 23 hnD rfl
         have d25 := hcD.late 25 hnD rfl
         have d27 := hcD.late 27 hnD rfl
         have B153 := B151
         simp only [d21, d23, d25, d27, cond_false] at B153
         refine ⟨_, kf_fr [65], fun Lr => ?_⟩
         refine t_load Try.isAgg3 rfl rfl rfl (B153.get rfl) ?_
         exact dz rfl ⟨u150, B151⟩
        · exact pzf Try.underlying138 rfl Try.sizeOf3 (0) rfl rfl rfl rfl rfl fun _ _ _ h => h
        ·
         intro D ρ w154 hcD hnD hdD hW
         obtain ⟨u155, B156⟩ := hW
         have zu155 := u155.size
         have d21 := hcD.late 21 hnD rfl
         have d23 := hcD.late 23 hnD rfl
         have d25 := hcD.late 25 hnD rfl
         have d27 := hcD.late 27 hnD rfl
         have B158 := B156
         simp only [d21, d23, d25, d27, cond_false] at B158
         refine ⟨_, kf_fr [67], fun Lr => ?_⟩
         have B159 := (I118.keep u155 (show ¬ (bk108 = bk14) by first | omega | assumption))
         refine t_load Try.isAgg3 rfl rfl rfl (B159.get rfl) ?_
         exact dz rfl ⟨u155, B156⟩
        ·
         intro D ρ w160 hcD hnD hdD hW
         obtain ⟨u161, B162⟩ := hW
         have zu161 := u161.size
         have d21 := hcD.late 21 hnD rfl
         have d23 := hcD.late 23 hnD rfl
         have d25 := hcD.late 25 hnD rfl
         have d27 := hcD.late 27 hnD rfl
         have B164 := B162
         simp only [d21, d23, d25, d27, cond_false] at B164
         refine ⟨_, kf_fr [66, 68], fun Lr => ?_⟩
         refine t_ari rfl rfl rfl rfl rfl (by omega) ?_
         exact dz rfl ⟨u161, B162⟩
        · exact pzf Try.underlying66 rfl Try.sizeOf3 (1) rfl rfl rfl rfl rfl fun _ _ _ h => h
        ·
         intro D ρ w165 hcD hnD hdD hW
         obtain ⟨u166, B167⟩ := hW
         have zu166 := u166.size
         have d21 := hcD.late 21 hnD rfl
         have d23 := hcD.late 23 hnD rfl
         have d25 := hcD.late 25 hnD rfl
         have d27 := hcD.late 27 hnD rfl
         have B169 := B167
         simp only [d21, d23, d25, d27, cond_false] at B169
         refine ⟨_, kf_fr [70], fun Lr => ?_⟩
         refine t_load Try.isAgg3 rfl rfl rfl (B169.get rfl) ?_
         exact dz rfl ⟨u166, B167⟩
        · exact pzf Try.underlying138 rfl Try.sizeOf3 (1) rfl rfl rfl rfl rfl fun _ _ _ h => h
        ·
         intro D ρ w170 hcD hnD hdD hW
         obtain ⟨u171, B172⟩ := hW
         have zu171 := u171.size
         have d23 := hcD.late 23 hnD rfl
         have d25 := hcD.late 25 hnD rfl
         have d27 := hcD.late 27 hnD rfl
         have B174 := B172
         simp only [d23, d25, d27, cond_false] at B174
         refine ⟨_, kf_fr [72], fun Lr => ?_⟩
         have B175 := (I118.keep u171 (show ¬ (bk108 = bk14) by first | omega | assumption))
         refine t_load Try.isAgg3 rfl rfl rfl (B175.get rfl) ?_
         exact dz rfl ⟨u171, B172⟩
        ·
         intro D ρ w176 hcD hnD hdD hW
         obtain ⟨u177, B178⟩ := hW
         have zu177 := u177.size
         have d23 := hcD.late 23 hnD rfl
         have d25 := hcD.late 25 hnD rfl
         have d27 := hcD.late 27 hnD rfl
         have B180 := B178
         simp only [d23, d25, d27, cond_false] at B180
         refine ⟨_, kf_fr [71, 73], fun Lr => ?_⟩
         refine t_max rfl rfl rfl rfl ?_
         exact dz rfl ⟨u177, B178⟩
        · exact pzf Try.underlying66 rfl Try.sizeOf3 (2) rfl rfl rfl rfl rfl fun _ _ _ h => h
        ·
         intro D ρ w181 hcD hnD hdD hW
         obtain ⟨u182, B183⟩ := hW
         have zu182 := u182.size
         have d21 := hcD.late 21 hnD rfl
         have d23 := hcD.late 23 hnD rfl
         have d25 := hcD.late 25 hnD rfl
         have d27 := hcD.late 27 hnD rfl
         have B185 := B183
         simp only [d21, d23, d25, d27, cond_false] at B185
         refine ⟨_, kf_fr [75], fun Lr => ?_⟩
         refine t_load Try.isAgg3 rfl rfl rfl (B185.get rfl) ?_
         exact dz rfl ⟨u182, B183⟩
        · exact pzf Try.underlying138 rfl Try.sizeOf3 (2) rfl rfl rfl rfl rfl fun _ _ _ h => h
        ·
         intro D ρ w186 hcD hnD hdD hW
         obtain ⟨u187, B188⟩ := hW
         have zu187 := u187.size
         have d25 := hcD.late 25 hnD rfl
         have d27 := hcD.late 27 hnD rfl
         have B190 := B188
         simp only [d25, d27, cond_false] at B190
         refine ⟨_, kf_fr [77], fun Lr => ?_⟩
         have B191 := (I118.keep u187 (show ¬ (bk108 = bk14) by first | omega | assumption))
         refine t_load Try.isAgg3 rfl rfl rfl (B191.get rfl) ?_
         exact dz rfl ⟨u187, B188⟩
        ·
         intro D ρ w192 hcD hnD hdD hW
         obtain ⟨u193, B194⟩ := hW
         have zu193 := u193.size
         have d25 := hcD.late 25 hnD rfl
         have d27 := hcD.late 27 hnD rfl
         have B196 := B194
         simp only [d25, d27, cond_false] at B196
         refine ⟨_, kf_fr [76, 78], fun Lr => ?_⟩
         refine t_ari rfl rfl rfl rfl rfl (by omega) ?_
         exact dz rfl ⟨u193, B194⟩
        · exact pzf Try.underlying66 rfl Try.sizeOf3 (3) rfl rfl rfl rfl rfl fun _ _ _ h => h
        ·
         intro D ρ w197 hcD hnD hdD hW
         obtain ⟨u198, B199⟩ := hW
         have zu198 := u198.size
         have d21 := hcD.late 21 hnD rfl
         have d23 := hcD.late 23 hnD rfl
         have d25 := hcD.late 25 hnD rfl
         have d27 := hcD.late 27 hnD rfl
         have B201 := B199
         simp only [d21, d23, d25, d27, cond_false] at B201
         refine ⟨_, kf_fr [80], fun Lr => ?_⟩
         refine t_load Try.isAgg3 rfl rfl rfl (B201.get rfl) ?_
         exact dz rfl ⟨u198, B199⟩
        · exact pz rfl rfl rfl rfl fun _ _ _ h => h
        ·
         intro D ρ w202 hcD hnD hdD hW
         obtain ⟨u203, B204⟩ := hW
         have zu203 := u203.size
         have d27 := hcD.late 27 hnD rfl
         have B206 := B204
         simp only [d27, cond_false] at B206
         refine ⟨_, kf_fr [82], fun Lr => ?_⟩
         refine t_len Try.underlying24 rfl rfl rfl rfl ?_
         exact dz rfl ⟨u203, B204⟩
        ·
         intro D ρ w207 hcD hnD hdD hW
         obtain ⟨u208, B209⟩ := hW
         have zu208 := u208.size
         have d27 := hcD.late 27 hnD rfl
         have B211 := B209
         simp only [d27, cond_false] at B211
         refine ⟨_, kf_fr [81, 83], fun Lr => ?_⟩
         refine t_ari rfl rfl rfl rfl rfl (by omega) ?_
         exact dz rfl ⟨u208, B209⟩
        · exact pzf Try.underlying66 rfl Try.sizeOf3 (0) rfl rfl rfl rfl rfl fun _ _ _ h => h
        ·
         intro D ρ w212 hcD hnD hdD hW
         obtain ⟨u213, B214⟩ := hW
         have zu213 := u213.size
         have d23 := hcD.late 23 hnD rfl
         have d25 := hcD.late 25 hnD rfl
         have d27 := hcD.late 27 hnD rfl
         have B216 := B214
         simp only [hnD, d23, d25, d27, cond_false] at B216
         refine ⟨_, kf_fr [69, 85], fun Lr => ?_⟩
         refine t_store (vs := [.int .i64 (z.len + r.long)]) Try.sizeOf3 rfl rfl rfl B216 rfl rfl (Nat.le_of_ble_eq_true rfl) (by simp [Value.oneCell']) (fun w217 sw217 B219 u218 => ?_)
         have zu218 := u218.size
         have B219 : Blk w217 bk14 66 [.int .i64 (z.len + r.long), .int .i64 z.wid, .int .i64 z.mass, .int .i64 z.hulls] := B219
         exact dz0 rfl ⟨(u213.next u218 (fun i hi (h : i = bk14) => show i = bk14 by first | omega | assumption)), (by show Blk w217 bk14 66 [.int .i64 (z.len + r.long), (bif D 23 then .int .i64 (max z.wid r.wide) else .int .i64 z.wid), (bif D 25 then .int .i64 (z.mass + r.mass) else .int .i64 z.mass), (bif D 27 then .int .i64 (z.hulls + (((nth rows k).xs).length : Int)) else .int .i64 z.hulls)]; simp only [d23, d25, d27, cond_false]; exact B219)⟩
        · exact pzf Try.underlying66 rfl Try.sizeOf3 (1) rfl rfl rfl rfl rfl fun _ _ _ h => h
        ·
         intro D ρ w221 hcD hnD hdD hW
         obtain ⟨u222, B223⟩ := hW
         have zu222 := u222.size
         have d21 := hdD 21 rfl
         have d25 := hcD.late 25 hnD rfl
         have d27 := hcD.late 27 hnD rfl
         have B225 := B223
         simp only [d21, hnD, d25, d27, cond_true, cond_false] at B225
         refine ⟨_, kf_fr [74, 86], fun Lr => ?_⟩
         refine t_store (vs := [.int .i64 (max z.wid r.wide)]) Try.sizeOf3 rfl rfl rfl B225 rfl rfl (Nat.le_of_ble_eq_true rfl) (by simp [Value.oneCell']) (fun w226 sw226 B228 u227 => ?_)
         have zu227 := u227.size
         have B228 : Blk w226 bk14 66 [.int .i64 (z.len + r.long), .int .i64 (max z.wid r.wide), .int .i64 z.mass, .int .i64 z.hulls] := B228
         exact dz0 rfl ⟨(u222.next u227 (fun i hi (h : i = bk14) => show i = bk14 by first | omega | assumption)), (by show Blk w226 bk14 66 [(bif D 21 then .int .i64 (z.len + r.long) else .int .i64 z.len), .int .i64 (max z.wid r.wide), (bif D 25 then .int .i64 (z.mass + r.mass) else .int .i64 z.mass), (bif D 27 then .int .i64 (z.hulls + (((nth rows k).xs).length : Int)) else .int .i64 z.hulls)]; simp only [d21, d25, d27, cond_true, cond_false]; exact B228)⟩
        · exact pzf Try.underlying66 rfl Try.sizeOf3 (2) rfl rfl rfl rfl rfl fun _ _ _ h => h
        ·
         intro D ρ w230 hcD hnD hdD hW
         obtain ⟨u231, B232⟩ := hW
         have zu231 := u231.size
         have d21 := hdD 21 rfl
         have d23 := hdD 23 rfl
         have d27 := hcD.late 27 hnD rfl
         have B234 := B232
         simp only [d21, d23, hnD, d27, cond_true, cond_false] at B234
         refine ⟨_, kf_fr [79, 87], fun Lr => ?_⟩
         refine t_store (vs := [.int .i64 (z.mass + r.mass)]) Try.sizeOf3 rfl rfl rfl B234 rfl rfl (Nat.le_of_ble_eq_true rfl) (by simp [Value.oneCell']) (fun w235 sw235 B237 u236 => ?_)
         have zu236 := u236.size
         have B237 : Blk w235 bk14 66 [.int .i64 (z.len + r.long), .int .i64 (max z.wid r.wide), .int .i64 (z.mass + r.mass), .int .i64 z.hulls] := B237
         exact dz0 rfl ⟨(u231.next u236 (fun i hi (h : i = bk14) => show i = bk14 by first | omega | assumption)), (by show Blk w235 bk14 66 [(bif D 21 then .int .i64 (z.len + r.long) else .int .i64 z.len), (bif D 23 then .int .i64 (max z.wid r.wide) else .int .i64 z.wid), .int .i64 (z.mass + r.mass), (bif D 27 then .int .i64 (z.hulls + (((nth rows k).xs).length : Int)) else .int .i64 z.hulls)]; simp only [d21, d23, d27, cond_true, cond_false]; exact B237)⟩
        · exact pzf Try.underlying66 rfl Try.sizeOf3 (3) rfl rfl rfl rfl rfl fun _ _ _ h => h
        ·
         intro D ρ w239 hcD hnD hdD hW
         obtain ⟨u240, B241⟩ := hW
         have zu240 := u240.size
         have d21 := hdD 21 rfl
         have d23 := hdD 23 rfl
         have d25 := hdD 25 rfl
         have B243 := B241
         simp only [d21, d23, d25, hnD, cond_true, cond_false] at B243
         refine ⟨_, kf_fr [84, 88], fun Lr => ?_⟩
         refine t_store (vs := [.int .i64 (z.hulls + (((nth rows k).xs).length : Int))]) Try.sizeOf3 rfl rfl rfl B243 rfl rfl (Nat.le_of_ble_eq_true rfl) (by simp [Value.oneCell']) (fun w244 sw244 B246 u245 => ?_)
         have zu245 := u245.size
         have B246 : Blk w244 bk14 66 [.int .i64 (z.len + r.long), .int .i64 (max z.wid r.wide), .int .i64 (z.mass + r.mass), .int .i64 (z.hulls + (((nth rows k).xs).length : Int))] := B246
         exact dz0 rfl ⟨(u240.next u245 (fun i hi (h : i = bk14) => show i = bk14 by first | omega | assumption)), (by show Blk w244 bk14 66 [(bif D 21 then .int .i64 (z.len + r.long) else .int .i64 z.len), (bif D 23 then .int .i64 (max z.wid r.wide) else .int .i64 z.wid), (bif D 25 then .int .i64 (z.mass + r.mass) else .int .i64 z.mass), .int .i64 (z.hulls + (((nth rows k).xs).length : Int))]; simp only [d21, d23, d25, cond_true]; exact B246)⟩
        intro ρ w248 hW
        obtain ⟨u249, B250⟩ := hW
        have zu249 := u249.size
        have B250 : Blk w248 bk14 66 [.int .i64 (z.len + r.long), .int .i64 (max z.wid r.wide), .int .i64 (z.mass + r.mass), .int .i64 (z.hulls + (((nth rows k).xs).length : Int))] := B250
        refine QK.weak [(2, .pointer (some ⟨bk7, 0, none⟩)), (4, .pointer (some ⟨bk14, 0, none⟩)), (39, .slice ao rows.length cap), (40, .int .i64 (rows.length : Int)), (41, .int .i64 (k : Int))] ⟨rfl, rfl, rfl, rfl, rfl, trivial⟩ (hK75 _ _ (c_region (t_ari rfl rfl rfl rfl rfl (by omega) (t_move rfl rfl rfl (t_nil' ?_)))))
        exact hK64 (k + 1, ⟨(z.len + r.long), (max z.wid r.wide), (z.mass + r.mass), (z.hulls + (((nth rows k).xs).length : Int))⟩) _ _ (by show rows.length - (k + 1) < rows.length - k; omega) ⟨rfl, rfl, rfl, rfl, rfl, trivial⟩ ⟨((((((u66.next u83 (fun _ _ h => h.elim)).next u87 (fun _ _ h => h.elim)).next u98 (fun _ _ h => h.elim)).next u111 (fun _ _ h => h.elim)).next u117 (fun i hi (h : i = bk108) => show i = bk14 by first | omega | assumption)).next u249 (fun i hi (h : i = bk14) => show i = bk14 by first | omega | assumption)), B250, (by omega), (by rw [sizeTo_succ (by omega), ← hz]; simp only [addRow, hrow]), (all_snoc (by omega) hall hrk), (by show (0 ≤ (z.len + r.long) ∧ (z.len + r.long) ≤ 200 + 200 * (k + 1)) ∧ (0 ≤ (max z.wid r.wide) ∧ (max z.wid r.wide) ≤ 200) ∧ (0 ≤ (z.mass + r.mass) ∧ (z.mass + r.mass) ≤ 10000 + 40000 * (k + 1)) ∧ (0 ≤ (z.hulls + (((nth rows k).xs).length : Int)) ∧ (z.hulls + (((nth rows k).xs).length : Int)) ≤ 4 * (k + 1)); omega)⟩
    ·
     refine c_exit (hK61 _ _ (c_seq fun K252 hK252 => (c_seq fun K253 hK253 => (c_region (t_field Try.underlying66 rfl Try.sizeOf3 (3) rfl rfl rfl rfl (t_load Try.isAgg3 rfl rfl rfl (I67.get rfl) (t_cmp rfl rfl rfl rfl rfl (t_nil' (hK253 _ _ (c_condp rfl (fun g92 => ?_) (fun g92 => ?_)))))))))))
     ·
      refine c_seq fun K254 hK254 => (c_region ?_)
      have B255 := ((((((B9.keep u17 (fun h => h)).keep u20 (show ¬ (bk7 = bk14) by first | omega | assumption)).keep u28 (fun h => h)).keep u41 (fun h => h)).keep u45 (fun h => h)).keep u66 (show ¬ (bk7 = bk14) by first | omega | assumption))
      refine t_loadN (vs := [.int .i64 0, .int .i64 0, .int .i64 0, .int .i64 0]) Try.isAgg66 Try.sizeOf66 rfl rfl rfl (B255.at.sub 0 4) rfl (t_store (vs := [.int .i64 0, .int .i64 0, .int .i64 0, .int .i64 0]) Try.sizeOf66 rfl rfl rfl B255 rfl rfl (Nat.le_of_ble_eq_true rfl) (by simp [Value.oneCell']) (fun w256 sw256 B258 u257 => ?_))
      have zu257 := u257.size
      have E259 := E72.next u257 (fun i hi (h : i = bk7) => show False by first | omega | assumption)
      have B258 : Blk w256 bk7 66 [.int .i64 0, .int .i64 0, .int .i64 0, .int .i64 0] := B258
      refine t_assign rfl rfl rfl (t_nil' (hK254 _ _ (c_ret (f_ret2 (v1 := .agg #[.int .i64 0, .int .i64 0, .int .i64 0, .int .i64 0]) (v2 := .int .i64 2) Try.results37 ⟨_, _, rfl, run_loadVarN (vs := [.int .i64 0, .int .i64 0, .int .i64 0, .int .i64 0]) Try.isAgg66 Try.sizeOf66 rfl (B258.at.sub 0 4)⟩ rfl ?_))))
      have hbad : okTow boat power (rows.map (·.xs)) = false := by simp only [okTow, ← sizeTo_all (show rows.length ≤ k by omega), ← hz, decide_eq_false (show ¬ (z.hulls ≤ 30) by omega)]; simp
      exact ⟨by rw [(mea_bad hbad).1, (mea_bad hbad).2], E259⟩
     ·
      refine c_skip (hK252 _ _ (c_seq fun K260 hK260 => (c_region (t_loadN (vs := [.int .i64 z.len, .int .i64 z.wid, .int .i64 z.mass, .int .i64 z.hulls]) Try.isAgg66 Try.sizeOf66 rfl rfl rfl (I67.at.sub 0 4) rfl ?_))))
      have B261 := ((((((B9.keep u17 (fun h => h)).keep u20 (show ¬ (bk7 = bk14) by first | omega | assumption)).keep u28 (fun h => h)).keep u41 (fun h => h)).keep u45 (fun h => h)).keep u66 (show ¬ (bk7 = bk14) by first | omega | assumption))
      refine t_store (vs := [.int .i64 z.len, .int .i64 z.wid, .int .i64 z.mass, .int .i64 z.hulls]) Try.sizeOf66 rfl rfl rfl B261 rfl rfl (Nat.le_of_ble_eq_true rfl) (by simp [Value.oneCell']) (fun w262 sw262 B264 u263 => ?_)
      have zu263 := u263.size
      have E265 := E72.next u263 (fun i hi (h : i = bk7) => show False by first | omega | assumption)
      have B264 : Blk w262 bk7 66 [.int .i64 z.len, .int .i64 z.wid, .int .i64 z.mass, .int .i64 z.hulls] := B264
      refine t_assign rfl rfl rfl (t_nil' (hK260 _ _ (c_ret (f_ret2 (v1 := .agg #[.int .i64 z.len, .int .i64 z.wid, .int .i64 z.mass, .int .i64 z.hulls]) (v2 := .int .i64 0) Try.results37 ⟨_, _, rfl, run_loadVarN (vs := [.int .i64 z.len, .int .i64 z.wid, .int .i64 z.mass, .int .i64 z.hulls]) Try.isAgg66 Try.sizeOf66 rfl (B264.at.sub 0 4)⟩ rfl ?_))))
      have hok : okTow boat power (rows.map (·.xs)) = true := by simp only [okTow, hb0, decide_eq_true (Decidable.not_not.1 g31), List.length_map, decide_eq_true hb2, all_map_of (show rows.length ≤ k by omega) hall, ← sizeTo_all (show rows.length ≤ k by omega), ← hz, decide_eq_true (show z.hulls ≤ 30 by omega), Bool.and_self]
      exact ⟨by rw [(mea_ok hok).1, (mea_ok hok).2, ← sizeTo_all (show rows.length ≤ k by omega), ← hz], E265⟩

end Go.Proofs.Ytmicjleiheoieaa
