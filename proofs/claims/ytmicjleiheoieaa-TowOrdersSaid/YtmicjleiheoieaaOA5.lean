/-
  Contracts of Stop, Safe and sort.Search. Conditions: none.
-/
import Derived.Test.YtmicjleiheoieaaOA1
import Derived.Test.YtmicjleiheoieaaODraw
namespace Go.Proofs.Ytmicjleiheoieaa
open Go Go.RowKit
theorem followsS : Try.prog.follows .mixedOrders = true := by kernel_rfl
theorem mulr {a b A B : Int} (ha : 0 ≤ a ∧ a ≤ A) (hb : 0 ≤ b ∧ b ≤ B) : 0 ≤ a * b ∧ a * b ≤ A * B :=
  ⟨Int.mul_nonneg ha.1 hb.1, Int.mul_le_mul ha.2 hb.2 hb.1 (Int.le_trans ha.1 ha.2)⟩
theorem mull {a b A B : Int} (ha : A ≤ a) (hb : B ≤ b) (hA : 0 ≤ A) (hB : 0 ≤ B) : A * B ≤ a * b := Int.mul_le_mul ha hb hB (Int.le_trans hA ha)
def wayN (m p g s : Int) : Int := s * 4320 * p * g + m * 1000 * s * s
def wayD (p g : Int) : Int := 2592 * p * g
def mostV (m p g s : Int) : Int := (wayN m p g s + wayD p g - 1) / wayD p g
def okBrake (m p lo hi : Int) : Bool := decide ((0 ≤ m ∧ m ≤ 400000) ∧ (1 ≤ p ∧ p ≤ 20000) ∧ lo ≤ hi ∧ (1 ≤ lo ∧ lo ≤ 1000) ∧ (1 ≤ hi ∧ hi ≤ 1000))
structure RB (m p g s : Int) : Prop where
  m : 0 ≤ m ∧ m ≤ 400000
  p : 1 ≤ p ∧ p ≤ 20000
  g : 1 ≤ g ∧ g ≤ 1000
  s : 0 ≤ s ∧ s ≤ 500
theorem RB.wayD {m p g s : Int} (h : RB m p g s) : 2592 ≤ wayD p g ∧ wayD p g ≤ 51840000000 := by
  have h1 := mulr (a := 2592 * p) (A := 51840000) (b := g) (B := 1000) (by have := h.p; omega) (by have := h.g; omega)
  have h2 := mull (a := 2592 * p) (A := 2592) (b := g) (B := 1) (by have := h.p; omega) (by have := h.g; omega) (by decide) (by decide)
  unfold Proofs.Ytmicjleiheoieaa.wayD; omega
theorem RB.wayN {m p g s : Int} (h : RB m p g s) : 0 ≤ wayN m p g s ∧ wayN m p g s ≤ 1000000000000000 := by
  have h1 := mulr (a := s * 4320) (A := 2160000) (b := p) (B := 20000) (by have := h.s; omega) (by have := h.p; omega)
  have h2 := mulr (a := s * 4320 * p) (A := 43200000000) (b := g) (B := 1000) (by omega) (by have := h.g; omega)
  have h3 := mulr (a := m * 1000) (A := 400000000) (b := s) (B := 500) (by have := h.m; omega) (by have := h.s; omega)
  have h4 := mulr (a := m * 1000 * s) (A := 200000000000) (b := s) (B := 500) (by omega) (by have := h.s; omega)
  unfold Proofs.Ytmicjleiheoieaa.wayN; omega

theorem own46 : Own Try.prog 46 := ⟨Try.f46, Try.func46, by kernel_rfl, by kernel_rfl⟩
theorem own80 : Own Try.prog 80 := ⟨Try.f80, Try.func80, by kernel_rfl, by kernel_rfl⟩
theorem own81 : Own Try.prog 81 := ⟨Try.f81, Try.func81, by kernel_rfl, by kernel_rfl⟩
theorem own82 : Own Try.prog 82 := ⟨Try.f82, Try.func82, by kernel_rfl, by kernel_rfl⟩
theorem brakeOk_c (m p lo hi : Int) (w0 : World) :
    CallsV Try.prog 80 [.agg #[.int .i64 m, .int .i64 p, .int .i64 lo, .int .i64 hi]] w0 (fun v w' => v = .bool (okBrake m p lo hi) ∧ Ext w0 w') := by
 have E0 := Upd.refl (fun _ => False) w0
 refine f_enter (N := 18) Try.func80 rfl rfl rfl ?_
 change WC _ _ _ _ _ _ [(0, .agg #[.int .i64 m, .int .i64 p, .int .i64 lo, .int .i64 hi])] _
 refine c_seq fun K1 hK1 => (c_region (t_box (cs := [.int .i64 m, .int .i64 p, .int .i64 lo, .int .i64 hi]) rfl rfl rfl rfl (fun bk2 w3 ebk2 sbk2 B4 u5 => ?_)))
 have zu5 := u5.size
 have E6 := E0.next u5 (fun _ _ h => h.elim)
 refine t_assign rfl rfl rfl (t_nil' (hK1 _ _ (c_seq fun K7 hK7 => (c_region (t_field Try.underlying146 rfl Try.sizeOf3 (0) rfl rfl rfl rfl (t_load Try.isAgg3 rfl rfl rfl (B4.get rfl) (t_bslice (ps := [(0, .int .i64 m)]) (cs := [.int .i64 m]) (e := 3) rfl rfl ⟨rfl, rfl⟩ (fun w => by kernel_rfl) (fun bk8 w9 ebk8 sbk8 B10 u11 => ?_))))))))
 have zu11 := u11.size
 have E12 := E6.next u11 (fun _ _ h => h.elim)
 refine t_call (vs := [.int .i64 0, .int .i64 400000, .slice (some ⟨bk8, 0, none⟩) 1 1]) own58 rfl rfl rfl rfl (within1_v 0 400000 m _ _ _ B10) (fun v13 w14 r16 => ?_)
 obtain ⟨rfl, u15⟩ := r16
 have zu15 := u15.size
 have E17 := E12.next u15 (fun _ _ h => h.elim)
 refine t_move rfl rfl rfl (t_splitp 7 rfl (fun g7 => ?_) (fun g7 => ?_))
 ·
  refine t_field Try.underlying146 rfl Try.sizeOf3 (1) rfl rfl rfl rfl ?_
  have B18 := ((B4.keep u11 (fun h => h)).keep u15 (fun h => h))
  refine t_load Try.isAgg3 rfl rfl rfl (B18.get rfl) (t_bslice (ps := [(0, .int .i64 p)]) (cs := [.int .i64 p]) (e := 3) rfl rfl ⟨rfl, rfl⟩ (fun w => by kernel_rfl) (fun bk19 w20 ebk19 sbk19 B21 u22 => ?_))
  have zu22 := u22.size
  have E23 := E17.next u22 (fun _ _ h => h.elim)
  refine t_call (vs := [.int .i64 1, .int .i64 20000, .slice (some ⟨bk19, 0, none⟩) 1 1]) own58 rfl rfl rfl rfl (within1_v 1 20000 p _ _ _ B21) (fun v24 w25 r27 => ?_)
  obtain ⟨rfl, u26⟩ := r27
  have zu26 := u26.size
  have E28 := E23.next u26 (fun _ _ h => h.elim)
  refine t_pick_t rfl rfl rfl rfl (t_move rfl rfl rfl (t_splitp 13 rfl (fun g13 => ?_) (fun g13 => ?_)))
  ·
   refine t_field Try.underlying146 rfl Try.sizeOf45 (2) rfl rfl rfl rfl ?_
   have B29 := ((B18.keep u22 (fun h => h)).keep u26 (fun h => h))
   refine t_loadN (vs := [.int .i64 lo, .int .i64 hi]) Try.isAgg45 Try.sizeOf45 rfl rfl rfl (B29.at.sub 2 2) rfl (t_call (vs := [.int .i64 1, .int .i64 1000, .agg #[.int .i64 lo, .int .i64 hi]]) own66 rfl rfl rfl rfl (isValid_c 1 1000 lo hi _) (fun v30 w31 r33 => ?_))
   obtain ⟨rfl, u32⟩ := r33
   have zu32 := u32.size
   have E34 := E28.next u32 (fun _ _ h => h.elim)
   refine t_pick_t rfl rfl rfl rfl (t_assign rfl rfl rfl (t_nil' (hK7 _ _ (c_ret (f_ret1 (v := .bool (decide (lo ≤ hi ∧ (1 ≤ lo ∧ lo ≤ 1000) ∧ (1 ≤ hi ∧ hi ≤ 1000)))) Try.results80 rfl ?_)))))
   exact ⟨by simp [okBrake, *], E34⟩
  ·
   refine t_skip rfl rfl rfl (t_skip rfl rfl rfl (t_skip rfl rfl rfl (t_pick_f rfl rfl rfl rfl (t_assign rfl rfl rfl (t_nil' (hK7 _ _ (c_ret (f_ret1 (v := .bool false) Try.results80 rfl ?_))))))))
   exact ⟨by simp [okBrake, *], E28⟩
 ·
  refine t_skip rfl rfl rfl (t_skip rfl rfl rfl (t_skip rfl rfl rfl (t_skip rfl rfl rfl (t_pick_f rfl rfl rfl rfl (t_move rfl rfl rfl (t_skip rfl rfl rfl (t_skip rfl rfl rfl (t_skip rfl rfl rfl (t_pick_f rfl rfl rfl rfl (t_assign rfl rfl rfl (t_nil' (hK7 _ _ (c_ret (f_ret1 (v := .bool false) Try.results80 rfl ?_))))))))))))))
  exact ⟨by simp [okBrake, *], E17⟩

theorem way_c (m p lo hi s g : Int) (w0 : World) (h : RB m p g s) :
    CallsV Try.prog 81 [.agg #[.int .i64 m, .int .i64 p, .int .i64 lo, .int .i64 hi], .int .i64 s, .int .i64 g] w0 (fun v w' => v = .tuple #[.int .i64 (wayN m p g s), .int .i64 (wayD p g)] ∧ Ext w0 w') := by
 have q1 := h.m
 have q2 := h.p
 have q3 := h.g
 have q4 := h.s
 have h0 := mulr (a := 2592 * p) (A := 51840000) (b := g) (B := 1000) (by omega) (by omega)
 have h1 := mulr (a := s * 4320) (A := 2160000) (b := p) (B := 20000) (by omega) (by omega)
 have h2 := mulr (a := s * 4320 * p) (A := 43200000000) (b := g) (B := 1000) (by omega) (by omega)
 have h3 := mulr (a := m * 1000) (A := 400000000) (b := s) (B := 500) (by omega) (by omega)
 have h4 := mulr (a := m * 1000 * s) (A := 200000000000) (b := s) (B := 500) (by omega) (by omega)
 have E0 := Upd.refl (fun _ => False) w0
 refine f_enter (N := 29) Try.func81 rfl rfl rfl ?_
 change WC _ _ _ _ _ _ [(0, .agg #[.int .i64 m, .int .i64 p, .int .i64 lo, .int .i64 hi]), (1, .int .i64 s), (2, .int .i64 g)] _
 refine c_seq fun K1 hK1 => (c_region (t_box (cs := [.int .i64 m, .int .i64 p, .int .i64 lo, .int .i64 hi]) rfl rfl rfl rfl (fun bk2 w3 ebk2 sbk2 B4 u5 => ?_)))
 have zu5 := u5.size
 have E6 := E0.next u5 (fun _ _ h => h.elim)
 refine t_assign rfl rfl rfl (t_assign rfl rfl rfl (t_nil' (hK1 _ _ (c_seq fun K7 hK7 => (c_region (t_field Try.underlying146 rfl Try.sizeOf3 (1) rfl rfl rfl rfl (t_load Try.isAgg3 rfl rfl rfl (B4.get rfl) (t_ari rfl rfl rfl rfl rfl (by omega) (t_move rfl rfl rfl (t_ari rfl rfl rfl rfl rfl (by omega) (t_assign rfl rfl rfl (t_nil' (hK7 _ _ (c_seq fun K8 hK8 => (c_region (t_move rfl rfl rfl (t_ari rfl rfl rfl rfl rfl (by omega) (t_field Try.underlying146 rfl Try.sizeOf3 (1) rfl rfl rfl rfl (t_load Try.isAgg3 rfl rfl rfl (B4.get rfl) (t_ari rfl rfl rfl rfl rfl (by omega) (t_move rfl rfl rfl (t_ari rfl rfl rfl rfl rfl (by omega) (t_field Try.underlying146 rfl Try.sizeOf3 (0) rfl rfl rfl rfl ?_)))))))))))))))))))))))
 refine t_load Try.isAgg3 rfl rfl rfl (B4.get rfl) (t_ari rfl rfl rfl rfl rfl (by omega) (t_move rfl rfl rfl (t_ari rfl rfl rfl rfl rfl (by omega) (t_move rfl rfl rfl (t_ari rfl rfl rfl rfl rfl (by omega) (t_ari rfl rfl rfl rfl rfl (by omega) (t_move rfl rfl rfl (t_assign rfl rfl rfl (t_assign rfl rfl rfl (t_nil' (hK8 _ _ (c_ret (f_ret2 (v1 := .int .i64 ((((s * 4320) * p) * g) + (((m * 1000) * s) * s))) (v2 := .int .i64 ((2592 * p) * g)) Try.results81 rfl rfl ?_)))))))))))))
 exact ⟨rfl, E6⟩

theorem most_c (m p lo hi s : Int) (w0 : World) (h : RB m p lo s) :
    CallsV Try.prog 82 [.agg #[.int .i64 m, .int .i64 p, .int .i64 lo, .int .i64 hi], .int .i64 s] w0 (fun v w' => v = .int .i64 (mostV m p lo s) ∧ Ext w0 w') := by
 have h1 := h.wayN
 have h2 := h.wayD
 have E0 := Upd.refl (fun _ => False) w0
 refine f_enter (N := 22) Try.func82 rfl rfl rfl ?_
 change WC _ _ _ _ _ _ [(0, .agg #[.int .i64 m, .int .i64 p, .int .i64 lo, .int .i64 hi]), (1, .int .i64 s)] _
 refine c_seq fun K1 hK1 => (c_region (t_box (cs := [.int .i64 m, .int .i64 p, .int .i64 lo, .int .i64 hi]) rfl rfl rfl rfl (fun bk2 w3 ebk2 sbk2 B4 u5 => ?_)))
 have zu5 := u5.size
 have E6 := E0.next u5 (fun _ _ h => h.elim)
 refine t_assign rfl rfl rfl (t_nil' (hK1 _ _ (c_seq fun K7 hK7 => (c_region (t_loadN (vs := [.int .i64 m, .int .i64 p, .int .i64 lo, .int .i64 hi]) Try.isAgg146 Try.sizeOf146 rfl rfl rfl (B4.at.sub 0 4) rfl (t_move rfl rfl rfl (t_field Try.underlying146 rfl Try.sizeOf45 (2) rfl rfl rfl rfl (t_field Try.underlying45 rfl Try.sizeOf3 (2) rfl rfl rfl rfl (t_load Try.isAgg3 rfl rfl rfl (B4.get rfl) (t_call (vs := [.agg #[.int .i64 m, .int .i64 p, .int .i64 lo, .int .i64 hi], .int .i64 s, .int .i64 lo]) own81 rfl rfl rfl rfl (way_c m p lo hi s lo _ h) (fun v8 w9 r11 => ?_)))))))))))
 obtain ⟨rfl, u10⟩ := r11
 have zu10 := u10.size
 have E12 := E6.next u10 (fun _ _ h => h.elim)
 refine t_move rfl rfl rfl (t_extract (vs := [.int .i64 (wayN m p lo s), .int .i64 (wayD p lo)]) rfl rfl rfl rfl (t_extract (vs := [.int .i64 (wayN m p lo s), .int .i64 (wayD p lo)]) rfl rfl rfl rfl (t_assign rfl rfl rfl (t_assign rfl rfl rfl (t_nil' (hK7 _ _ (c_seq fun K13 hK13 => (c_region (t_move rfl rfl rfl (t_move rfl rfl rfl (t_ari rfl rfl rfl rfl rfl (by omega) (t_ari rfl rfl rfl rfl rfl (by omega) (t_move rfl rfl rfl (t_quo rfl rfl rfl rfl (by omega) (by omega) (t_assign rfl rfl rfl (t_nil' (hK13 _ _ (c_ret (f_ret1 (v := .int .i64 ((((wayN m p lo s) + (wayD p lo)) - 1) / (wayD p lo))) Try.results82 rfl ?_)))))))))))))))))))
 exact ⟨rfl, E12⟩

def okStop (m p lo hi s : Int) : Bool := okBrake m p lo hi && decide (0 ≤ s ∧ s ≤ 400)
theorem okBrake_rb {m p lo hi s : Int} (h : okBrake m p lo hi = true) (hs : 0 ≤ s ∧ s ≤ 500) : RB m p lo s ∧ RB m p hi s := by
  unfold okBrake at h; rw [decide_eq_true_eq] at h; exact ⟨⟨h.1, h.2.1, by omega, hs⟩, ⟨h.1, h.2.1, by omega, hs⟩⟩
def StopE (m p lo hi s : Int) : Int := if okStop m p lo hi s then 0 else 3
def StopB (m p lo hi s : Int) : Bnd := if okStop m p lo hi s then ⟨wayN m p hi s / wayD p hi, mostV m p lo s⟩ else ⟨0, 0⟩

theorem Stop_c (m p lo hi s : Int) (w0 : World) :
    CallsV Try.prog 46 [.int .i64 m, .int .i64 p, .agg #[.int .i64 lo, .int .i64 hi], .int .i64 s] w0 (fun v w' => v = .tuple #[.agg #[.int .i64 (StopB m p lo hi s).lo, .int .i64 (StopB m p lo hi s).hi], .int .i64 (StopE m p lo hi s)] ∧ Ext w0 w') := by
 have E0 := Upd.refl (fun _ => False) w0
 refine f_enter (N := 42) Try.func46 rfl rfl rfl ?_
 change WC _ _ _ _ _ _ [(0, .int .i64 m), (1, .int .i64 p), (2, .agg #[.int .i64 lo, .int .i64 hi]), (3, .int .i64 s)] _
 refine c_seq fun K1 hK1 => (c_region (t_box (cs := [.int .i64 lo, .int .i64 hi]) rfl rfl rfl rfl (fun bk2 w3 ebk2 sbk2 B4 u5 => ?_)))
 have zu5 := u5.size
 have E6 := E0.next u5 (fun _ _ h => h.elim)
 refine t_alloc (cs := [.int .i64 0, .int .i64 0]) Try.zeroValue45 rfl rfl rfl (fun bk7 w8 ebk7 sbk7 B9 u10 => ?_)
 have zu10 := u10.size
 have E11 := E6.next u10 (fun _ _ h => h.elim)
 refine t_assign rfl rfl rfl (t_nil' (hK1 _ _ (c_seq fun K12 hK12 => (c_region (t_move rfl rfl rfl (t_move rfl rfl rfl ?_))))))
 have B13 := (B4.keep u10 (fun h => h))
 refine t_loadN (vs := [.int .i64 lo, .int .i64 hi]) Try.isAgg45 Try.sizeOf45 rfl rfl rfl (B13.at.sub 0 2) rfl (t_build (ps := [(0, .int .i64 m), (1, .int .i64 p), (2, .agg #[.int .i64 lo, .int .i64 hi])]) (v := .agg #[.int .i64 m, .int .i64 p, .int .i64 lo, .int .i64 hi]) rfl rfl ⟨rfl, rfl⟩ (fun w => by kernel_rfl) (t_alloc (cs := [.int .i64 0, .int .i64 0, .int .i64 0, .int .i64 0]) Try.zeroValue146 rfl rfl rfl (fun bk14 w15 ebk14 sbk14 B16 u17 => ?_)))
 have zu17 := u17.size
 have E18 := E11.next u17 (fun _ _ h => h.elim)
 refine t_store (vs := [.int .i64 m, .int .i64 p, .int .i64 lo, .int .i64 hi]) Try.sizeOf146 rfl rfl rfl B16 rfl rfl (Nat.le_of_ble_eq_true rfl) (by simp [Value.oneCell']) (fun w19 sw19 B21 u20 => ?_)
 have zu20 := u20.size
 have E22 := E18.next u20 (fun i hi (h : i = bk14) => show False by first | omega | assumption)
 have B21 : Blk w19 bk14 146 [.int .i64 m, .int .i64 p, .int .i64 lo, .int .i64 hi] := B21
 refine t_nil' (hK12 _ _ (c_seq fun K23 hK23 => (c_seq fun K24 hK24 => (c_region (t_loadN (vs := [.int .i64 m, .int .i64 p, .int .i64 lo, .int .i64 hi]) Try.isAgg146 Try.sizeOf146 rfl rfl rfl (B21.at.sub 0 4) rfl (t_call (vs := [.agg #[.int .i64 m, .int .i64 p, .int .i64 lo, .int .i64 hi]]) own80 rfl rfl rfl rfl (brakeOk_c m p lo hi _) (fun v25 w26 r28 => ?_)))))))
 obtain ⟨rfl, u27⟩ := r28
 have zu27 := u27.size
 have E29 := E22.next u27 (fun _ _ h => h.elim)
 refine t_not rfl rfl rfl (t_move rfl rfl rfl (t_split 20 rfl (fun g20 => ?_) (fun g20 => ?_)))
 ·
  refine t_skip rfl rfl rfl (t_skip rfl rfl rfl (t_skip rfl rfl rfl (t_skip rfl rfl rfl (t_pick_t rfl rfl rfl rfl (t_nil' (hK24 _ _ (c_cond_t rfl (c_seq fun K30 hK30 => (c_region (t_build (ps := []) (v := .agg #[.int .i64 0, .int .i64 0]) rfl rfl ⟨rfl, rfl⟩ (fun w => by kernel_rfl) ?_))))))))))
  have B31 := (((B9.keep u17 (fun h => h)).keep u20 (show ¬ (bk7 = bk14) by first | omega | assumption)).keep u27 (fun h => h))
  refine t_store (vs := [.int .i64 0, .int .i64 0]) Try.sizeOf45 rfl rfl rfl B31 rfl rfl (Nat.le_of_ble_eq_true rfl) (by simp [Value.oneCell']) (fun w32 sw32 B34 u33 => ?_)
  have zu33 := u33.size
  have E35 := E29.next u33 (fun i hi (h : i = bk7) => show False by first | omega | assumption)
  have B34 : Blk w32 bk7 45 [.int .i64 0, .int .i64 0] := B34
  refine t_assign rfl rfl rfl (t_nil' (hK30 _ _ (c_ret (f_ret2 (v1 := .agg #[.int .i64 0, .int .i64 0]) (v2 := .int .i64 3) Try.results46 ⟨_, _, rfl, run_loadVarN (vs := [.int .i64 0, .int .i64 0]) Try.isAgg45 Try.sizeOf45 rfl (B34.at.sub 0 2)⟩ rfl ?_))))
  exact ⟨by simp_all [StopB, StopE, okStop], E35⟩
 ·
  refine t_move rfl rfl rfl (t_bslice (ps := [(0, .int .i64 s)]) (cs := [.int .i64 s]) (e := 3) rfl rfl ⟨rfl, rfl⟩ (fun w => by kernel_rfl) (fun bk36 w37 ebk36 sbk36 B38 u39 => ?_))
  have zu39 := u39.size
  have E40 := E29.next u39 (fun _ _ h => h.elim)
  refine t_call (vs := [.int .i64 0, .int .i64 400, .slice (some ⟨bk36, 0, none⟩) 1 1]) own58 rfl rfl rfl rfl (within1_v 0 400 s _ _ _ B38) (fun v41 w42 r44 => ?_)
  obtain ⟨rfl, u43⟩ := r44
  have zu43 := u43.size
  have E45 := E40.next u43 (fun _ _ h => h.elim)
  refine t_notp rfl rfl rfl (t_pick_f rfl rfl rfl rfl (t_nil' (hK24 _ _ (c_condp rfl (fun g25 => ?_) (fun g25 => ?_)))))
  ·
   refine c_seq fun K46 hK46 => (c_region (t_build (ps := []) (v := .agg #[.int .i64 0, .int .i64 0]) rfl rfl ⟨rfl, rfl⟩ (fun w => by kernel_rfl) ?_))
   have B47 := (((((B9.keep u17 (fun h => h)).keep u20 (show ¬ (bk7 = bk14) by first | omega | assumption)).keep u27 (fun h => h)).keep u39 (fun h => h)).keep u43 (fun h => h))
   refine t_store (vs := [.int .i64 0, .int .i64 0]) Try.sizeOf45 rfl rfl rfl B47 rfl rfl (Nat.le_of_ble_eq_true rfl) (by simp [Value.oneCell']) (fun w48 sw48 B50 u49 => ?_)
   have zu49 := u49.size
   have E51 := E45.next u49 (fun i hi (h : i = bk7) => show False by first | omega | assumption)
   have B50 : Blk w48 bk7 45 [.int .i64 0, .int .i64 0] := B50
   refine t_assign rfl rfl rfl (t_nil' (hK46 _ _ (c_ret (f_ret2 (v1 := .agg #[.int .i64 0, .int .i64 0]) (v2 := .int .i64 3) Try.results46 ⟨_, _, rfl, run_loadVarN (vs := [.int .i64 0, .int .i64 0]) Try.isAgg45 Try.sizeOf45 rfl (B50.at.sub 0 2)⟩ rfl ?_))))
   exact ⟨by simp only [StopB, StopE, okStop, decide_eq_false g25]; simp, E51⟩
  ·
   refine c_skip (hK23 _ _ (c_seq fun K52 hK52 => (c_region ?_)))
   have hb : okBrake m p lo hi = true := by simpa using g20
   obtain ⟨r1, r2⟩ := okBrake_rb (s := s) hb (by omega)
   have h1 := r2.wayN
   have h2 := r2.wayD
   have B53 := (((B21.keep u27 (fun h => h)).keep u39 (fun h => h)).keep u43 (fun h => h))
   refine t_loadN (vs := [.int .i64 m, .int .i64 p, .int .i64 lo, .int .i64 hi]) Try.isAgg146 Try.sizeOf146 rfl rfl rfl (B53.at.sub 0 4) rfl (t_move rfl rfl rfl (t_field Try.underlying45 rfl Try.sizeOf3 (1) rfl rfl rfl rfl ?_))
   have B54 := (((((B13.keep u17 (fun h => h)).keep u20 (show ¬ (bk2 = bk14) by first | omega | assumption)).keep u27 (fun h => h)).keep u39 (fun h => h)).keep u43 (fun h => h))
   refine t_load Try.isAgg3 rfl rfl rfl (B54.get rfl) (t_call (vs := [.agg #[.int .i64 m, .int .i64 p, .int .i64 lo, .int .i64 hi], .int .i64 s, .int .i64 hi]) own81 rfl rfl rfl rfl (way_c m p lo hi s hi _ r2) (fun v55 w56 r58 => ?_))
   obtain ⟨rfl, u57⟩ := r58
   have zu57 := u57.size
   have E59 := E45.next u57 (fun _ _ h => h.elim)
   refine t_move rfl rfl rfl (t_extract (vs := [.int .i64 (wayN m p hi s), .int .i64 (wayD p hi)]) rfl rfl rfl rfl (t_extract (vs := [.int .i64 (wayN m p hi s), .int .i64 (wayD p hi)]) rfl rfl rfl rfl (t_assign rfl rfl rfl (t_assign rfl rfl rfl (t_nil' (hK52 _ _ (c_seq fun K60 hK60 => ?_)))))))
   have B61 := ((((((B9.keep u17 (fun h => h)).keep u20 (show ¬ (bk7 = bk14) by first | omega | assumption)).keep u27 (fun h => h)).keep u39 (fun h => h)).keep u43 (fun h => h)).keep u57 (fun h => h))
   have B62 := (B53.keep u57 (fun h => h))
   refine WC.weak [(3, .int .i64 s), (8, .pointer (some ⟨bk7, 0, none⟩)), (10, .pointer (some ⟨bk14, 0, none⟩)), (11, .int .i64 (wayN m p hi s)), (12, .int .i64 (wayD p hi))] ⟨rfl, rfl, rfl, rfl, rfl, trivial⟩ (c_drawn followsS 9 [some (35, some (.int .i64 (wayN m p hi s))), some (36, some (.int .i64 (wayD p hi))), some (37, some (.int .i64 ((wayN m p hi s) / (wayD p hi)))), some (38, some (.agg #[.int .i64 m, .int .i64 p, .int .i64 lo, .int .i64 hi])), some (39, some (.int .i64 s)), some (40, some (.int .i64 (mostV m p lo s))), some (41, some (.agg #[.int .i64 ((wayN m p hi s) / (wayD p hi)), .int .i64 (mostV m p lo s)])), none, some (9, some (.int .i64 0))] [[],[],[0,1],[],[],[3,4],[2,5],[6,5,0,1,2,3,4,5,6],[7,0,1,2,3,4,5,6,7]] (fun D _ w => Upd (fun i => i = bk7) w56 w ∧ Blk w bk7 45 [(bif D 7 then .int .i64 ((wayN m p hi s) / (wayD p hi)) else .int .i64 0), (bif D 7 then .int .i64 (mostV m p lo s) else .int .i64 0)]) rfl rfl rfl (by kernel_rfl) (by kernel_rfl) ⟨(Upd.drew _).to, (B61.keep (Upd.drew _) (fun h => h))⟩ ⟨?_, ?_, ?_, ?_, ?_, ?_, ?_, ?_, ?_, trivial⟩ ?_)
   · exact pz rfl rfl rfl rfl fun _ _ _ h => h
   · exact pz rfl rfl rfl rfl fun _ _ _ h => h
   ·
    intro D ρ w68 hcD hnD hdD hW
    obtain ⟨u69, B70⟩ := hW
    have zu69 := u69.size
    have d7 := hcD.late 7 hnD rfl
    have B72 := B70
    simp only [d7, cond_false] at B72
    refine ⟨_, kf_fr [35, 36], fun Lr => ?_⟩
    refine t_quo rfl rfl rfl rfl (by omega) (by omega) ?_
    exact dz rfl ⟨u69, B70⟩
   ·
    intro D ρ w73 hcD hnD hdD hW
    obtain ⟨u74, B75⟩ := hW
    have zu74 := u74.size
    have d7 := hcD.late 7 hnD rfl
    have B77 := B75
    simp only [d7, cond_false] at B77
    refine ⟨_, kf_fr [10], fun Lr => ?_⟩
    have B78 := (B62.keep u74 (show ¬ (bk14 = bk7) by first | omega | assumption))
    refine t_loadN (vs := [.int .i64 m, .int .i64 p, .int .i64 lo, .int .i64 hi]) Try.isAgg146 Try.sizeOf146 rfl rfl rfl (B78.at.sub 0 4) rfl ?_
    exact dz rfl ⟨u74, B75⟩
   · exact pz rfl rfl rfl rfl fun _ _ _ h => h
   ·
    intro D ρ w79 hcD hnD hdD hW
    obtain ⟨u80, B81⟩ := hW
    have zu80 := u80.size
    have d7 := hcD.late 7 hnD rfl
    have B83 := B81
    simp only [d7, cond_false] at B83
    refine ⟨_, kf_fr [38, 39], fun Lr => ?_⟩
    refine t_call (vs := [.agg #[.int .i64 m, .int .i64 p, .int .i64 lo, .int .i64 hi], .int .i64 s]) own82 rfl rfl rfl rfl (most_c m p lo hi s _ r1) (fun v84 w85 r87 => ?_)
    obtain ⟨rfl, u86⟩ := r87
    have zu86 := u86.size
    exact dz rfl ⟨(u80.next u86 (fun _ _ h => h.elim)), (B81.keep u86 (fun h => h))⟩
   · exact fun D ρ w _ _ _ hW => ⟨[(37, .int .i64 ((wayN m p hi s) / (wayD p hi))), (40, .int .i64 (mostV m p lo s))], ⟨fi 2 rfl rfl rfl, fi 5 rfl rfl rfl, trivial⟩, fun Lr => t_build (ps := [(0, .int .i64 ((wayN m p hi s) / (wayD p hi))), (1, .int .i64 (mostV m p lo s))]) (v := .agg #[.int .i64 ((wayN m p hi s) / (wayD p hi)), .int .i64 (mostV m p lo s)]) rfl rfl ⟨rfl, rfl⟩ (fun w => by kernel_rfl) (dz rfl hW)⟩
   ·
    intro D ρ w89 hcD hnD hdD hW
    obtain ⟨u90, B91⟩ := hW
    have zu90 := u90.size
    have B93 := B91
    simp only [hnD, cond_false] at B93
    refine ⟨_, kf_fr [8, 41], fun Lr => ?_⟩
    refine t_store (vs := [.int .i64 ((wayN m p hi s) / (wayD p hi)), .int .i64 (mostV m p lo s)]) Try.sizeOf45 rfl rfl rfl B93 rfl rfl (Nat.le_of_ble_eq_true rfl) (by simp [Value.oneCell']) (fun w94 sw94 B96 u95 => ?_)
    have zu95 := u95.size
    have B96 : Blk w94 bk7 45 [.int .i64 ((wayN m p hi s) / (wayD p hi)), .int .i64 (mostV m p lo s)] := B96
    exact dz0 rfl ⟨(u90.next u95 (fun i hi (h : i = bk7) => show i = bk7 by first | omega | assumption)), (by show Blk w94 bk7 45 [.int .i64 ((wayN m p hi s) / (wayD p hi)), .int .i64 (mostV m p lo s)]; exact B96)⟩
   · exact pz rfl rfl rfl rfl fun _ _ _ h => h
   intro ρ w98 hW
   obtain ⟨u99, B100⟩ := hW
   have zu99 := u99.size
   have E101 := E59.next u99 (fun i hi (h : i = bk7) => show False by first | omega | assumption)
   have B100 : Blk w98 bk7 45 [.int .i64 ((wayN m p hi s) / (wayD p hi)), .int .i64 (mostV m p lo s)] := B100
   refine QK.weak [(8, .pointer (some ⟨bk7, 0, none⟩)), (9, .int .i64 0)] ⟨rfl, rfl, trivial⟩ (hK60 _ _ (c_ret (f_ret2 (v1 := .agg #[.int .i64 ((wayN m p hi s) / (wayD p hi)), .int .i64 (mostV m p lo s)]) (v2 := .int .i64 0) Try.results46 ⟨_, _, rfl, run_loadVarN (vs := [.int .i64 ((wayN m p hi s) / (wayD p hi)), .int .i64 (mostV m p lo s)]) Try.isAgg45 Try.sizeOf45 rfl (B100.at.sub 0 2)⟩ rfl ?_)))
   exact ⟨by simp only [StopB, StopE, okStop, decide_eq_true (Decidable.not_not.1 g25), hb]; simp, E101⟩

structure HRow where
  ao : Option Addr
  b : Nat
  o : Nat
  cap : Nat
  xs : List Hull
instance : Inhabited HRow := ⟨⟨default, default, default, default, default⟩⟩
structure Size where
  len : Int
  wid : Int
  mass : Int
  hulls : Int
instance : Inhabited Size := ⟨⟨default, default, default, default⟩⟩
def addH (r : Row) (h : Hull) : Row := ⟨max r.long h.len, r.wide + h.wid, r.mass + h.mass⟩
def rowOf (xs : List Hull) : Row := xs.foldl addH ⟨0, 0, 0⟩
def addRow (s : Size) (xs : List Hull) : Size := ⟨s.len + (rowOf xs).long, max s.wid (rowOf xs).wide, s.mass + (rowOf xs).mass, s.hulls + xs.length⟩
def sizeOf (boat : Hull) (rows : List (List Hull)) : Size := rows.foldl addRow ⟨boat.len, boat.wid, boat.mass, 0⟩
theorem okHull_rng {h : Hull} (ho : okHull h = true) : (1 ≤ h.len ∧ h.len ≤ 200) ∧ (1 ≤ h.wid ∧ h.wid ≤ 30) ∧ (0 ≤ h.mass ∧ h.mass ≤ 10000) := by
  unfold okHull at ho; rwa [decide_eq_true_eq] at ho
end Go.Proofs.Ytmicjleiheoieaa
