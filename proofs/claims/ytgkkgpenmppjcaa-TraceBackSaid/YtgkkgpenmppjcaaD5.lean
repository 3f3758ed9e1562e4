/-
  The law TraceBack: the walk. Conditions: none.
-/
import Derived.Test.YtgkkgpenmppjcaaD4
import Derived.Test.YtgkkgpenmppjcaaUnr
namespace Go.Proofs.Ytgkkgpenmppjcaa
open Go Go.RowKit

theorem rows4 {n : Nat} {S : Stt} (h : StOk fourB (fourH.map Hld.cap) n S) {rows : List RowL} (e : rows.map rowV = S.hold) : rows.length = 4 := by
  have h1 := h.hn
  rw [← e, List.length_map] at h1
  exact h1
theorem LaysR.old {w1 w w' : World} {S : Nat → Prop} {ao : Option Addr} {g : Nat} {xs : List HLay} (h1 : LaysR w1 ao g xs) (h : LaysR w ao g xs) (u : Upd S w w') (hS : ∀ k, k < w1.heap.size → ¬ S k) : LaysR w' ao g xs := ⟨h.1.keep u (fun hp => hS _ (h1.1.lt hp)), fun x hx => (h.2 x hx).keep u (fun hp => hS _ ((h1.2 x hx).lt hp))⟩
theorem four_cap : ∀ k : Nat, k < 4 → nth (fourH.map Hld.cap) k ≤ 2000 := by decide
theorem rowOk {n : Nat} {S : Stt} (h : StOk fourB (fourH.map Hld.cap) n S) (hn : n ≤ 100) {rows : List RowL} (e : rows.map rowV = S.hold) {k : Nat} (hk : k < 4) :
    (nth rows k).xs.length ≤ 1000000 ∧ (∀ x ∈ (nth rows k).xs, 1 ≤ x.v.tons) ∧ sumT ((nth rows k).xs.map HLay.v) ≤ 2000 ∧ (∀ x ∈ (nth rows k).xs, x.v.path.length ≤ 1000000) ∧ (nth rows k).xs.map HLay.v = nth S.hold k ∧ (flatB ((nth rows k).xs.map HLay.v)).length ≤ 1000000 := by
  have h4 := rows4 h e
  have e2 : (nth rows k).xs.map HLay.v = nth S.hold k := by rw [← e, nth_map rowV (by omega)]; rfl
  have hc := h.cap k hk
  have hc2 := four_cap k hk
  have ht : ∀ y ∈ nth S.hold k, LayOk n y := h.tons _ (nth_mem (by rw [h.hn]; exact hk))
  have hx : ∀ x ∈ (nth rows k).xs, LayOk n x.v := fun x hx => ht _ (by rw [← e2]; exact List.mem_map.2 ⟨x, hx, rfl⟩)
  have h5 := sumT_len (l := (nth rows k).xs.map HLay.v) (fun y hy => by rw [e2] at hy; exact (ht y hy).1)
  have h6 := flatB_len (l := (nth rows k).xs.map HLay.v) (fun y hy => by rw [e2] at hy; exact (ht y hy).1)
  rw [List.length_map] at h5
  rw [e2] at h5 h6 ⊢
  exact ⟨by omega, fun x h9 => (hx x h9).1, by omega, fun x h9 => by have := (hx x h9).2.2; omega, rfl, by omega⟩
theorem rowsOk {n : Nat} {S : Stt} (h : StOk fourB (fourH.map Hld.cap) n S) (hn : n ≤ 100) {rows : List RowL} (e : rows.map rowV = S.hold) : ∀ r ∈ rows, r.xs.length ≤ 1000000 ∧ ∀ x ∈ r.xs, x.v.path.length ≤ 1000000 := fun r hr => by
  obtain ⟨k, hk, rfl⟩ := List.mem_iff_getElem.1 hr
  have h4 := rows4 h e
  have := rowOk h hn e (k := k) (by omega)
  rw [nth_eq hk] at this
  exact ⟨this.1, this.2.2.2.1⟩
theorem own8 : Own Try.prog 8 := ⟨Try.f8, Try.func8, by kernel_rfl, by kernel_rfl⟩

set_option maxHeartbeats 4000000 in
theorem TraceBack_c (xs : List X5) (a0 : Option Addr) (b0 o0 c0 : Nat) (p0 p1 p2 p3 : Int) (w0 : World) (hl : Sl encX5 5 w0 a0 b0 o0 xs) (hll : xs.length ≤ 9223372036854775807) (hxs : ∀ x ∈ xs, okX5 x) (hp : (0 ≤ p0 ∧ p0 ≤ 255) ∧ (0 ≤ p1 ∧ p1 ≤ 255) ∧ (0 ≤ p2 ∧ p2 ≤ 255) ∧ (0 ≤ p3 ∧ p3 ≤ 255)) :
    CallsV Try.prog 8 [.slice a0 xs.length c0, .agg #[.int .u8 p0, .int .u8 p1, .int .u8 p2, .int .u8 p3]] w0 (fun v w' => v = .bool true ∧ Ext w0 w') := by
 refine f_enter (N := 239) Try.func8 rfl rfl rfl (c_seq fun K1 hK1 => (c_region (t_box (cs := [.int .u8 p0, .int .u8 p1, .int .u8 p2, .int .u8 p3]) rfl rfl rfl rfl (fun bk2 w3 ebk2 sbk2 B4 u5 => ?_))))
 have zu5 := u5.size
 have E6 := (Upd.refl (fun _ => False) w0).nx u5
 refine t_assign rfl rfl rfl (t_nil' (hK1 _ _ (c_seq fun K7 hK7 => (c_region (t_move rfl rfl rfl (t_call own31 rfl rfl rfl rfl (happened_c xs a0 b0 o0 c0 _ (hl.keep E6 (fun _ h => h)) hll hxs (by omega)) (fun v8 w9 r11 => ?_)))))))
 obtain ⟨aoD, gD, cD, rfl, hdn, u10⟩ := r11
 have zu10 := u10.size
 have hdl : (done xs).length ≤ 30 := done_len
 have hz := done_ok (xs := xs)
 have hm := done_min (xs := xs)
 have hf : 0 ≤ (p0 % 4) ∧ (p0 % 4) ≤ 3 := by omega
 have hr : (0 ≤ (p0 % 4) ∧ (p0 % 4) ≤ 3) ∧ (0 ≤ (p1 % 4) ∧ (p1 % 4) ≤ 3) ∧ 1 ≤ (1 + p2) ∧ (1 + p2) ≤ 256 := by omega
 refine t_move rfl rfl rfl (t_extract rfl rfl rfl rfl (t_extract rfl rfl rfl rfl (t_assign rfl rfl rfl (t_assign rfl rfl rfl (t_nil' (hK7 _ _ (c_seq fun K13 hK13 => (c_seq fun K14 hK14 => (c_region (t_move rfl rfl rfl (t_not rfl rfl rfl (t_nil' (hK14 _ _ (c_cond_f rfl (c_skip (hK13 _ _ (c_seq fun K15 hK15 => (c_region (t_call own32 rfl rfl rfl rfl (four_c _) (fun v18 w19 r21 => ?_))))))))))))))))))))
 obtain ⟨bfB16, bfH17, rfl, hkfB16, hkfH17, gbfB16, gbfH17, u20⟩ := r21
 have zu20 := u20.size
 refine t_alloc (cs := [.slice none 0 0, .slice none 0 0]) Try.zeroValue25 rfl rfl rfl (fun bk23 w24 ebk23 sbk23 B25 u26 => ?_)
 have zu26 := u26.size
 refine t_st (vs := [.slice (some ⟨bfB16, 0, none⟩) 4 4, .slice (some ⟨bfH17, 0, none⟩) 4 4]) Try.sizeOf25 rfl rfl rfl B25 rfl rfl rfl rfl (fun w28 sw28 B30 u29 => ?_)
 have zu29 := u29.size
 have B30 : Blk w28 bk23 25 [.slice (some ⟨bfB16, 0, none⟩) 4 4, .slice (some ⟨bfH17, 0, none⟩) 4 4] := B30
 refine t_nil' (hK15 _ _ (c_seq fun K32 hK32 => (c_drawnQ follows (by kernel_rfl) (p_indexArr (j := 0) (0) Try.underlying99 Try.sizeOf5 rfl rfl rfl rfl rfl (by decide) rfl ?_))))
 have B34 := ((((B4.kx u10).kx u20).kx u26).keep u29 (by omega))
 refine p_load Try.isAgg5 rfl rfl rfl (B34.get rfl) (p_conv Try.underlying5 Try.underlying3 rfl rfl rfl (IntWalk.i64_in _ (by omega)) (p_rem rfl rfl rfl rfl (by omega) (by omega) (p_indexArr (j := 1) (1) Try.underlying99 Try.sizeOf5 rfl rfl rfl rfl rfl (by decide) rfl (p_load Try.isAgg5 rfl rfl rfl (B34.get rfl) (p_conv Try.underlying5 Try.underlying3 rfl rfl rfl (IntWalk.i64_in _ (by omega)) (p_rem rfl rfl rfl rfl (by omega) (by omega) (p_indexArr (j := 2) (2) Try.underlying99 Try.sizeOf5 rfl rfl rfl rfl rfl (by decide) rfl (p_load Try.isAgg5 rfl rfl rfl (B34.get rfl) (p_conv Try.underlying5 Try.underlying3 rfl rfl rfl (IntWalk.i64_in _ (by omega)) (p_ari rfl rfl rfl rfl rfl (by omega) (p_assign rfl rfl rfl (p_assign rfl rfl rfl (p_assign rfl rfl rfl (p_nil fun w35 u36 => ?_))))))))))))))
 have zu36 := u36.size
 refine t_nil' (hK32 _ _ (c_seq fun K38 hK38 => (c_drawnM follows (fun _ => False) (.look 0 (.look 1 (.act 2 (.act 3 (.look 4 (.look 5 (.look 6 (.look 7 (.look 8 (.look 9 (.look 10 .done))))))) .stop) .stop))) (by kernel_rfl) fun w39 u40 => ?_)))
 have zu40 := u40.size
 have B42 := ((B30.kx u36).kx u40)
 refine y_loadN (vs := [.slice (some ⟨bfB16, 0, none⟩) 4 4, .slice (some ⟨bfH17, 0, none⟩) 4 4]) Try.isAgg25 Try.sizeOf25 rfl rfl rfl (B42.at.sub 0 2) rfl (fun h => h) (y_move rfl rfl rfl (s_do ?_))
 have D44 := (((((hdn.keep u20 (fun _ h => h)).keep u26 (fun _ h => h)).keep u29 (fun hp => by have h9 := hdn.lt hp; show ¬ (gD = bk23); omega)).keep u36 (fun _ h => h)).keep u40 (fun _ h => h))
 refine t_call own13 rfl rfl rfl rfl (eventsA_c (done xs) aoD gD 0 cD _ D44 (by first | omega | (simp only [List.length_append, List.length_singleton]; omega))) (fun v45 w46 r48 => ?_)
 obtain ⟨aoE43, gE43, cE43, baE43, rfl, hkE43, hbE43, hzE43, u47⟩ := r48
 have zu47 := u47.size
 have lt_gE43 := hkE43.lt
 refine s_next ((Upd.refl _ _).nx u47) (s_do ?_)
 have D50 := (((((hkfB16.keep u26 (fun _ h => h)).keep u29 (fun hp => by have h9 := hkfB16.lt hp; show ¬ (bfB16 = bk23); omega)).keep u36 (fun _ h => h)).keep u40 (fun _ h => h)).keep u47 (fun _ h => h))
 have D51 := (((((hkfH17.keep u26 (fun _ h => h)).keep u29 (fun hp => by have h9 := hkfH17.lt hp; show ¬ (bfH17 = bk23); omega)).keep u36 (fun _ h => h)).keep u40 (fun _ h => h)).keep u47 (fun _ h => h))
 refine t_call own15 rfl rfl rfl rfl (ReplayU_c fourB (some ⟨bfB16, 0, none⟩) bfB16 0 4 fourH (some ⟨bfH17, 0, none⟩) bfH17 0 4 (done xs) aoE43 gE43 0 cE43 _ D50 D51 (by decide) (by decide) (hkE43.sl (fun _ => rfl)) (by first | omega | (simp only [List.length_append, List.length_singleton]; omega)) (by omega)) (fun v52 w53 r55 => ?_)
 obtain ⟨⟨aoH, gH, cH, rowsH, rfl, hroH, hrlH, h1H, h2H⟩, u54⟩ := r55
 have zu54 := u54.size
 obtain ⟨_, hzr⟩ := h2H hz
 have h4H := rows4 (sail_ok hz) hzr
 refine s_next ((Upd.refl _ _).nx u54) (y_move rfl rfl rfl (y_extract rfl rfl rfl rfl (y_same 58 (v := .slice aoH 4 cH) rfl (by rw [h4H]) (y_extract rfl rfl rfl rfl (y_extract rfl rfl rfl rfl (y_same 60 (v := .int .i64 0) rfl (congrArg (Value.int .i64) hz) (y_assign rfl rfl rfl (y_assign rfl rfl rfl (y_assign rfl rfl rfl (s_nil (hK38 _ _ (c_seq fun K57 hK57 => (c_seq fun K58 hK58 => (c_region (t_move rfl rfl rfl (t_cmp rfl rfl rfl rfl rfl (t_samehd (v := .bool false) rfl (t_move rfl rfl rfl (t_move rfl rfl rfl (t_len Try.underlying33 rfl rfl rfl rfl (t_cmp rfl rfl rfl rfl rfl (t_samehd (v := .bool false) rfl (t_pick_f rfl rfl rfl rfl ?_)))))))))))))))))))))))
 refine t_nil' (hK58 _ _ (c_cond_f rfl (c_skip (hK57 _ _ (c_seq fun K59 hK59 => (c_region (t_move rfl rfl rfl ?_)))))))
 have D61 := ((D44.keep u47 (fun _ h => h)).keep u54 (fun _ h => h))
 refine t_call own13 rfl rfl rfl rfl (eventsA_c (done xs) aoD gD 0 cD _ D61 (by first | omega | (simp only [List.length_append, List.length_singleton]; omega))) (fun v62 w63 r65 => ?_)
 obtain ⟨aoE60, gE60, cE60, baE60, rfl, hkE60, hbE60, hzE60, u64⟩ := r65
 have zu64 := u64.size
 have lt_gE60 := hkE60.lt
 refine t_move rfl rfl rfl (t_move rfl rfl rfl (t_move rfl rfl rfl (t_build (ps := [(0, .int .i64 2), (1, .int .i64 100), (3, .int .i64 (p0 % 4)), (4, .int .i64 (p1 % 4)), (5, .int .i64 (1 + p2))]) (v := .agg #[.int .i64 2, .int .i64 100, .int .i64 0, .int .i64 (p0 % 4), .int .i64 (p1 % 4), .int .i64 (1 + p2), .int .i64 0, .int .i64 0]) rfl rfl ⟨rfl, rfl⟩ (fun w => by kernel_rfl) (t_bslice (ps := [(0, .agg #[.int .i64 2, .int .i64 100, .int .i64 0, .int .i64 (p0 % 4), .int .i64 (p1 % 4), .int .i64 (1 + p2), .int .i64 0, .int .i64 0])]) (cs := [.int .i64 2, .int .i64 100, .int .i64 0, .int .i64 (p0 % 4), .int .i64 (p1 % 4), .int .i64 (1 + p2), .int .i64 0, .int .i64 0]) (e := 41) rfl rfl ⟨rfl, rfl⟩ (fun w => by kernel_rfl) (fun bk67 w68 ebk67 sbk67 B69 u70 => ?_)))))
 have zu70 := u70.size
 have D72 := (hkE60.keep u70 (fun _ h => h))
 refine t_append (z := .agg #[.int .i64 0, .int .i64 0, .int .i64 0, .int .i64 0, .int .i64 0, .int .i64 0, .int .i64 0, .int .i64 0]) (bytes := 64) (k := 8) (base := baE60) (shE (p0 % 4) (p1 % 4) (1 + p2)) Try.underlying26 (by kernel_rfl) rfl (by decide) (fun _ => rfl) (by intro x; simp [encEv, Value.oneCell']) rfl rfl rfl rfl D72 B69 (by omega) (by omega) (by decide) (fun ao73 gb74 cp75 w76 A77 u78 gegb74 lngb74 => ?_)
 have zu78 := u78.size
 have lt_gb74 := A77.lt
 refine t_assign rfl rfl rfl (t_nil' (hK59 _ _ (c_cut (γ := Nat) (fun z => [(3, .pointer (some ⟨bk2, 0, none⟩)), (5, .slice aoD ((done xs).length) cD), (7, .pointer (some ⟨bk23, 0, none⟩)), (8, .int .i64 (p0 % 4)), (11, .slice aoH 4 cH)]) (fun z w => Upd (fun i => (i = gb74 ∧ baE60 ≤ i)) w76 w) (fun K81 hK81 => ?_) ?_)))
 ·
  refine c_seq fun K84 hK84 => (c_drawnM follows (fun _ => False) (.look 0 (.look 1 (.act 2 (.act 3 (.look 4 (.look 5 (.look 6 (.look 7 (.look 8 (.look 9 (.look 10 .done))))))) .stop) .stop))) (by kernel_rfl) fun w85 u86 => ?_)
  have zu86 := u86.size
  have B88 := ((((((((B30.kx u36).kx u40).kx u47).kx u54).kx u64).kx u70).keep u78 (by omega)).kx u86)
  refine y_loadN (vs := [.slice (some ⟨bfB16, 0, none⟩) 4 4, .slice (some ⟨bfH17, 0, none⟩) 4 4]) Try.isAgg25 Try.sizeOf25 rfl rfl rfl (B88.at.sub 0 2) rfl (fun h => h) (y_move rfl rfl rfl (s_do ?_))
  have D90 := (A77.keep u86 (fun _ h => h))
  refine t_call own13 rfl rfl rfl rfl (eventsA_c ((done xs) ++ [(shE (p0 % 4) (p1 % 4) (1 + p2))]) ao73 gb74 0 cp75 _ (D90.sl (fun _ => rfl)) (by first | omega | (simp only [List.length_append, List.length_singleton]; omega))) (fun v91 w92 r94 => ?_)
  obtain ⟨aoE89, gE89, cE89, baE89, rfl, hkE89, hbE89, hzE89, u93⟩ := r94
  have zu93 := u93.size
  have lt_gE89 := hkE89.lt
  refine s_next ((Upd.refl _ _).nx u93) (s_do ?_)
  have D96 := ((((((D50.keep u54 (fun _ h => h)).keep u64 (fun _ h => h)).keep u70 (fun _ h => h)).keep u78 (fun hp => by have h9 := hkfB16.lt hp; show ¬ ((bfB16 = gE60 ∧ baE60 ≤ bfB16)); omega)).keep u86 (fun _ h => h)).keep u93 (fun _ h => h))
  have D97 := ((((((D51.keep u54 (fun _ h => h)).keep u64 (fun _ h => h)).keep u70 (fun _ h => h)).keep u78 (fun hp => by have h9 := hkfH17.lt hp; show ¬ ((bfH17 = gE60 ∧ baE60 ≤ bfH17)); omega)).keep u86 (fun _ h => h)).keep u93 (fun _ h => h))
  refine t_call own15 rfl rfl rfl rfl (ReplayU_c fourB (some ⟨bfB16, 0, none⟩) bfB16 0 4 fourH (some ⟨bfH17, 0, none⟩) bfH17 0 4 ((done xs) ++ [(shE (p0 % 4) (p1 % 4) (1 + p2))]) aoE89 gE89 0 cE89 _ D96 D97 (by decide) (by decide) (hkE89.sl (fun _ => rfl)) (by first | omega | (simp only [List.length_append, List.length_singleton]; omega)) (by omega)) (fun v98 w99 r101 => ?_)
  obtain ⟨⟨aoT, gT, cT, rowsT, rfl, hroT, hrlT, h1T, h2T⟩, u100⟩ := r101
  have zu100 := u100.size
  refine s_next ((Upd.refl _ _).nx u100) (y_move rfl rfl rfl (y_extract rfl rfl rfl rfl (y_extract rfl rfl rfl rfl (y_extract rfl rfl rfl rfl (y_assign rfl rfl rfl (y_assign rfl rfl rfl (y_assign rfl rfl rfl (s_nil (hK84 _ _ (c_seq fun K103 hK103 => (c_region (t_move rfl rfl rfl (t_cmp rfl rfl rfl rfl rfl (t_nil' (hK103 _ _ (c_condp rfl (fun g85 => ?_) (fun g85 => ?_)))))))))))))))))
  ·
   refine c_seq fun K104 hK104 => (c_drawnM follows (fun i => (i = gb74 ∧ baE60 ≤ i)) (.look 0 (.look 1 (.look 2 (.look 3 (.look 4 (.look 5 (.act 6 (.act 7 (.act 8 (.look 9 (.look 10 (.look 11 (.look 12 (.look 13 (.look 14 (.look 15 .done))))))) .stop) .stop) .stop))))))) (by kernel_rfl) fun w105 u106 => ?_)
   have zu106 := u106.size
   have B108 := (((((((((((B30.kx u36).kx u40).kx u47).kx u54).kx u64).kx u70).keep u78 (by omega)).kx u86).kx u93).kx u100).kx u106)
   refine y_loadN (vs := [.slice (some ⟨bfB16, 0, none⟩) 4 4, .slice (some ⟨bfH17, 0, none⟩) 4 4]) Try.isAgg25 Try.sizeOf25 rfl rfl rfl (B108.at.sub 0 2) rfl (by show ¬ ((bk23 = gb74 ∧ baE60 ≤ bk23)); first | omega | assumption) (y_move rfl rfl rfl (y_move rfl rfl rfl (y_move rfl rfl rfl (y_move rfl rfl rfl (y_build (ps := [(0, .int .i64 2), (1, .int .i64 100), (3, .int .i64 (p1 % 4)), (4, .int .i64 (p0 % 4)), (5, .int .i64 (1 + p2))]) (v := .agg #[.int .i64 2, .int .i64 100, .int .i64 0, .int .i64 (p1 % 4), .int .i64 (p0 % 4), .int .i64 (1 + p2), .int .i64 0, .int .i64 0]) rfl rfl ⟨rfl, rfl⟩ (fun w => by kernel_rfl) (s_do (t_bslice (ps := [(0, .agg #[.int .i64 2, .int .i64 100, .int .i64 0, .int .i64 (p1 % 4), .int .i64 (p0 % 4), .int .i64 (1 + p2), .int .i64 0, .int .i64 0])]) (cs := [.int .i64 2, .int .i64 100, .int .i64 0, .int .i64 (p1 % 4), .int .i64 (p0 % 4), .int .i64 (1 + p2), .int .i64 0, .int .i64 0]) (e := 41) rfl rfl ⟨rfl, rfl⟩ (fun w => by kernel_rfl) (fun bk109 w110 ebk109 sbk109 B111 u112 => ?_))))))))
   have zu112 := u112.size
   refine s_next ((Upd.refl _ _).nx u112) (s_do ?_)
   have D114 := ((((D90.keep u93 (fun _ h => h)).keep u100 (fun _ h => h)).keep u106 (fun _ h => h)).keep u112 (fun _ h => h))
   refine t_append (z := .agg #[.int .i64 0, .int .i64 0, .int .i64 0, .int .i64 0, .int .i64 0, .int .i64 0, .int .i64 0, .int .i64 0]) (bytes := 64) (k := 8) (base := baE60) (shE (p1 % 4) (p0 % 4) (1 + p2)) Try.underlying26 (by kernel_rfl) rfl (by decide) (fun _ => rfl) (by intro x; simp [encEv, Value.oneCell']) rfl rfl rfl rfl D114 B111 (by omega) (by simp only [List.length_append, List.length_singleton]; omega) (by decide) (fun ao115 gb116 cp117 w118 A119 u120 gegb116 lngb116 => ?_)
   have zu120 := u120.size
   have lt_gb116 := A119.lt
   refine s_next ((Upd.refl _ _).next u120 (fun i hi (h : (i = gb74 ∧ baE60 ≤ i)) => show w105.heap.size ≤ i ∨ ((i = gb74 ∧ baE60 ≤ i)) by first | omega | exact .inr h)) (s_do ?_)
   have D122 := ((((D96.keep u100 (fun _ h => h)).keep u106 (fun _ h => h)).keep u112 (fun _ h => h)).keep u120 (fun hp => by have h9 := hkfB16.lt hp; show ¬ ((bfB16 = gb74 ∧ baE60 ≤ bfB16)); omega))
   have D123 := ((((D97.keep u100 (fun _ h => h)).keep u106 (fun _ h => h)).keep u112 (fun _ h => h)).keep u120 (fun hp => by have h9 := hkfH17.lt hp; show ¬ ((bfH17 = gb74 ∧ baE60 ≤ bfH17)); omega))
   refine t_call own15 rfl rfl rfl rfl (ReplayU_c fourB (some ⟨bfB16, 0, none⟩) bfB16 0 4 fourH (some ⟨bfH17, 0, none⟩) bfH17 0 4 (((done xs) ++ [(shE (p0 % 4) (p1 % 4) (1 + p2))]) ++ [(shE (p1 % 4) (p0 % 4) (1 + p2))]) ao115 gb116 0 cp117 _ D122 D123 (by decide) (by decide) (A119.sl (fun _ => rfl)) (by first | omega | (simp only [List.length_append, List.length_singleton]; omega)) (by omega)) (fun v124 w125 r127 => ?_)
   obtain ⟨⟨aoB, gB, cB, rowsB, rfl, hroB, hrlB, h1B, h2B⟩, u126⟩ := r127
   have zu126 := u126.size
   obtain ⟨hb1, hb2⟩ := back hz hdl hr g85
   obtain ⟨_, hbr⟩ := h2B hb1
   have h4B := rows4 (sail_ok hb1) hbr
   refine s_next ((Upd.refl _ _).nx u126) (y_move rfl rfl rfl (y_extract rfl rfl rfl rfl (y_same 96 (v := .slice aoB 4 cB) rfl (by rw [h4B]) (y_extract rfl rfl rfl rfl (y_extract rfl rfl rfl rfl (y_same 98 (v := .int .i64 0) rfl (congrArg (Value.int .i64) hb1) (y_assign rfl rfl rfl (y_assign rfl rfl rfl (y_assign rfl rfl rfl (s_nil (hK104 _ _ (c_seq fun K129 hK129 => (c_seq fun K130 hK130 => (c_region (t_move rfl rfl rfl (t_cmp rfl rfl rfl rfl rfl (t_samehd (v := .bool false) rfl (t_move rfl rfl rfl (t_move rfl rfl rfl (t_len Try.underlying33 rfl rfl rfl rfl (t_cmp rfl rfl rfl rfl rfl (t_samehd (v := .bool false) rfl (t_pick_f rfl rfl rfl rfl ?_)))))))))))))))))))))))
   refine t_nil' (hK130 _ _ (c_cond_f rfl (c_skip (hK129 _ _ (c_seq fun K131 hK131 => (c_region (t_assign rfl rfl rfl (t_nil' (hK131 _ _ (c_block (c_loop (γ := Nat) (fun k => [(3, .pointer (some ⟨bk2, 0, none⟩)), (5, .slice aoD ((done xs).length) cD), (7, .pointer (some ⟨bk23, 0, none⟩)), (8, .int .i64 (p0 % 4)), (9, .int .i64 (p1 % 4)), (11, .slice aoH 4 cH), (18, .slice aoB 4 cB), (21, .int .i64 (k : Int))]) (fun k w => Upd (fun _ => False) w125 w ∧ (k ≤ 4)) (fun k => 4 - k) 0 ⟨rfl, rfl, rfl, rfl, rfl, rfl, rfl, rfl, trivial⟩ ⟨Upd.refl _ _, (Nat.zero_le _)⟩ ?_)))))))))))
   intro k w133 hW K132 hK132
   obtain ⟨u134, I135⟩ := hW
   have zu134 := u134.size
   have hk := I135; clear I135
   refine c_seq fun K137 hK137 => (c_seq fun K138 hK138 => (c_region (t_move rfl rfl rfl (t_cmp rfl rfl rfl rfl rfl (t_nil' (hK138 _ _ (c_condp rfl (fun g107 => ?_) (fun g107 => ?_))))))))
   ·
    refine c_skip (hK137 _ _ (c_seq fun K139 hK139 => (c_block (c_seq fun K140 hK140 => ?_))))
    have hra := rowOk (sail_ok hz) (by omega) hzr (show k < 4 by omega)
    have hrb := rowOk (sail_ok hb1) (by simp only [List.length_append, List.length_singleton]; omega) hbr (show k < 4 by omega)
    have hbk := hb2 k (by omega)
    refine c_drawnM follows (fun _ => False) (.look 0 (.look 1 (.look 2 (.look 3 (.look 5 (.look 6 (.look 7 (.look 8 (.act 4 (.act 9 (.act 10 (.look 11 (.look 12 (.look 13 (.look 14 (.look 15 (.look 16 (.look 17 (.look 18 (.look 19 (.look 20 (.look 21 (.look 22 (.look 23 (.look 24 (.look 25 (.look 26 (.look 27 (.look 28 (.look 29 (.act 30 (.look 31 (.look 32 (.look 33 .done))) .stop)))))))))))))))))))) .stop) .stop) .stop))))))))) (by kernel_rfl) fun w141 u142 => ?_
    have zu142 := u142.size
    refine y_move rfl rfl rfl (y_move rfl rfl rfl ?_)
    have D144 := ((hroB.keep u134 (fun _ h => h)).keep u142 (fun _ h => h))
    have i145 : k < rowsB.length := (by omega)
    refine y_index (j := k) Try.underlying33 Try.sizeOf36 rfl rfl rfl rfl (D144.addr (by omega)) rfl (by omega) ?_
    have D146 := ((hroB.keep u134 (fun _ h => h)).keep u142 (fun _ h => h))
    refine y_load Try.isAgg36 rfl rfl rfl ((D146.at_ k (by omega)) 0 _ rfl) (fun h => h) (y_move rfl rfl rfl (y_move rfl rfl rfl ?_))
    have D147 := ((((((((((((hroH.keep u64 (fun _ h => h)).keep u70 (fun _ h => h)).keep u78 (fun hp => by have h9 := hroH.lt hp; show ¬ ((gH = gE60 ∧ baE60 ≤ gH)); omega)).keep u86 (fun _ h => h)).keep u93 (fun _ h => h)).keep u100 (fun _ h => h)).keep u106 (fun _ h => h)).keep u112 (fun _ h => h)).keep u120 (fun hp => by have h9 := hroH.lt hp; show ¬ ((gH = gb74 ∧ baE60 ≤ gH)); omega)).keep u126 (fun _ h => h)).keep u134 (fun _ h => h)).keep u142 (fun _ h => h))
    have i148 : k < rowsH.length := (by omega)
    refine y_index (j := k) Try.underlying33 Try.sizeOf36 rfl rfl rfl rfl (D147.addr (by omega)) rfl (by omega) ?_
    have D149 := ((((((((((((hroH.keep u64 (fun _ h => h)).keep u70 (fun _ h => h)).keep u78 (fun hp => by have h9 := hroH.lt hp; show ¬ ((gH = gE60 ∧ baE60 ≤ gH)); omega)).keep u86 (fun _ h => h)).keep u93 (fun _ h => h)).keep u100 (fun _ h => h)).keep u106 (fun _ h => h)).keep u112 (fun _ h => h)).keep u120 (fun hp => by have h9 := hroH.lt hp; show ¬ ((gH = gb74 ∧ baE60 ≤ gH)); omega)).keep u126 (fun _ h => h)).keep u134 (fun _ h => h)).keep u142 (fun _ h => h))
    refine y_load Try.isAgg36 rfl rfl rfl ((D149.at_ k (by omega)) 0 _ rfl) (fun h => h) (s_do ?_)
    have D151 := (fun r hr => LaysR.keep ((fun r hr => LaysR.keep (hrlB r hr) u134 (fun _ _ h => h)) r hr) u142 (fun _ _ h => h))
    refine t_call own35 rfl rfl rfl rfl (bills_c (nth rowsB k).xs (nth rowsB k).ao (nth rowsB k).g (nth rowsB k).cp _ (D151 (nth rowsB k) (nth_mem (by omega))).1 hrb.1 hrb.2.1 hrb.2.2.1) (fun v152 w153 r155 => ?_)
    obtain ⟨aob150, gb150, cb150, rfl, hfb150, u154⟩ := r155
    have zu154 := u154.size
    refine s_next ((Upd.refl _ _).nx u154) (s_do ?_)
    have D158 := (fun r hr => LaysR.keep ((fun r hr => LaysR.keep ((fun r hr => LaysR.keep ((fun r hr => LaysR.keep ((fun r hr => LaysR.old (hrlH r hr) ((fun r hr => LaysR.keep ((fun r hr => LaysR.keep ((fun r hr => LaysR.keep ((fun r hr => LaysR.keep ((fun r hr => LaysR.keep ((fun r hr => LaysR.old (hrlH r hr) ((fun r hr => LaysR.keep ((fun r hr => LaysR.keep (hrlH r hr) u64 (fun _ _ h => h)) r hr) u70 (fun _ _ h => h)) r hr) u78 (fun k hk => by show ¬ ((k = gE60 ∧ baE60 ≤ k)); omega)) r hr) u86 (fun _ _ h => h)) r hr) u93 (fun _ _ h => h)) r hr) u100 (fun _ _ h => h)) r hr) u106 (fun _ _ h => h)) r hr) u112 (fun _ _ h => h)) r hr) u120 (fun k hk => by show ¬ ((k = gb74 ∧ baE60 ≤ k)); omega)) r hr) u126 (fun _ _ h => h)) r hr) u134 (fun _ _ h => h)) r hr) u142 (fun _ _ h => h)) r hr) u154 (fun _ _ h => h))
    refine t_call own35 rfl rfl rfl rfl (bills_c (nth rowsH k).xs (nth rowsH k).ao (nth rowsH k).g (nth rowsH k).cp _ (D158 (nth rowsH k) (nth_mem (by omega))).1 hra.1 hra.2.1 hra.2.2.1) (fun v159 w160 r162 => ?_)
    obtain ⟨aob157, gb157, cb157, rfl, hfb157, u161⟩ := r162
    have zu161 := u161.size
    refine s_next ((Upd.refl _ _).nx u161) (s_do ?_)
    have D164 := (hfb150.keep u161 (fun _ h => h))
    refine t_call own26 rfl rfl rfl rfl (numbers_c (flatB ((nth rowsB k).xs.map HLay.v)) (flatB ((nth rowsH k).xs.map HLay.v)) aob150 aob157 gb150 gb157 0 0 cb150 cb157 _ D164 hfb157 hrb.2.2.2.2.2) (fun v165 w166 r168 => ?_)
    obtain ⟨rfl, u167⟩ := r168
    have zu167 := u167.size
    refine t_same 120 (v := .bool true) rfl (congrArg Value.bool (decide_eq_true (by rw [hrb.2.2.2.2.1, hra.2.2.2.2.1]; exact hbk.1))) (s_next ((Upd.refl _ _).nx u167) (y_not rfl rfl rfl (y_move rfl rfl rfl (y_move rfl rfl rfl (y_move rfl rfl rfl (y_cmp rfl rfl rfl rfl rfl (y_move rfl rfl rfl (y_splitp 126 rfl (fun g126 => ?_) (fun g126 => ?_)))))))))
    ·
     refine y_move rfl rfl rfl (y_move rfl rfl rfl (y_cmp rfl rfl rfl rfl rfl (y_pick_t rfl rfl rfl rfl (y_move rfl rfl rfl (y_splitp 131 rfl (fun g131 => ?_) (fun g131 => ?_))))))
     ·
      refine y_move rfl rfl rfl (y_move rfl rfl rfl ?_)
      have D170 := (((D144.keep u154 (fun _ h => h)).keep u161 (fun _ h => h)).keep u167 (fun _ h => h))
      have i171 : k < rowsB.length := (by omega)
      refine y_index (j := k) Try.underlying33 Try.sizeOf36 rfl rfl rfl rfl (D170.addr (by omega)) rfl (by omega) (y_load Try.isAgg36 rfl rfl rfl ((D146.at_ k (by omega)) 0 _ rfl) (fun h => h) (y_move rfl rfl rfl (y_move rfl rfl rfl ?_)))
      have D172 := (((D147.keep u154 (fun _ h => h)).keep u161 (fun _ h => h)).keep u167 (fun _ h => h))
      have i173 : k < rowsH.length := (by omega)
      refine y_index (j := k) Try.underlying33 Try.sizeOf36 rfl rfl rfl rfl (D172.addr (by omega)) rfl (by omega) (y_load Try.isAgg36 rfl rfl rfl ((D149.at_ k (by omega)) 0 _ rfl) (fun h => h) (s_do ?_))
      have D174 := (fun r hr => LaysR.keep ((fun r hr => LaysR.keep ((fun r hr => LaysR.keep (D151 r hr) u154 (fun _ _ h => h)) r hr) u161 (fun _ _ h => h)) r hr) u167 (fun _ _ h => h))
      have D175 := (fun r hr => LaysR.keep ((fun r hr => LaysR.keep (D158 r hr) u161 (fun _ _ h => h)) r hr) u167 (fun _ _ h => h))
      refine t_call own20 rfl rfl rfl rfl (layers_c (nth rowsB k).xs (nth rowsH k).xs (nth rowsB k).ao (nth rowsH k).ao (nth rowsB k).g (nth rowsH k).g (nth rowsB k).cp (nth rowsH k).cp _ (D174 (nth rowsB k) (nth_mem (by omega))) (D175 (nth rowsH k) (nth_mem (by omega))) hrb.1 hrb.2.2.2.1) (fun v176 w177 r179 => ?_)
      obtain ⟨rfl, u178⟩ := r179
      have zu178 := u178.size
      refine t_same 140 (v := .bool true) rfl (congrArg Value.bool (decide_eq_true (by rw [hrb.2.2.2.2.1, hra.2.2.2.2.1]; exact hbk.2 g126 g131))) (s_next ((Upd.refl _ _).nx u178) (y_not rfl rfl rfl (y_pick_t rfl rfl rfl rfl (y_pick_f rfl rfl rfl rfl (s_nil (hK140 _ _ (c_cond_f rfl (c_skip (hK139 _ _ (c_region (t_move rfl rfl rfl (t_ari rfl rfl rfl rfl rfl (by omega) (t_assign rfl rfl rfl (t_nil' ?_))))))))))))))
      exact hK132 (k + 1) _ _ (by omega) ⟨rfl, rfl, rfl, rfl, rfl, rfl, rfl, rfl, trivial⟩ ⟨(((((u134.next u142 (fun _ _ h => h.elim)).next u154 (fun _ _ h => h.elim)).next u161 (fun _ _ h => h.elim)).next u167 (fun _ _ h => h.elim)).next u178 (fun _ _ h => h.elim)), (by omega)⟩
     refine y_skip rfl rfl rfl (y_skip rfl rfl rfl (y_skip rfl rfl rfl (y_skip rfl rfl rfl (y_skip rfl rfl rfl (y_skip rfl rfl rfl (y_skip rfl rfl rfl (y_skip rfl rfl rfl (s_do (t_skip rfl rfl rfl (s_next (Upd.refl _ _) (y_skip rfl rfl rfl (y_pick_f rfl rfl rfl rfl (y_pick_f rfl rfl rfl rfl (s_nil (hK140 _ _ (c_cond_f rfl (c_skip (hK139 _ _ (c_region (t_move rfl rfl rfl (t_ari rfl rfl rfl rfl rfl (by omega) (t_assign rfl rfl rfl (t_nil' ?_)))))))))))))))))))))))
     exact hK132 (k + 1) _ _ (by omega) ⟨rfl, rfl, rfl, rfl, rfl, rfl, rfl, rfl, trivial⟩ ⟨((((u134.next u142 (fun _ _ h => h.elim)).next u154 (fun _ _ h => h.elim)).next u161 (fun _ _ h => h.elim)).next u167 (fun _ _ h => h.elim)), (by omega)⟩
    refine y_skip rfl rfl rfl (y_skip rfl rfl rfl (y_skip rfl rfl rfl (y_pick_f rfl rfl rfl rfl (y_move rfl rfl rfl (y_skip rfl rfl rfl (y_skip rfl rfl rfl (y_skip rfl rfl rfl (y_skip rfl rfl rfl (y_skip rfl rfl rfl (y_skip rfl rfl rfl (y_skip rfl rfl rfl (y_skip rfl rfl rfl (s_do (t_skip rfl rfl rfl (s_next (Upd.refl _ _) (y_skip rfl rfl rfl (y_pick_f rfl rfl rfl rfl (y_pick_f rfl rfl rfl rfl (s_nil (hK140 _ _ (c_cond_f rfl (c_skip (hK139 _ _ ?_)))))))))))))))))))))))
    refine c_region (t_move rfl rfl rfl (t_ari rfl rfl rfl rfl rfl (by omega) (t_assign rfl rfl rfl (t_nil' ?_))))
    exact hK132 (k + 1) _ _ (by omega) ⟨rfl, rfl, rfl, rfl, rfl, rfl, rfl, rfl, trivial⟩ ⟨((((u134.next u142 (fun _ _ h => h.elim)).next u154 (fun _ _ h => h.elim)).next u161 (fun _ _ h => h.elim)).next u167 (fun _ _ h => h.elim)), (by omega)⟩
   refine c_exit ?_
   exact hK81 0 _ _ ⟨rfl, rfl, rfl, rfl, rfl, trivial⟩ (((((((((Upd.refl _ _).next u86 (fun _ _ h => h.elim)).next u93 (fun _ _ h => h.elim)).next u100 (fun _ _ h => h.elim)).next u106 (fun _ _ h => h.elim)).next u112 (fun _ _ h => h.elim)).next u120 (fun i hi h => by omega)).next u126 (fun _ _ h => h.elim)).next u134 (fun _ _ h => h.elim))
  refine c_seq fun K181 hK181 => (c_region (t_move rfl rfl rfl (t_move rfl rfl rfl (t_len Try.underlying26 rfl rfl rfl rfl (t_cmp rfl rfl rfl rfl rfl (t_nil' (hK181 _ _ (c_condp rfl (fun g147 => ?_) (fun g147 => ?_)))))))))
  ·
   exact absurd (snoc_at hz (by omega) (shE_ok hr) g85) g147
  refine c_skip ?_
  exact hK81 0 _ _ ⟨rfl, rfl, rfl, rfl, rfl, trivial⟩ ((((Upd.refl _ _).next u86 (fun _ _ h => h.elim)).next u93 (fun _ _ h => h.elim)).next u100 (fun _ _ h => h.elim))
 intro z w82 u83
 have zu83 := u83.size
 refine c_seq fun K183 hK183 => (c_region (t_move rfl rfl rfl ?_))
 have D185 := ((((D61.keep u64 (fun _ h => h)).keep u70 (fun _ h => h)).keep u78 (fun hp => by have h9 := hdn.lt hp; show ¬ ((gD = gE60 ∧ baE60 ≤ gD)); omega)).keep u83 (fun hp => by have h9 := hdn.lt hp; show ¬ ((gD = gb74 ∧ baE60 ≤ gD)); omega))
 refine t_call own13 rfl rfl rfl rfl (eventsA_c (done xs) aoD gD 0 cD _ D185 (by first | omega | (simp only [List.length_append, List.length_singleton]; omega))) (fun v186 w187 r189 => ?_)
 obtain ⟨aoE184, gE184, cE184, baE184, rfl, hkE184, hbE184, hzE184, u188⟩ := r189
 have zu188 := u188.size
 have lt_gE184 := hkE184.lt
 refine t_move rfl rfl rfl (t_build (ps := [(0, .int .i64 4), (1, .int .i64 100), (4, .int .i64 (p0 % 4)), (7, .int .i64 1000)]) (v := .agg #[.int .i64 4, .int .i64 100, .int .i64 0, .int .i64 0, .int .i64 (p0 % 4), .int .i64 0, .int .i64 0, .int .i64 1000]) rfl rfl ⟨rfl, rfl⟩ (fun w => by kernel_rfl) (t_bslice (ps := [(0, .agg #[.int .i64 4, .int .i64 100, .int .i64 0, .int .i64 0, .int .i64 (p0 % 4), .int .i64 0, .int .i64 0, .int .i64 1000])]) (cs := [.int .i64 4, .int .i64 100, .int .i64 0, .int .i64 0, .int .i64 (p0 % 4), .int .i64 0, .int .i64 0, .int .i64 1000]) (e := 41) rfl rfl ⟨rfl, rfl⟩ (fun w => by kernel_rfl) (fun bk191 w192 ebk191 sbk191 B193 u194 => ?_)))
 have zu194 := u194.size
 have D196 := (hkE184.keep u194 (fun _ h => h))
 refine t_append (z := .agg #[.int .i64 0, .int .i64 0, .int .i64 0, .int .i64 0, .int .i64 0, .int .i64 0, .int .i64 0, .int .i64 0]) (bytes := 64) (k := 8) (base := baE184) (seE (p0 % 4) 1000) Try.underlying26 (by kernel_rfl) rfl (by decide) (fun _ => rfl) (by intro x; simp [encEv, Value.oneCell']) rfl rfl rfl rfl D196 B193 (by omega) (by omega) (by decide) (fun ao197 gb198 cp199 w200 A201 u202 gegb198 lngb198 => ?_)
 have zu202 := u202.size
 have lt_gb198 := A201.lt
 refine t_assign rfl rfl rfl (t_nil' (hK183 _ _ (c_seq fun K204 hK204 => (c_seq fun K205 hK205 => (c_drawnM follows (fun _ => False) (.look 0 (.look 1 (.act 2 (.act 3 (.look 4 (.look 5 (.look 6 (.look 7 (.look 8 (.look 9 (.look 10 .done))))))) .stop) .stop))) (by kernel_rfl) fun w206 u207 => ?_)))))
 have zu207 := u207.size
 have B209 := ((((((((((((B30.kx u36).kx u40).kx u47).kx u54).kx u64).kx u70).keep u78 (by omega)).keep u83 (by omega)).kx u188).kx u194).keep u202 (by omega)).kx u207)
 refine y_loadN (vs := [.slice (some ⟨bfB16, 0, none⟩) 4 4, .slice (some ⟨bfH17, 0, none⟩) 4 4]) Try.isAgg25 Try.sizeOf25 rfl rfl rfl (B209.at.sub 0 2) rfl (fun h => h) (y_move rfl rfl rfl (s_do ?_))
 have D211 := (A201.keep u207 (fun _ h => h))
 refine t_call own13 rfl rfl rfl rfl (eventsA_c ((done xs) ++ [(seE (p0 % 4) 1000)]) ao197 gb198 0 cp199 _ (D211.sl (fun _ => rfl)) (by first | omega | (simp only [List.length_append, List.length_singleton]; omega))) (fun v212 w213 r215 => ?_)
 obtain ⟨aoE210, gE210, cE210, baE210, rfl, hkE210, hbE210, hzE210, u214⟩ := r215
 have zu214 := u214.size
 have lt_gE210 := hkE210.lt
 refine s_next ((Upd.refl _ _).nx u214) (s_do ?_)
 have D217 := ((((((((((D50.keep u54 (fun _ h => h)).keep u64 (fun _ h => h)).keep u70 (fun _ h => h)).keep u78 (fun hp => by have h9 := hkfB16.lt hp; show ¬ ((bfB16 = gE60 ∧ baE60 ≤ bfB16)); omega)).keep u83 (fun hp => by have h9 := hkfB16.lt hp; show ¬ ((bfB16 = gb74 ∧ baE60 ≤ bfB16)); omega)).keep u188 (fun _ h => h)).keep u194 (fun _ h => h)).keep u202 (fun hp => by have h9 := hkfB16.lt hp; show ¬ ((bfB16 = gE184 ∧ baE184 ≤ bfB16)); omega)).keep u207 (fun _ h => h)).keep u214 (fun _ h => h))
 have D218 := ((((((((((D51.keep u54 (fun _ h => h)).keep u64 (fun _ h => h)).keep u70 (fun _ h => h)).keep u78 (fun hp => by have h9 := hkfH17.lt hp; show ¬ ((bfH17 = gE60 ∧ baE60 ≤ bfH17)); omega)).keep u83 (fun hp => by have h9 := hkfH17.lt hp; show ¬ ((bfH17 = gb74 ∧ baE60 ≤ bfH17)); omega)).keep u188 (fun _ h => h)).keep u194 (fun _ h => h)).keep u202 (fun hp => by have h9 := hkfH17.lt hp; show ¬ ((bfH17 = gE184 ∧ baE184 ≤ bfH17)); omega)).keep u207 (fun _ h => h)).keep u214 (fun _ h => h))
 refine t_call own15 rfl rfl rfl rfl (ReplayU_c fourB (some ⟨bfB16, 0, none⟩) bfB16 0 4 fourH (some ⟨bfH17, 0, none⟩) bfH17 0 4 ((done xs) ++ [(seE (p0 % 4) 1000)]) aoE210 gE210 0 cE210 _ D217 D218 (by decide) (by decide) (hkE210.sl (fun _ => rfl)) (by first | omega | (simp only [List.length_append, List.length_singleton]; omega)) (by omega)) (fun v219 w220 r222 => ?_)
 obtain ⟨⟨aoC, gC, cC, rowsC, rfl, hroC, hrlC, h1C, h2C⟩, u221⟩ := r222
 have zu221 := u221.size
 have E223 := (((((((((((((((((E6.nx u10).nx u20).nx u26).next u29 (fun i hi h => by omega)).nx u36).nx u40).nx u47).nx u54).nx u64).nx u70).next u78 (fun i hi h => by omega)).next u83 (fun i hi h => by omega)).nx u188).nx u194).next u202 (fun i hi h => by omega)).nx u207).nx u214).nx u221
 refine s_next ((Upd.refl _ _).nx u221) (y_move rfl rfl rfl (y_extract rfl rfl rfl rfl (y_extract rfl rfl rfl rfl (y_extract rfl rfl rfl rfl (y_assign rfl rfl rfl (y_assign rfl rfl rfl (y_assign rfl rfl rfl (s_nil (hK205 _ _ (c_seq fun K224 hK224 => (c_region (t_move rfl rfl rfl (t_cmp rfl rfl rfl rfl rfl (t_nil' (hK224 _ _ (c_condp rfl (fun g163 => ?_) (fun g163 => ?_)))))))))))))))))
 ·
  obtain ⟨hs1, hs2⟩ := seal_no hz hdl (by omega) hf (done_seals hxs) g163
  refine c_same 25 (v := .int .i64 9) rfl (congrArg (Value.int .i64) hs1) (c_same 24 (v := .int .i64 ((done xs).length : Int)) rfl (congrArg (Value.int .i64) hs2) (c_seq fun K225 hK225 => (c_region (t_move rfl rfl rfl (t_cmp rfl rfl rfl rfl rfl (t_samehd (v := .bool true) rfl (t_move rfl rfl rfl (t_move rfl rfl rfl (t_move rfl rfl rfl (t_len Try.underlying26 rfl rfl rfl rfl (t_cmp rfl rfl rfl rfl rfl (t_samehd (v := .bool true) (by simp) (t_pick_t rfl rfl rfl rfl (t_move rfl rfl rfl (t_call own11 rfl rfl rfl rfl (known_c _) (fun v226 w227 r229 => ?_))))))))))))))))
  obtain ⟨rfl, u228⟩ := r229
  have zu228 := u228.size
  refine t_pick_t rfl rfl rfl rfl (t_assign rfl rfl rfl (t_nil' (hK225 _ _ (c_ret (f_ret1 (v := .bool true) Try.results8 rfl ?_)))))
  exact ⟨rfl, (E223.nx u228)⟩
 have h163 := Decidable.not_not.1 g163
 refine c_skip (hK204 _ _ (c_seq fun K231 hK231 => (c_seq fun K232 hK232 => (c_region (t_assign rfl rfl rfl (t_nil' (hK232 _ _ (c_block (c_rounds 4 (WR.weak [(3, .pointer (some ⟨bk2, 0, none⟩)), (7, .pointer (some ⟨bk23, 0, none⟩)), (8, .int .i64 (p0 % 4)), (11, .slice aoH 4 cH), (22, .slice ao197 ((((done xs) ++ [(seE (p0 % 4) 1000)])).length) cp199), (26, .int .i64 0)] ⟨rfl, rfl, rfl, rfl, rfl, rfl, trivial⟩ (r_round fun K233 hK233 => (c_seq fun K234 hK234 => (c_seq fun K235 hK235 => (c_region (t_move rfl rfl rfl (t_cmp rfl rfl rfl rfl rfl (t_samehd (v := .bool true) rfl (t_nil' (hK235 _ _ (c_cond_t rfl (c_skip (hK234 _ _ (c_seq fun K236 hK236 => ?_)))))))))))))))))))))))
 refine c_block (c_seq fun K237 hK237 => (c_region (t_indexArr (j := 3) (3) Try.underlying99 Try.sizeOf5 rfl rfl rfl rfl rfl (by decide) rfl ?_)))
 have B238 := ((((((((((((((B34.kx u36).kx u40).kx u47).kx u54).kx u64).kx u70).keep u78 (by omega)).keep u83 (by omega)).kx u188).kx u194).keep u202 (by omega)).kx u207).kx u214).kx u221)
 refine t_load Try.isAgg5 rfl rfl rfl (B238.get rfl) (t_conv Try.underlying5 Try.underlying3 rfl rfl rfl (IntWalk.i64_in _ (by omega)) (t_rem rfl rfl rfl rfl (by omega) (by omega) (t_move rfl rfl rfl (t_indexArr (j := 3) (3) Try.underlying99 Try.sizeOf5 rfl rfl rfl rfl rfl (by decide) rfl (t_load Try.isAgg5 rfl rfl rfl (B238.get rfl) (t_conv Try.underlying5 Try.underlying3 rfl rfl rfl (IntWalk.i64_in _ (by omega)) (t_rem rfl rfl rfl rfl (by omega) (by omega) (t_quo rfl rfl rfl rfl (by omega) (by omega) (t_ari rfl rfl rfl rfl rfl (by omega) (t_build (ps := [(0, .int .i64 1), (2, .int .i64 (p3 % 4)), (4, .int .i64 (p0 % 4)), (5, .int .i64 1), (6, .int .i64 (1 + ((p3 % 4) / 2)))]) (v := .agg #[.int .i64 1, .int .i64 0, .int .i64 (p3 % 4), .int .i64 0, .int .i64 (p0 % 4), .int .i64 1, .int .i64 (1 + ((p3 % 4) / 2)), .int .i64 0]) rfl rfl ⟨rfl, rfl⟩ (fun w => by kernel_rfl) (t_move rfl rfl rfl (t_build (ps := [(0, .int .i64 3), (3, .int .i64 (p0 % 4)), (5, .int .i64 1), (6, .int .i64 1)]) (v := .agg #[.int .i64 3, .int .i64 0, .int .i64 0, .int .i64 (p0 % 4), .int .i64 0, .int .i64 1, .int .i64 1, .int .i64 0]) rfl rfl ⟨rfl, rfl⟩ (fun w => by kernel_rfl) (t_move rfl rfl rfl (t_build (ps := [(0, .int .i64 4), (4, .int .i64 (p0 % 4)), (7, .int .i64 1001)]) (v := .agg #[.int .i64 4, .int .i64 0, .int .i64 0, .int .i64 0, .int .i64 (p0 % 4), .int .i64 0, .int .i64 0, .int .i64 1001]) rfl rfl ⟨rfl, rfl⟩ (fun w => by kernel_rfl) (t_build (ps := [(0, .agg #[.int .i64 1, .int .i64 0, .int .i64 (p3 % 4), .int .i64 0, .int .i64 (p0 % 4), .int .i64 1, .int .i64 (1 + ((p3 % 4) / 2)), .int .i64 0]), (1, .agg #[.int .i64 3, .int .i64 0, .int .i64 0, .int .i64 (p0 % 4), .int .i64 0, .int .i64 1, .int .i64 1, .int .i64 0]), (2, .agg #[.int .i64 4, .int .i64 0, .int .i64 0, .int .i64 0, .int .i64 (p0 % 4), .int .i64 0, .int .i64 0, .int .i64 1001])]) (v := .agg #[.int .i64 1, .int .i64 0, .int .i64 (p3 % 4), .int .i64 0, .int .i64 (p0 % 4), .int .i64 1, .int .i64 (1 + ((p3 % 4) / 2)), .int .i64 0, .int .i64 3, .int .i64 0, .int .i64 0, .int .i64 (p0 % 4), .int .i64 0, .int .i64 1, .int .i64 1, .int .i64 0, .int .i64 4, .int .i64 0, .int .i64 0, .int .i64 0, .int .i64 (p0 % 4), .int .i64 0, .int .i64 0, .int .i64 1001]) rfl rfl ⟨rfl, rfl⟩ (fun w => by kernel_rfl) (t_move rfl rfl rfl (t_idxvN (vs := [.int .i64 1, .int .i64 0, .int .i64 (p3 % 4), .int .i64 0, .int .i64 (p0 % 4), .int .i64 1, .int .i64 (1 + ((p3 % 4) / 2)), .int .i64 0]) 0 Try.underlying101 Try.isAgg41 Try.sizeOf41 rfl rfl rfl rfl rfl (by decide) rfl (t_alloc (cs := [.int .i64 0, .int .i64 0, .int .i64 0, .int .i64 0, .int .i64 0, .int .i64 0, .int .i64 0, .int .i64 0]) Try.zeroValue41 rfl rfl rfl (fun bk239 w240 ebk239 sbk239 B241 u242 => ?_)))))))))))))))))))
 have zu242 := u242.size
 refine t_st (vs := [.int .i64 1, .int .i64 0, .int .i64 (p3 % 4), .int .i64 0, .int .i64 (p0 % 4), .int .i64 1, .int .i64 (1 + ((p3 % 4) / 2)), .int .i64 0]) Try.sizeOf41 rfl rfl rfl B241 rfl rfl rfl rfl (fun w244 sw244 B246 u245 => ?_)
 have zu245 := u245.size
 have B246 : Blk w244 bk239 41 [.int .i64 1, .int .i64 0, .int .i64 (p3 % 4), .int .i64 0, .int .i64 (p0 % 4), .int .i64 1, .int .i64 (1 + ((p3 % 4) / 2)), .int .i64 0] := B246
 refine t_nil' (hK237 _ _ (c_seq fun K248 hK248 => (c_region (t_field Try.underlying41 rfl Try.sizeOf3 (1) rfl rfl rfl rfl (t_st (vs := [.int .i64 100]) Try.sizeOf3 rfl rfl rfl B246 rfl rfl rfl rfl (fun w249 sw249 B251 u250 => ?_))))))
 have zu250 := u250.size
 have B251 : Blk w249 bk239 41 [.int .i64 1, .int .i64 100, .int .i64 (p3 % 4), .int .i64 0, .int .i64 (p0 % 4), .int .i64 1, .int .i64 (1 + ((p3 % 4) / 2)), .int .i64 0] := B251
 refine t_nil' (hK248 _ _ (c_cut (γ := Nat) (fun z => [(3, .pointer (some ⟨bk2, 0, none⟩)), (7, .pointer (some ⟨bk23, 0, none⟩)), (8, .int .i64 (p0 % 4)), (11, .slice aoH 4 cH), (22, .slice ao197 ((((done xs) ++ [(seE (p0 % 4) 1000)])).length) cp199), (26, .int .i64 0), (29, .int .i64 ((((done xs) ++ [(seE (p0 % 4) 1000)])).length : Int)), (30, .int .i64 9)]) (fun z w => Upd (fun _ => False) w249 w) (fun K254 hK254 => ?_) ?_))
 ·
  refine c_drawnM follows (fun _ => False) (.look 0 (.look 1 (.look 3 (.act 2 (.act 4 (.act 5 (.act 6 (.look 7 (.look 8 (.look 9 (.look 10 (.look 11 (.look 12 (.look 13 .done))))))) .stop) .stop) .stop) (.act 4 (.act 2 (.act 5 (.act 6 (.look 7 (.look 8 (.look 9 (.look 10 (.look 11 (.look 12 (.look 13 .done))))))) .stop) .stop) .stop) .stop))))) (by kernel_rfl) fun w257 u258 => ?_
  have zu258 := u258.size
  have B260 := ((((((((((((((((((B30.kx u36).kx u40).kx u47).kx u54).kx u64).kx u70).keep u78 (by omega)).keep u83 (by omega)).kx u188).kx u194).keep u202 (by omega)).kx u207).kx u214).kx u221).kx u242).keep u245 (by omega)).keep u250 (by omega)).kx u258)
  refine y_loadN (vs := [.slice (some ⟨bfB16, 0, none⟩) 4 4, .slice (some ⟨bfH17, 0, none⟩) 4 4]) Try.isAgg25 Try.sizeOf25 rfl rfl rfl (B260.at.sub 0 2) rfl (fun h => h) (y_move rfl rfl rfl ?_)
  have B261 := (B251.kx u258)
  refine y_loadN (vs := [.int .i64 1, .int .i64 100, .int .i64 (p3 % 4), .int .i64 0, .int .i64 (p0 % 4), .int .i64 1, .int .i64 (1 + ((p3 % 4) / 2)), .int .i64 0]) Try.isAgg41 Try.sizeOf41 rfl rfl rfl (B261.at.sub 0 8) rfl (fun h => h) (s_or ?_ ?_)
  ·
   refine s_do ?_
   have D263 := ((((((D211.keep u214 (fun _ h => h)).keep u221 (fun _ h => h)).keep u242 (fun _ h => h)).keep u245 (fun hb => show ¬ (gb198 = bk239) by first | omega | assumption)).keep u250 (fun hb => show ¬ (gb198 = bk239) by first | omega | assumption)).keep u258 (fun _ h => h))
   refine t_call own13 rfl rfl rfl rfl (eventsA_c ((done xs) ++ [(seE (p0 % 4) 1000)]) ao197 gb198 0 cp199 _ (D263.sl (fun _ => rfl)) (by first | omega | (simp only [List.length_append, List.length_singleton]; omega))) (fun v264 w265 r267 => ?_)
   obtain ⟨aoE262, gE262, cE262, baE262, rfl, hkE262, hbE262, hzE262, u266⟩ := r267
   have zu266 := u266.size
   have lt_gE262 := hkE262.lt
   refine s_next ((Upd.refl _ _).nx u266) (s_do (t_bslice (ps := [(0, .agg #[.int .i64 1, .int .i64 100, .int .i64 (p3 % 4), .int .i64 0, .int .i64 (p0 % 4), .int .i64 1, .int .i64 (1 + ((p3 % 4) / 2)), .int .i64 0])]) (cs := [.int .i64 1, .int .i64 100, .int .i64 (p3 % 4), .int .i64 0, .int .i64 (p0 % 4), .int .i64 1, .int .i64 (1 + ((p3 % 4) / 2)), .int .i64 0]) (e := 41) rfl rfl ⟨rfl, rfl⟩ (fun w => by kernel_rfl) (fun bk269 w270 ebk269 sbk269 B271 u272 => ?_)))
   have zu272 := u272.size
   refine s_next ((Upd.refl _ _).nx u272) (s_do ?_)
   have D274 := (hkE262.keep u272 (fun _ h => h))
   refine t_append (z := .agg #[.int .i64 0, .int .i64 0, .int .i64 0, .int .i64 0, .int .i64 0, .int .i64 0, .int .i64 0, .int .i64 0]) (bytes := 64) (k := 8) (base := baE262) (ldE (p3 % 4) (p0 % 4) (1 + p3 % 4 / 2)) Try.underlying26 (by kernel_rfl) rfl (by decide) (fun _ => rfl) (by intro x; simp [encEv, Value.oneCell']) rfl rfl rfl rfl D274 B271 (by omega) (by simp only [List.length_append, List.length_singleton]; omega) (by decide) (fun ao275 gb276 cp277 w278 A279 u280 gegb276 lngb276 => ?_)
   have zu280 := u280.size
   have lt_gb276 := A279.lt
   refine s_next ((Upd.refl _ _).next u280 (fun i hi (h : (i = gE262 ∧ baE262 ≤ i)) => show w257.heap.size ≤ i ∨ (False) by first | omega | exact .inr h)) (s_do ?_)
   have D282 := ((((((((D217.keep u221 (fun _ h => h)).keep u242 (fun _ h => h)).keep u245 (fun hp => by have h9 := hkfB16.lt hp; show ¬ (bfB16 = bk239); omega)).keep u250 (fun hp => by have h9 := hkfB16.lt hp; show ¬ (bfB16 = bk239); omega)).keep u258 (fun _ h => h)).keep u266 (fun _ h => h)).keep u272 (fun _ h => h)).keep u280 (fun hp => by have h9 := hkfB16.lt hp; show ¬ ((bfB16 = gE262 ∧ baE262 ≤ bfB16)); omega))
   have D283 := ((((((((D218.keep u221 (fun _ h => h)).keep u242 (fun _ h => h)).keep u245 (fun hp => by have h9 := hkfH17.lt hp; show ¬ (bfH17 = bk239); omega)).keep u250 (fun hp => by have h9 := hkfH17.lt hp; show ¬ (bfH17 = bk239); omega)).keep u258 (fun _ h => h)).keep u266 (fun _ h => h)).keep u272 (fun _ h => h)).keep u280 (fun hp => by have h9 := hkfH17.lt hp; show ¬ ((bfH17 = gE262 ∧ baE262 ≤ bfH17)); omega))
   refine t_call own15 rfl rfl rfl rfl (ReplayU_c fourB (some ⟨bfB16, 0, none⟩) bfB16 0 4 fourH (some ⟨bfH17, 0, none⟩) bfH17 0 4 (((done xs) ++ [(seE (p0 % 4) 1000)]) ++ [(ldE (p3 % 4) (p0 % 4) (1 + p3 % 4 / 2))]) ao275 gb276 0 cp277 _ D282 D283 (by decide) (by decide) (A279.sl (fun _ => rfl)) (by first | omega | (simp only [List.length_append, List.length_singleton]; omega)) (by omega)) (fun v284 w285 r287 => ?_)
   obtain ⟨⟨aoY, gY, cY, rowsY, rfl, hroY, hrlY, h1Y, h2Y⟩, u286⟩ := r287
   have zu286 := u286.size
   refine s_next ((Upd.refl _ _).nx u286) (y_move rfl rfl rfl (y_extract rfl rfl rfl rfl (y_extract rfl rfl rfl rfl (y_same 208 (v := .int .i64 ((((done xs) ++ [(seE (p0 % 4) 1000)])).length : Int)) rfl (congrArg (Value.int .i64) (ld_no hz hdl hf h163 (by omega) (by omega)).2) (y_extract rfl rfl rfl rfl (y_same 209 (v := .int .i64 9) rfl (congrArg (Value.int .i64) (ld_no hz hdl hf h163 (by omega) (by omega)).1) (y_assign rfl rfl rfl (y_assign rfl rfl rfl (y_assign rfl rfl rfl (s_nil ?_))))))))))
   exact hK254 0 _ _ ⟨rfl, rfl, rfl, rfl, rfl, rfl, rfl, rfl, trivial⟩ ((((((Upd.refl _ _).next u258 (fun _ _ h => h.elim)).next u266 (fun _ _ h => h.elim)).next u272 (fun _ _ h => h.elim)).next u280 (fun i hi h => by omega)).next u286 (fun _ _ h => h.elim))
  refine s_do (t_bslice (ps := [(0, .agg #[.int .i64 1, .int .i64 100, .int .i64 (p3 % 4), .int .i64 0, .int .i64 (p0 % 4), .int .i64 1, .int .i64 (1 + ((p3 % 4) / 2)), .int .i64 0])]) (cs := [.int .i64 1, .int .i64 100, .int .i64 (p3 % 4), .int .i64 0, .int .i64 (p0 % 4), .int .i64 1, .int .i64 (1 + ((p3 % 4) / 2)), .int .i64 0]) (e := 41) rfl rfl ⟨rfl, rfl⟩ (fun w => by kernel_rfl) (fun bk289 w290 ebk289 sbk289 B291 u292 => ?_))
  have zu292 := u292.size
  refine s_next ((Upd.refl _ _).nx u292) (s_do ?_)
  have D295 := (((((((D211.keep u214 (fun _ h => h)).keep u221 (fun _ h => h)).keep u242 (fun _ h => h)).keep u245 (fun hb => show ¬ (gb198 = bk239) by first | omega | assumption)).keep u250 (fun hb => show ¬ (gb198 = bk239) by first | omega | assumption)).keep u258 (fun _ h => h)).keep u292 (fun _ h => h))
  refine t_call own13 rfl rfl rfl rfl (eventsA_c ((done xs) ++ [(seE (p0 % 4) 1000)]) ao197 gb198 0 cp199 _ (D295.sl (fun _ => rfl)) (by first | omega | (simp only [List.length_append, List.length_singleton]; omega))) (fun v296 w297 r299 => ?_)
  obtain ⟨aoE294, gE294, cE294, baE294, rfl, hkE294, hbE294, hzE294, u298⟩ := r299
  have zu298 := u298.size
  have lt_gE294 := hkE294.lt
  refine s_next ((Upd.refl _ _).nx u298) (s_do ?_)
  have B301 := (B291.kx u298)
  refine t_append (z := .agg #[.int .i64 0, .int .i64 0, .int .i64 0, .int .i64 0, .int .i64 0, .int .i64 0, .int .i64 0, .int .i64 0]) (bytes := 64) (k := 8) (base := baE294) (ldE (p3 % 4) (p0 % 4) (1 + p3 % 4 / 2)) Try.underlying26 (by kernel_rfl) rfl (by decide) (fun _ => rfl) (by intro x; simp [encEv, Value.oneCell']) rfl rfl rfl rfl hkE294 B301 (by omega) (by simp only [List.length_append, List.length_singleton]; omega) (by decide) (fun ao302 gb303 cp304 w305 A306 u307 gegb303 lngb303 => ?_)
  have zu307 := u307.size
  have lt_gb303 := A306.lt
  refine s_next ((Upd.refl _ _).next u307 (fun i hi (h : (i = gE294 ∧ baE294 ≤ i)) => show w257.heap.size ≤ i ∨ (False) by first | omega | exact .inr h)) (s_do ?_)
  have D309 := ((((((((D217.keep u221 (fun _ h => h)).keep u242 (fun _ h => h)).keep u245 (fun hp => by have h9 := hkfB16.lt hp; show ¬ (bfB16 = bk239); omega)).keep u250 (fun hp => by have h9 := hkfB16.lt hp; show ¬ (bfB16 = bk239); omega)).keep u258 (fun _ h => h)).keep u292 (fun _ h => h)).keep u298 (fun _ h => h)).keep u307 (fun hp => by have h9 := hkfB16.lt hp; show ¬ ((bfB16 = gE294 ∧ baE294 ≤ bfB16)); omega))
  have D310 := ((((((((D218.keep u221 (fun _ h => h)).keep u242 (fun _ h => h)).keep u245 (fun hp => by have h9 := hkfH17.lt hp; show ¬ (bfH17 = bk239); omega)).keep u250 (fun hp => by have h9 := hkfH17.lt hp; show ¬ (bfH17 = bk239); omega)).keep u258 (fun _ h => h)).keep u292 (fun _ h => h)).keep u298 (fun _ h => h)).keep u307 (fun hp => by have h9 := hkfH17.lt hp; show ¬ ((bfH17 = gE294 ∧ baE294 ≤ bfH17)); omega))
  refine t_call own15 rfl rfl rfl rfl (ReplayU_c fourB (some ⟨bfB16, 0, none⟩) bfB16 0 4 fourH (some ⟨bfH17, 0, none⟩) bfH17 0 4 (((done xs) ++ [(seE (p0 % 4) 1000)]) ++ [(ldE (p3 % 4) (p0 % 4) (1 + p3 % 4 / 2))]) ao302 gb303 0 cp304 _ D309 D310 (by decide) (by decide) (A306.sl (fun _ => rfl)) (by first | omega | (simp only [List.length_append, List.length_singleton]; omega)) (by omega)) (fun v311 w312 r314 => ?_)
  obtain ⟨⟨aoY, gY, cY, rowsY, rfl, hroY, hrlY, h1Y, h2Y⟩, u313⟩ := r314
  have zu313 := u313.size
  refine s_next ((Upd.refl _ _).nx u313) (y_move rfl rfl rfl (y_extract rfl rfl rfl rfl (y_extract rfl rfl rfl rfl (y_same 208 (v := .int .i64 ((((done xs) ++ [(seE (p0 % 4) 1000)])).length : Int)) rfl (congrArg (Value.int .i64) (ld_no hz hdl hf h163 (by omega) (by omega)).2) (y_extract rfl rfl rfl rfl (y_same 209 (v := .int .i64 9) rfl (congrArg (Value.int .i64) (ld_no hz hdl hf h163 (by omega) (by omega)).1) (y_assign rfl rfl rfl (y_assign rfl rfl rfl (y_assign rfl rfl rfl (s_nil ?_))))))))))
  exact hK254 0 _ _ ⟨rfl, rfl, rfl, rfl, rfl, rfl, rfl, rfl, trivial⟩ ((((((Upd.refl _ _).next u258 (fun _ _ h => h.elim)).next u292 (fun _ _ h => h.elim)).next u298 (fun _ _ h => h.elim)).next u307 (fun i hi h => by omega)).next u313 (fun _ _ h => h.elim))
 intro z w255 u256
 have zu256 := u256.size
 refine c_seq fun K317 hK317 => (c_region (t_move rfl rfl rfl (t_cmp rfl rfl rfl rfl rfl (t_samehd (v := .bool false) rfl (t_move rfl rfl rfl (t_move rfl rfl rfl (t_move rfl rfl rfl (t_len Try.underlying26 rfl rfl rfl rfl (t_cmp rfl rfl rfl rfl rfl (t_samehd (v := .bool false) (by simp) (t_pick_f rfl rfl rfl rfl (t_nil' (hK317 _ _ (c_cond_f rfl (c_skip (hK236 _ _ (c_region (t_move rfl rfl rfl (t_ari rfl rfl rfl rfl rfl (by omega) (t_samehd (v := .int .i64 1) rfl (t_assign rfl rfl rfl (t_nil' (hK233 _ _ ?_)))))))))))))))))))))))
 refine WR.weak [(3, .pointer (some ⟨bk2, 0, none⟩)), (7, .pointer (some ⟨bk23, 0, none⟩)), (8, .int .i64 (p0 % 4)), (11, .slice aoH 4 cH), (22, .slice ao197 ((((done xs) ++ [(seE (p0 % 4) 1000)])).length) cp199), (26, .int .i64 1)] ⟨rfl, rfl, rfl, rfl, rfl, rfl, trivial⟩ (r_round fun K318 hK318 => (c_seq fun K319 hK319 => (c_seq fun K320 hK320 => (c_region (t_move rfl rfl rfl (t_cmp rfl rfl rfl rfl rfl (t_samehd (v := .bool true) rfl (t_nil' (hK320 _ _ (c_cond_t rfl (c_skip (hK319 _ _ (c_seq fun K321 hK321 => (c_block (c_seq fun K322 hK322 => (c_region (t_indexArr (j := 3) (3) Try.underlying99 Try.sizeOf5 rfl rfl rfl rfl rfl (by decide) rfl ?_)))))))))))))))))
 have B323 := ((((B238.kx u242).keep u245 (by omega)).keep u250 (by omega)).kx u256)
 refine t_load Try.isAgg5 rfl rfl rfl (B323.get rfl) (t_conv Try.underlying5 Try.underlying3 rfl rfl rfl (IntWalk.i64_in _ (by omega)) (t_rem rfl rfl rfl rfl (by omega) (by omega) (t_move rfl rfl rfl (t_indexArr (j := 3) (3) Try.underlying99 Try.sizeOf5 rfl rfl rfl rfl rfl (by decide) rfl (t_load Try.isAgg5 rfl rfl rfl (B323.get rfl) (t_conv Try.underlying5 Try.underlying3 rfl rfl rfl (IntWalk.i64_in _ (by omega)) (t_rem rfl rfl rfl rfl (by omega) (by omega) (t_quo rfl rfl rfl rfl (by omega) (by omega) (t_ari rfl rfl rfl rfl rfl (by omega) (t_build (ps := [(0, .int .i64 1), (2, .int .i64 (p3 % 4)), (4, .int .i64 (p0 % 4)), (5, .int .i64 1), (6, .int .i64 (1 + ((p3 % 4) / 2)))]) (v := .agg #[.int .i64 1, .int .i64 0, .int .i64 (p3 % 4), .int .i64 0, .int .i64 (p0 % 4), .int .i64 1, .int .i64 (1 + ((p3 % 4) / 2)), .int .i64 0]) rfl rfl ⟨rfl, rfl⟩ (fun w => by kernel_rfl) (t_move rfl rfl rfl (t_build (ps := [(0, .int .i64 3), (3, .int .i64 (p0 % 4)), (5, .int .i64 1), (6, .int .i64 1)]) (v := .agg #[.int .i64 3, .int .i64 0, .int .i64 0, .int .i64 (p0 % 4), .int .i64 0, .int .i64 1, .int .i64 1, .int .i64 0]) rfl rfl ⟨rfl, rfl⟩ (fun w => by kernel_rfl) (t_move rfl rfl rfl (t_build (ps := [(0, .int .i64 4), (4, .int .i64 (p0 % 4)), (7, .int .i64 1001)]) (v := .agg #[.int .i64 4, .int .i64 0, .int .i64 0, .int .i64 0, .int .i64 (p0 % 4), .int .i64 0, .int .i64 0, .int .i64 1001]) rfl rfl ⟨rfl, rfl⟩ (fun w => by kernel_rfl) (t_build (ps := [(0, .agg #[.int .i64 1, .int .i64 0, .int .i64 (p3 % 4), .int .i64 0, .int .i64 (p0 % 4), .int .i64 1, .int .i64 (1 + ((p3 % 4) / 2)), .int .i64 0]), (1, .agg #[.int .i64 3, .int .i64 0, .int .i64 0, .int .i64 (p0 % 4), .int .i64 0, .int .i64 1, .int .i64 1, .int .i64 0]), (2, .agg #[.int .i64 4, .int .i64 0, .int .i64 0, .int .i64 0, .int .i64 (p0 % 4), .int .i64 0, .int .i64 0, .int .i64 1001])]) (v := .agg #[.int .i64 1, .int .i64 0, .int .i64 (p3 % 4), .int .i64 0, .int .i64 (p0 % 4), .int .i64 1, .int .i64 (1 + ((p3 % 4) / 2)), .int .i64 0, .int .i64 3, .int .i64 0, .int .i64 0, .int .i64 (p0 % 4), .int .i64 0, .int .i64 1, .int .i64 1, .int .i64 0, .int .i64 4, .int .i64 0, .int .i64 0, .int .i64 0, .int .i64 (p0 % 4), .int .i64 0, .int .i64 0, .int .i64 1001]) rfl rfl ⟨rfl, rfl⟩ (fun w => by kernel_rfl) (t_move rfl rfl rfl (t_idxvN (vs := [.int .i64 3, .int .i64 0, .int .i64 0, .int .i64 (p0 % 4), .int .i64 0, .int .i64 1, .int .i64 1, .int .i64 0]) 1 Try.underlying101 Try.isAgg41 Try.sizeOf41 rfl rfl rfl rfl rfl (by decide) rfl (t_alloc (cs := [.int .i64 0, .int .i64 0, .int .i64 0, .int .i64 0, .int .i64 0, .int .i64 0, .int .i64 0, .int .i64 0]) Try.zeroValue41 rfl rfl rfl (fun bk324 w325 ebk324 sbk324 B326 u327 => ?_)))))))))))))))))))
 have zu327 := u327.size
 refine t_st (vs := [.int .i64 3, .int .i64 0, .int .i64 0, .int .i64 (p0 % 4), .int .i64 0, .int .i64 1, .int .i64 1, .int .i64 0]) Try.sizeOf41 rfl rfl rfl B326 rfl rfl rfl rfl (fun w329 sw329 B331 u330 => ?_)
 have zu330 := u330.size
 have B331 : Blk w329 bk324 41 [.int .i64 3, .int .i64 0, .int .i64 0, .int .i64 (p0 % 4), .int .i64 0, .int .i64 1, .int .i64 1, .int .i64 0] := B331
 refine t_nil' (hK322 _ _ (c_seq fun K333 hK333 => (c_region (t_field Try.underlying41 rfl Try.sizeOf3 (1) rfl rfl rfl rfl (t_st (vs := [.int .i64 100]) Try.sizeOf3 rfl rfl rfl B331 rfl rfl rfl rfl (fun w334 sw334 B336 u335 => ?_))))))
 have zu335 := u335.size
 have B336 : Blk w334 bk324 41 [.int .i64 3, .int .i64 100, .int .i64 0, .int .i64 (p0 % 4), .int .i64 0, .int .i64 1, .int .i64 1, .int .i64 0] := B336
 refine t_nil' (hK333 _ _ (c_cut (γ := Nat) (fun z => [(3, .pointer (some ⟨bk2, 0, none⟩)), (7, .pointer (some ⟨bk23, 0, none⟩)), (8, .int .i64 (p0 % 4)), (11, .slice aoH 4 cH), (22, .slice ao197 ((((done xs) ++ [(seE (p0 % 4) 1000)])).length) cp199), (26, .int .i64 1), (29, .int .i64 ((((done xs) ++ [(seE (p0 % 4) 1000)])).length : Int)), (30, .int .i64 9)]) (fun z w => Upd (fun _ => False) w334 w) (fun K339 hK339 => ?_) ?_))
 ·
  refine c_drawnM follows (fun _ => False) (.look 0 (.look 1 (.look 3 (.act 2 (.act 4 (.act 5 (.act 6 (.look 7 (.look 8 (.look 9 (.look 10 (.look 11 (.look 12 (.look 13 .done))))))) .stop) .stop) .stop) (.act 4 (.act 2 (.act 5 (.act 6 (.look 7 (.look 8 (.look 9 (.look 10 (.look 11 (.look 12 (.look 13 .done))))))) .stop) .stop) .stop) .stop))))) (by kernel_rfl) fun w342 u343 => ?_
  have zu343 := u343.size
  have B345 := ((((((((((((((((((((((B30.kx u36).kx u40).kx u47).kx u54).kx u64).kx u70).keep u78 (by omega)).keep u83 (by omega)).kx u188).kx u194).keep u202 (by omega)).kx u207).kx u214).kx u221).kx u242).keep u245 (by omega)).keep u250 (by omega)).kx u256).kx u327).keep u330 (by omega)).keep u335 (by omega)).kx u343)
  refine y_loadN (vs := [.slice (some ⟨bfB16, 0, none⟩) 4 4, .slice (some ⟨bfH17, 0, none⟩) 4 4]) Try.isAgg25 Try.sizeOf25 rfl rfl rfl (B345.at.sub 0 2) rfl (fun h => h) (y_move rfl rfl rfl ?_)
  have B346 := (B336.kx u343)
  refine y_loadN (vs := [.int .i64 3, .int .i64 100, .int .i64 0, .int .i64 (p0 % 4), .int .i64 0, .int .i64 1, .int .i64 1, .int .i64 0]) Try.isAgg41 Try.sizeOf41 rfl rfl rfl (B346.at.sub 0 8) rfl (fun h => h) (s_or ?_ ?_)
  ·
   refine s_do ?_
   have D348 := ((((((((((D211.keep u214 (fun _ h => h)).keep u221 (fun _ h => h)).keep u242 (fun _ h => h)).keep u245 (fun hb => show ¬ (gb198 = bk239) by first | omega | assumption)).keep u250 (fun hb => show ¬ (gb198 = bk239) by first | omega | assumption)).keep u256 (fun _ h => h)).keep u327 (fun _ h => h)).keep u330 (fun hb => show ¬ (gb198 = bk324) by first | omega | assumption)).keep u335 (fun hb => show ¬ (gb198 = bk324) by first | omega | assumption)).keep u343 (fun _ h => h))
   refine t_call own13 rfl rfl rfl rfl (eventsA_c ((done xs) ++ [(seE (p0 % 4) 1000)]) ao197 gb198 0 cp199 _ (D348.sl (fun _ => rfl)) (by first | omega | (simp only [List.length_append, List.length_singleton]; omega))) (fun v349 w350 r352 => ?_)
   obtain ⟨aoE347, gE347, cE347, baE347, rfl, hkE347, hbE347, hzE347, u351⟩ := r352
   have zu351 := u351.size
   have lt_gE347 := hkE347.lt
   refine s_next ((Upd.refl _ _).nx u351) (s_do (t_bslice (ps := [(0, .agg #[.int .i64 3, .int .i64 100, .int .i64 0, .int .i64 (p0 % 4), .int .i64 0, .int .i64 1, .int .i64 1, .int .i64 0])]) (cs := [.int .i64 3, .int .i64 100, .int .i64 0, .int .i64 (p0 % 4), .int .i64 0, .int .i64 1, .int .i64 1, .int .i64 0]) (e := 41) rfl rfl ⟨rfl, rfl⟩ (fun w => by kernel_rfl) (fun bk354 w355 ebk354 sbk354 B356 u357 => ?_)))
   have zu357 := u357.size
   refine s_next ((Upd.refl _ _).nx u357) (s_do ?_)
   have D359 := (hkE347.keep u357 (fun _ h => h))
   refine t_append (z := .agg #[.int .i64 0, .int .i64 0, .int .i64 0, .int .i64 0, .int .i64 0, .int .i64 0, .int .i64 0, .int .i64 0]) (bytes := 64) (k := 8) (base := baE347) (unE (p0 % 4)) Try.underlying26 (by kernel_rfl) rfl (by decide) (fun _ => rfl) (by intro x; simp [encEv, Value.oneCell']) rfl rfl rfl rfl D359 B356 (by omega) (by simp only [List.length_append, List.length_singleton]; omega) (by decide) (fun ao360 gb361 cp362 w363 A364 u365 gegb361 lngb361 => ?_)
   have zu365 := u365.size
   have lt_gb361 := A364.lt
   refine s_next ((Upd.refl _ _).next u365 (fun i hi (h : (i = gE347 ∧ baE347 ≤ i)) => show w342.heap.size ≤ i ∨ (False) by first | omega | exact .inr h)) (s_do ?_)
   have D367 := ((((((((((((D217.keep u221 (fun _ h => h)).keep u242 (fun _ h => h)).keep u245 (fun hp => by have h9 := hkfB16.lt hp; show ¬ (bfB16 = bk239); omega)).keep u250 (fun hp => by have h9 := hkfB16.lt hp; show ¬ (bfB16 = bk239); omega)).keep u256 (fun _ h => h)).keep u327 (fun _ h => h)).keep u330 (fun hp => by have h9 := hkfB16.lt hp; show ¬ (bfB16 = bk324); omega)).keep u335 (fun hp => by have h9 := hkfB16.lt hp; show ¬ (bfB16 = bk324); omega)).keep u343 (fun _ h => h)).keep u351 (fun _ h => h)).keep u357 (fun _ h => h)).keep u365 (fun hp => by have h9 := hkfB16.lt hp; show ¬ ((bfB16 = gE347 ∧ baE347 ≤ bfB16)); omega))
   have D368 := ((((((((((((D218.keep u221 (fun _ h => h)).keep u242 (fun _ h => h)).keep u245 (fun hp => by have h9 := hkfH17.lt hp; show ¬ (bfH17 = bk239); omega)).keep u250 (fun hp => by have h9 := hkfH17.lt hp; show ¬ (bfH17 = bk239); omega)).keep u256 (fun _ h => h)).keep u327 (fun _ h => h)).keep u330 (fun hp => by have h9 := hkfH17.lt hp; show ¬ (bfH17 = bk324); omega)).keep u335 (fun hp => by have h9 := hkfH17.lt hp; show ¬ (bfH17 = bk324); omega)).keep u343 (fun _ h => h)).keep u351 (fun _ h => h)).keep u357 (fun _ h => h)).keep u365 (fun hp => by have h9 := hkfH17.lt hp; show ¬ ((bfH17 = gE347 ∧ baE347 ≤ bfH17)); omega))
   refine t_call own15 rfl rfl rfl rfl (ReplayU_c fourB (some ⟨bfB16, 0, none⟩) bfB16 0 4 fourH (some ⟨bfH17, 0, none⟩) bfH17 0 4 (((done xs) ++ [(seE (p0 % 4) 1000)]) ++ [(unE (p0 % 4))]) ao360 gb361 0 cp362 _ D367 D368 (by decide) (by decide) (A364.sl (fun _ => rfl)) (by first | omega | (simp only [List.length_append, List.length_singleton]; omega)) (by omega)) (fun v369 w370 r372 => ?_)
   obtain ⟨⟨aoY, gY, cY, rowsY, rfl, hroY, hrlY, h1Y, h2Y⟩, u371⟩ := r372
   have zu371 := u371.size
   refine s_next ((Upd.refl _ _).nx u371) (y_move rfl rfl rfl (y_extract rfl rfl rfl rfl (y_extract rfl rfl rfl rfl (y_same 208 (v := .int .i64 ((((done xs) ++ [(seE (p0 % 4) 1000)])).length : Int)) rfl (congrArg (Value.int .i64) (un_no hz hdl hf h163).2) (y_extract rfl rfl rfl rfl (y_same 209 (v := .int .i64 9) rfl (congrArg (Value.int .i64) (un_no hz hdl hf h163).1) (y_assign rfl rfl rfl (y_assign rfl rfl rfl (y_assign rfl rfl rfl (s_nil ?_))))))))))
   exact hK339 0 _ _ ⟨rfl, rfl, rfl, rfl, rfl, rfl, rfl, rfl, trivial⟩ ((((((Upd.refl _ _).next u343 (fun _ _ h => h.elim)).next u351 (fun _ _ h => h.elim)).next u357 (fun _ _ h => h.elim)).next u365 (fun i hi h => by omega)).next u371 (fun _ _ h => h.elim))
  refine s_do (t_bslice (ps := [(0, .agg #[.int .i64 3, .int .i64 100, .int .i64 0, .int .i64 (p0 % 4), .int .i64 0, .int .i64 1, .int .i64 1, .int .i64 0])]) (cs := [.int .i64 3, .int .i64 100, .int .i64 0, .int .i64 (p0 % 4), .int .i64 0, .int .i64 1, .int .i64 1, .int .i64 0]) (e := 41) rfl rfl ⟨rfl, rfl⟩ (fun w => by kernel_rfl) (fun bk374 w375 ebk374 sbk374 B376 u377 => ?_))
  have zu377 := u377.size
  refine s_next ((Upd.refl _ _).nx u377) (s_do ?_)
  have D380 := (((((((((((D211.keep u214 (fun _ h => h)).keep u221 (fun _ h => h)).keep u242 (fun _ h => h)).keep u245 (fun hb => show ¬ (gb198 = bk239) by first | omega | assumption)).keep u250 (fun hb => show ¬ (gb198 = bk239) by first | omega | assumption)).keep u256 (fun _ h => h)).keep u327 (fun _ h => h)).keep u330 (fun hb => show ¬ (gb198 = bk324) by first | omega | assumption)).keep u335 (fun hb => show ¬ (gb198 = bk324) by first | omega | assumption)).keep u343 (fun _ h => h)).keep u377 (fun _ h => h))
  refine t_call own13 rfl rfl rfl rfl (eventsA_c ((done xs) ++ [(seE (p0 % 4) 1000)]) ao197 gb198 0 cp199 _ (D380.sl (fun _ => rfl)) (by first | omega | (simp only [List.length_append, List.length_singleton]; omega))) (fun v381 w382 r384 => ?_)
  obtain ⟨aoE379, gE379, cE379, baE379, rfl, hkE379, hbE379, hzE379, u383⟩ := r384
  have zu383 := u383.size
  have lt_gE379 := hkE379.lt
  refine s_next ((Upd.refl _ _).nx u383) (s_do ?_)
  have B386 := (B376.kx u383)
  refine t_append (z := .agg #[.int .i64 0, .int .i64 0, .int .i64 0, .int .i64 0, .int .i64 0, .int .i64 0, .int .i64 0, .int .i64 0]) (bytes := 64) (k := 8) (base := baE379) (unE (p0 % 4)) Try.underlying26 (by kernel_rfl) rfl (by decide) (fun _ => rfl) (by intro x; simp [encEv, Value.oneCell']) rfl rfl rfl rfl hkE379 B386 (by omega) (by simp only [List.length_append, List.length_singleton]; omega) (by decide) (fun ao387 gb388 cp389 w390 A391 u392 gegb388 lngb388 => ?_)
  have zu392 := u392.size
  have lt_gb388 := A391.lt
  refine s_next ((Upd.refl _ _).next u392 (fun i hi (h : (i = gE379 ∧ baE379 ≤ i)) => show w342.heap.size ≤ i ∨ (False) by first | omega | exact .inr h)) (s_do ?_)
  have D394 := ((((((((((((D217.keep u221 (fun _ h => h)).keep u242 (fun _ h => h)).keep u245 (fun hp => by have h9 := hkfB16.lt hp; show ¬ (bfB16 = bk239); omega)).keep u250 (fun hp => by have h9 := hkfB16.lt hp; show ¬ (bfB16 = bk239); omega)).keep u256 (fun _ h => h)).keep u327 (fun _ h => h)).keep u330 (fun hp => by have h9 := hkfB16.lt hp; show ¬ (bfB16 = bk324); omega)).keep u335 (fun hp => by have h9 := hkfB16.lt hp; show ¬ (bfB16 = bk324); omega)).keep u343 (fun _ h => h)).keep u377 (fun _ h => h)).keep u383 (fun _ h => h)).keep u392 (fun hp => by have h9 := hkfB16.lt hp; show ¬ ((bfB16 = gE379 ∧ baE379 ≤ bfB16)); omega))
  have D395 := ((((((((((((D218.keep u221 (fun _ h => h)).keep u242 (fun _ h => h)).keep u245 (fun hp => by have h9 := hkfH17.lt hp; show ¬ (bfH17 = bk239); omega)).keep u250 (fun hp => by have h9 := hkfH17.lt hp; show ¬ (bfH17 = bk239); omega)).keep u256 (fun _ h => h)).keep u327 (fun _ h => h)).keep u330 (fun hp => by have h9 := hkfH17.lt hp; show ¬ (bfH17 = bk324); omega)).keep u335 (fun hp => by have h9 := hkfH17.lt hp; show ¬ (bfH17 = bk324); omega)).keep u343 (fun _ h => h)).keep u377 (fun _ h => h)).keep u383 (fun _ h => h)).keep u392 (fun hp => by have h9 := hkfH17.lt hp; show ¬ ((bfH17 = gE379 ∧ baE379 ≤ bfH17)); omega))
  refine t_call own15 rfl rfl rfl rfl (ReplayU_c fourB (some ⟨bfB16, 0, none⟩) bfB16 0 4 fourH (some ⟨bfH17, 0, none⟩) bfH17 0 4 (((done xs) ++ [(seE (p0 % 4) 1000)]) ++ [(unE (p0 % 4))]) ao387 gb388 0 cp389 _ D394 D395 (by decide) (by decide) (A391.sl (fun _ => rfl)) (by first | omega | (simp only [List.length_append, List.length_singleton]; omega)) (by omega)) (fun v396 w397 r399 => ?_)
  obtain ⟨⟨aoY, gY, cY, rowsY, rfl, hroY, hrlY, h1Y, h2Y⟩, u398⟩ := r399
  have zu398 := u398.size
  refine s_next ((Upd.refl _ _).nx u398) (y_move rfl rfl rfl (y_extract rfl rfl rfl rfl (y_extract rfl rfl rfl rfl (y_same 208 (v := .int .i64 ((((done xs) ++ [(seE (p0 % 4) 1000)])).length : Int)) rfl (congrArg (Value.int .i64) (un_no hz hdl hf h163).2) (y_extract rfl rfl rfl rfl (y_same 209 (v := .int .i64 9) rfl (congrArg (Value.int .i64) (un_no hz hdl hf h163).1) (y_assign rfl rfl rfl (y_assign rfl rfl rfl (y_assign rfl rfl rfl (s_nil ?_))))))))))
  exact hK339 0 _ _ ⟨rfl, rfl, rfl, rfl, rfl, rfl, rfl, rfl, trivial⟩ ((((((Upd.refl _ _).next u343 (fun _ _ h => h.elim)).next u377 (fun _ _ h => h.elim)).next u383 (fun _ _ h => h.elim)).next u392 (fun i hi h => by omega)).next u398 (fun _ _ h => h.elim))
 intro z w340 u341
 have zu341 := u341.size
 refine c_seq fun K402 hK402 => (c_region (t_move rfl rfl rfl (t_cmp rfl rfl rfl rfl rfl (t_samehd (v := .bool false) rfl (t_move rfl rfl rfl (t_move rfl rfl rfl (t_move rfl rfl rfl (t_len Try.underlying26 rfl rfl rfl rfl (t_cmp rfl rfl rfl rfl rfl (t_samehd (v := .bool false) (by simp) (t_pick_f rfl rfl rfl rfl (t_nil' (hK402 _ _ (c_cond_f rfl (c_skip (hK321 _ _ (c_region (t_move rfl rfl rfl (t_ari rfl rfl rfl rfl rfl (by omega) (t_samehd (v := .int .i64 2) rfl (t_assign rfl rfl rfl (t_nil' (hK318 _ _ ?_)))))))))))))))))))))))
 refine WR.weak [(3, .pointer (some ⟨bk2, 0, none⟩)), (7, .pointer (some ⟨bk23, 0, none⟩)), (8, .int .i64 (p0 % 4)), (11, .slice aoH 4 cH), (22, .slice ao197 ((((done xs) ++ [(seE (p0 % 4) 1000)])).length) cp199), (26, .int .i64 2)] ⟨rfl, rfl, rfl, rfl, rfl, rfl, trivial⟩ (r_round fun K403 hK403 => (c_seq fun K404 hK404 => (c_seq fun K405 hK405 => (c_region (t_move rfl rfl rfl (t_cmp rfl rfl rfl rfl rfl (t_samehd (v := .bool true) rfl (t_nil' (hK405 _ _ (c_cond_t rfl (c_skip (hK404 _ _ (c_seq fun K406 hK406 => (c_block (c_seq fun K407 hK407 => (c_region (t_indexArr (j := 3) (3) Try.underlying99 Try.sizeOf5 rfl rfl rfl rfl rfl (by decide) rfl ?_)))))))))))))))))
 have B408 := ((((B323.kx u327).keep u330 (by omega)).keep u335 (by omega)).kx u341)
 refine t_load Try.isAgg5 rfl rfl rfl (B408.get rfl) (t_conv Try.underlying5 Try.underlying3 rfl rfl rfl (IntWalk.i64_in _ (by omega)) (t_rem rfl rfl rfl rfl (by omega) (by omega) (t_move rfl rfl rfl (t_indexArr (j := 3) (3) Try.underlying99 Try.sizeOf5 rfl rfl rfl rfl rfl (by decide) rfl (t_load Try.isAgg5 rfl rfl rfl (B408.get rfl) (t_conv Try.underlying5 Try.underlying3 rfl rfl rfl (IntWalk.i64_in _ (by omega)) (t_rem rfl rfl rfl rfl (by omega) (by omega) (t_quo rfl rfl rfl rfl (by omega) (by omega) (t_ari rfl rfl rfl rfl rfl (by omega) (t_build (ps := [(0, .int .i64 1), (2, .int .i64 (p3 % 4)), (4, .int .i64 (p0 % 4)), (5, .int .i64 1), (6, .int .i64 (1 + ((p3 % 4) / 2)))]) (v := .agg #[.int .i64 1, .int .i64 0, .int .i64 (p3 % 4), .int .i64 0, .int .i64 (p0 % 4), .int .i64 1, .int .i64 (1 + ((p3 % 4) / 2)), .int .i64 0]) rfl rfl ⟨rfl, rfl⟩ (fun w => by kernel_rfl) (t_move rfl rfl rfl (t_build (ps := [(0, .int .i64 3), (3, .int .i64 (p0 % 4)), (5, .int .i64 1), (6, .int .i64 1)]) (v := .agg #[.int .i64 3, .int .i64 0, .int .i64 0, .int .i64 (p0 % 4), .int .i64 0, .int .i64 1, .int .i64 1, .int .i64 0]) rfl rfl ⟨rfl, rfl⟩ (fun w => by kernel_rfl) (t_move rfl rfl rfl (t_build (ps := [(0, .int .i64 4), (4, .int .i64 (p0 % 4)), (7, .int .i64 1001)]) (v := .agg #[.int .i64 4, .int .i64 0, .int .i64 0, .int .i64 0, .int .i64 (p0 % 4), .int .i64 0, .int .i64 0, .int .i64 1001]) rfl rfl ⟨rfl, rfl⟩ (fun w => by kernel_rfl) (t_build (ps := [(0, .agg #[.int .i64 1, .int .i64 0, .int .i64 (p3 % 4), .int .i64 0, .int .i64 (p0 % 4), .int .i64 1, .int .i64 (1 + ((p3 % 4) / 2)), .int .i64 0]), (1, .agg #[.int .i64 3, .int .i64 0, .int .i64 0, .int .i64 (p0 % 4), .int .i64 0, .int .i64 1, .int .i64 1, .int .i64 0]), (2, .agg #[.int .i64 4, .int .i64 0, .int .i64 0, .int .i64 0, .int .i64 (p0 % 4), .int .i64 0, .int .i64 0, .int .i64 1001])]) (v := .agg #[.int .i64 1, .int .i64 0, .int .i64 (p3 % 4), .int .i64 0, .int .i64 (p0 % 4), .int .i64 1, .int .i64 (1 + ((p3 % 4) / 2)), .int .i64 0, .int .i64 3, .int .i64 0, .int .i64 0, .int .i64 (p0 % 4), .int .i64 0, .int .i64 1, .int .i64 1, .int .i64 0, .int .i64 4, .int .i64 0, .int .i64 0, .int .i64 0, .int .i64 (p0 % 4), .int .i64 0, .int .i64 0, .int .i64 1001]) rfl rfl ⟨rfl, rfl⟩ (fun w => by kernel_rfl) (t_move rfl rfl rfl (t_idxvN (vs := [.int .i64 4, .int .i64 0, .int .i64 0, .int .i64 0, .int .i64 (p0 % 4), .int .i64 0, .int .i64 0, .int .i64 1001]) 2 Try.underlying101 Try.isAgg41 Try.sizeOf41 rfl rfl rfl rfl rfl (by decide) rfl (t_alloc (cs := [.int .i64 0, .int .i64 0, .int .i64 0, .int .i64 0, .int .i64 0, .int .i64 0, .int .i64 0, .int .i64 0]) Try.zeroValue41 rfl rfl rfl (fun bk409 w410 ebk409 sbk409 B411 u412 => ?_)))))))))))))))))))
 have zu412 := u412.size
 refine t_st (vs := [.int .i64 4, .int .i64 0, .int .i64 0, .int .i64 0, .int .i64 (p0 % 4), .int .i64 0, .int .i64 0, .int .i64 1001]) Try.sizeOf41 rfl rfl rfl B411 rfl rfl rfl rfl (fun w414 sw414 B416 u415 => ?_)
 have zu415 := u415.size
 have B416 : Blk w414 bk409 41 [.int .i64 4, .int .i64 0, .int .i64 0, .int .i64 0, .int .i64 (p0 % 4), .int .i64 0, .int .i64 0, .int .i64 1001] := B416
 refine t_nil' (hK407 _ _ (c_seq fun K418 hK418 => (c_region (t_field Try.underlying41 rfl Try.sizeOf3 (1) rfl rfl rfl rfl (t_st (vs := [.int .i64 100]) Try.sizeOf3 rfl rfl rfl B416 rfl rfl rfl rfl (fun w419 sw419 B421 u420 => ?_))))))
 have zu420 := u420.size
 have B421 : Blk w419 bk409 41 [.int .i64 4, .int .i64 100, .int .i64 0, .int .i64 0, .int .i64 (p0 % 4), .int .i64 0, .int .i64 0, .int .i64 1001] := B421
 refine t_nil' (hK418 _ _ (c_cut (γ := Nat) (fun z => [(3, .pointer (some ⟨bk2, 0, none⟩)), (7, .pointer (some ⟨bk23, 0, none⟩)), (8, .int .i64 (p0 % 4)), (11, .slice aoH 4 cH), (22, .slice ao197 ((((done xs) ++ [(seE (p0 % 4) 1000)])).length) cp199), (26, .int .i64 2), (29, .int .i64 ((((done xs) ++ [(seE (p0 % 4) 1000)])).length : Int)), (30, .int .i64 9)]) (fun z w => Upd (fun _ => False) w419 w) (fun K424 hK424 => ?_) ?_))
 ·
  refine c_drawnM follows (fun _ => False) (.look 0 (.look 1 (.look 3 (.act 2 (.act 4 (.act 5 (.act 6 (.look 7 (.look 8 (.look 9 (.look 10 (.look 11 (.look 12 (.look 13 .done))))))) .stop) .stop) .stop) (.act 4 (.act 2 (.act 5 (.act 6 (.look 7 (.look 8 (.look 9 (.look 10 (.look 11 (.look 12 (.look 13 .done))))))) .stop) .stop) .stop) .stop))))) (by kernel_rfl) fun w427 u428 => ?_
  have zu428 := u428.size
  have B430 := ((((((((((((((((((((((((((B30.kx u36).kx u40).kx u47).kx u54).kx u64).kx u70).keep u78 (by omega)).keep u83 (by omega)).kx u188).kx u194).keep u202 (by omega)).kx u207).kx u214).kx u221).kx u242).keep u245 (by omega)).keep u250 (by omega)).kx u256).kx u327).keep u330 (by omega)).keep u335 (by omega)).kx u341).kx u412).keep u415 (by omega)).keep u420 (by omega)).kx u428)
  refine y_loadN (vs := [.slice (some ⟨bfB16, 0, none⟩) 4 4, .slice (some ⟨bfH17, 0, none⟩) 4 4]) Try.isAgg25 Try.sizeOf25 rfl rfl rfl (B430.at.sub 0 2) rfl (fun h => h) (y_move rfl rfl rfl ?_)
  have B431 := (B421.kx u428)
  refine y_loadN (vs := [.int .i64 4, .int .i64 100, .int .i64 0, .int .i64 0, .int .i64 (p0 % 4), .int .i64 0, .int .i64 0, .int .i64 1001]) Try.isAgg41 Try.sizeOf41 rfl rfl rfl (B431.at.sub 0 8) rfl (fun h => h) (s_or ?_ ?_)
  ·
   refine s_do ?_
   have D433 := ((((((((((((((D211.keep u214 (fun _ h => h)).keep u221 (fun _ h => h)).keep u242 (fun _ h => h)).keep u245 (fun hb => show ¬ (gb198 = bk239) by first | omega | assumption)).keep u250 (fun hb => show ¬ (gb198 = bk239) by first | omega | assumption)).keep u256 (fun _ h => h)).keep u327 (fun _ h => h)).keep u330 (fun hb => show ¬ (gb198 = bk324) by first | omega | assumption)).keep u335 (fun hb => show ¬ (gb198 = bk324) by first | omega | assumption)).keep u341 (fun _ h => h)).keep u412 (fun _ h => h)).keep u415 (fun hb => show ¬ (gb198 = bk409) by first | omega | assumption)).keep u420 (fun hb => show ¬ (gb198 = bk409) by first | omega | assumption)).keep u428 (fun _ h => h))
   refine t_call own13 rfl rfl rfl rfl (eventsA_c ((done xs) ++ [(seE (p0 % 4) 1000)]) ao197 gb198 0 cp199 _ (D433.sl (fun _ => rfl)) (by first | omega | (simp only [List.length_append, List.length_singleton]; omega))) (fun v434 w435 r437 => ?_)
   obtain ⟨aoE432, gE432, cE432, baE432, rfl, hkE432, hbE432, hzE432, u436⟩ := r437
   have zu436 := u436.size
   have lt_gE432 := hkE432.lt
   refine s_next ((Upd.refl _ _).nx u436) (s_do (t_bslice (ps := [(0, .agg #[.int .i64 4, .int .i64 100, .int .i64 0, .int .i64 0, .int .i64 (p0 % 4), .int .i64 0, .int .i64 0, .int .i64 1001])]) (cs := [.int .i64 4, .int .i64 100, .int .i64 0, .int .i64 0, .int .i64 (p0 % 4), .int .i64 0, .int .i64 0, .int .i64 1001]) (e := 41) rfl rfl ⟨rfl, rfl⟩ (fun w => by kernel_rfl) (fun bk439 w440 ebk439 sbk439 B441 u442 => ?_)))
   have zu442 := u442.size
   refine s_next ((Upd.refl _ _).nx u442) (s_do ?_)
   have D444 := (hkE432.keep u442 (fun _ h => h))
   refine t_append (z := .agg #[.int .i64 0, .int .i64 0, .int .i64 0, .int .i64 0, .int .i64 0, .int .i64 0, .int .i64 0, .int .i64 0]) (bytes := 64) (k := 8) (base := baE432) (seE (p0 % 4) 1001) Try.underlying26 (by kernel_rfl) rfl (by decide) (fun _ => rfl) (by intro x; simp [encEv, Value.oneCell']) rfl rfl rfl rfl D444 B441 (by omega) (by simp only [List.length_append, List.length_singleton]; omega) (by decide) (fun ao445 gb446 cp447 w448 A449 u450 gegb446 lngb446 => ?_)
   have zu450 := u450.size
   have lt_gb446 := A449.lt
   refine s_next ((Upd.refl _ _).next u450 (fun i hi (h : (i = gE432 ∧ baE432 ≤ i)) => show w427.heap.size ≤ i ∨ (False) by first | omega | exact .inr h)) (s_do ?_)
   have D452 := ((((((((((((((((D217.keep u221 (fun _ h => h)).keep u242 (fun _ h => h)).keep u245 (fun hp => by have h9 := hkfB16.lt hp; show ¬ (bfB16 = bk239); omega)).keep u250 (fun hp => by have h9 := hkfB16.lt hp; show ¬ (bfB16 = bk239); omega)).keep u256 (fun _ h => h)).keep u327 (fun _ h => h)).keep u330 (fun hp => by have h9 := hkfB16.lt hp; show ¬ (bfB16 = bk324); omega)).keep u335 (fun hp => by have h9 := hkfB16.lt hp; show ¬ (bfB16 = bk324); omega)).keep u341 (fun _ h => h)).keep u412 (fun _ h => h)).keep u415 (fun hp => by have h9 := hkfB16.lt hp; show ¬ (bfB16 = bk409); omega)).keep u420 (fun hp => by have h9 := hkfB16.lt hp; show ¬ (bfB16 = bk409); omega)).keep u428 (fun _ h => h)).keep u436 (fun _ h => h)).keep u442 (fun _ h => h)).keep u450 (fun hp => by have h9 := hkfB16.lt hp; show ¬ ((bfB16 = gE432 ∧ baE432 ≤ bfB16)); omega))
   have D453 := ((((((((((((((((D218.keep u221 (fun _ h => h)).keep u242 (fun _ h => h)).keep u245 (fun hp => by have h9 := hkfH17.lt hp; show ¬ (bfH17 = bk239); omega)).keep u250 (fun hp => by have h9 := hkfH17.lt hp; show ¬ (bfH17 = bk239); omega)).keep u256 (fun _ h => h)).keep u327 (fun _ h => h)).keep u330 (fun hp => by have h9 := hkfH17.lt hp; show ¬ (bfH17 = bk324); omega)).keep u335 (fun hp => by have h9 := hkfH17.lt hp; show ¬ (bfH17 = bk324); omega)).keep u341 (fun _ h => h)).keep u412 (fun _ h => h)).keep u415 (fun hp => by have h9 := hkfH17.lt hp; show ¬ (bfH17 = bk409); omega)).keep u420 (fun hp => by have h9 := hkfH17.lt hp; show ¬ (bfH17 = bk409); omega)).keep u428 (fun _ h => h)).keep u436 (fun _ h => h)).keep u442 (fun _ h => h)).keep u450 (fun hp => by have h9 := hkfH17.lt hp; show ¬ ((bfH17 = gE432 ∧ baE432 ≤ bfH17)); omega))
   refine t_call own15 rfl rfl rfl rfl (ReplayU_c fourB (some ⟨bfB16, 0, none⟩) bfB16 0 4 fourH (some ⟨bfH17, 0, none⟩) bfH17 0 4 (((done xs) ++ [(seE (p0 % 4) 1000)]) ++ [(seE (p0 % 4) 1001)]) ao445 gb446 0 cp447 _ D452 D453 (by decide) (by decide) (A449.sl (fun _ => rfl)) (by first | omega | (simp only [List.length_append, List.length_singleton]; omega)) (by omega)) (fun v454 w455 r457 => ?_)
   obtain ⟨⟨aoY, gY, cY, rowsY, rfl, hroY, hrlY, h1Y, h2Y⟩, u456⟩ := r457
   have zu456 := u456.size
   refine s_next ((Upd.refl _ _).nx u456) (y_move rfl rfl rfl (y_extract rfl rfl rfl rfl (y_extract rfl rfl rfl rfl (y_same 208 (v := .int .i64 ((((done xs) ++ [(seE (p0 % 4) 1000)])).length : Int)) rfl (congrArg (Value.int .i64) (se_no hz hdl hf h163).2) (y_extract rfl rfl rfl rfl (y_same 209 (v := .int .i64 9) rfl (congrArg (Value.int .i64) (se_no hz hdl hf h163).1) (y_assign rfl rfl rfl (y_assign rfl rfl rfl (y_assign rfl rfl rfl (s_nil ?_))))))))))
   exact hK424 0 _ _ ⟨rfl, rfl, rfl, rfl, rfl, rfl, rfl, rfl, trivial⟩ ((((((Upd.refl _ _).next u428 (fun _ _ h => h.elim)).next u436 (fun _ _ h => h.elim)).next u442 (fun _ _ h => h.elim)).next u450 (fun i hi h => by omega)).next u456 (fun _ _ h => h.elim))
  refine s_do (t_bslice (ps := [(0, .agg #[.int .i64 4, .int .i64 100, .int .i64 0, .int .i64 0, .int .i64 (p0 % 4), .int .i64 0, .int .i64 0, .int .i64 1001])]) (cs := [.int .i64 4, .int .i64 100, .int .i64 0, .int .i64 0, .int .i64 (p0 % 4), .int .i64 0, .int .i64 0, .int .i64 1001]) (e := 41) rfl rfl ⟨rfl, rfl⟩ (fun w => by kernel_rfl) (fun bk459 w460 ebk459 sbk459 B461 u462 => ?_))
  have zu462 := u462.size
  refine s_next ((Upd.refl _ _).nx u462) (s_do ?_)
  have D465 := (((((((((((((((D211.keep u214 (fun _ h => h)).keep u221 (fun _ h => h)).keep u242 (fun _ h => h)).keep u245 (fun hb => show ¬ (gb198 = bk239) by first | omega | assumption)).keep u250 (fun hb => show ¬ (gb198 = bk239) by first | omega | assumption)).keep u256 (fun _ h => h)).keep u327 (fun _ h => h)).keep u330 (fun hb => show ¬ (gb198 = bk324) by first | omega | assumption)).keep u335 (fun hb => show ¬ (gb198 = bk324) by first | omega | assumption)).keep u341 (fun _ h => h)).keep u412 (fun _ h => h)).keep u415 (fun hb => show ¬ (gb198 = bk409) by first | omega | assumption)).keep u420 (fun hb => show ¬ (gb198 = bk409) by first | omega | assumption)).keep u428 (fun _ h => h)).keep u462 (fun _ h => h))
  refine t_call own13 rfl rfl rfl rfl (eventsA_c ((done xs) ++ [(seE (p0 % 4) 1000)]) ao197 gb198 0 cp199 _ (D465.sl (fun _ => rfl)) (by first | omega | (simp only [List.length_append, List.length_singleton]; omega))) (fun v466 w467 r469 => ?_)
  obtain ⟨aoE464, gE464, cE464, baE464, rfl, hkE464, hbE464, hzE464, u468⟩ := r469
  have zu468 := u468.size
  have lt_gE464 := hkE464.lt
  refine s_next ((Upd.refl _ _).nx u468) (s_do ?_)
  have B471 := (B461.kx u468)
  refine t_append (z := .agg #[.int .i64 0, .int .i64 0, .int .i64 0, .int .i64 0, .int .i64 0, .int .i64 0, .int .i64 0, .int .i64 0]) (bytes := 64) (k := 8) (base := baE464) (seE (p0 % 4) 1001) Try.underlying26 (by kernel_rfl) rfl (by decide) (fun _ => rfl) (by intro x; simp [encEv, Value.oneCell']) rfl rfl rfl rfl hkE464 B471 (by omega) (by simp only [List.length_append, List.length_singleton]; omega) (by decide) (fun ao472 gb473 cp474 w475 A476 u477 gegb473 lngb473 => ?_)
  have zu477 := u477.size
  have lt_gb473 := A476.lt
  refine s_next ((Upd.refl _ _).next u477 (fun i hi (h : (i = gE464 ∧ baE464 ≤ i)) => show w427.heap.size ≤ i ∨ (False) by first | omega | exact .inr h)) (s_do ?_)
  have D479 := ((((((((((((((((D217.keep u221 (fun _ h => h)).keep u242 (fun _ h => h)).keep u245 (fun hp => by have h9 := hkfB16.lt hp; show ¬ (bfB16 = bk239); omega)).keep u250 (fun hp => by have h9 := hkfB16.lt hp; show ¬ (bfB16 = bk239); omega)).keep u256 (fun _ h => h)).keep u327 (fun _ h => h)).keep u330 (fun hp => by have h9 := hkfB16.lt hp; show ¬ (bfB16 = bk324); omega)).keep u335 (fun hp => by have h9 := hkfB16.lt hp; show ¬ (bfB16 = bk324); omega)).keep u341 (fun _ h => h)).keep u412 (fun _ h => h)).keep u415 (fun hp => by have h9 := hkfB16.lt hp; show ¬ (bfB16 = bk409); omega)).keep u420 (fun hp => by have h9 := hkfB16.lt hp; show ¬ (bfB16 = bk409); omega)).keep u428 (fun _ h => h)).keep u462 (fun _ h => h)).keep u468 (fun _ h => h)).keep u477 (fun hp => by have h9 := hkfB16.lt hp; show ¬ ((bfB16 = gE464 ∧ baE464 ≤ bfB16)); omega))
  have D480 := ((((((((((((((((D218.keep u221 (fun _ h => h)).keep u242 (fun _ h => h)).keep u245 (fun hp => by have h9 := hkfH17.lt hp; show ¬ (bfH17 = bk239); omega)).keep u250 (fun hp => by have h9 := hkfH17.lt hp; show ¬ (bfH17 = bk239); omega)).keep u256 (fun _ h => h)).keep u327 (fun _ h => h)).keep u330 (fun hp => by have h9 := hkfH17.lt hp; show ¬ (bfH17 = bk324); omega)).keep u335 (fun hp => by have h9 := hkfH17.lt hp; show ¬ (bfH17 = bk324); omega)).keep u341 (fun _ h => h)).keep u412 (fun _ h => h)).keep u415 (fun hp => by have h9 := hkfH17.lt hp; show ¬ (bfH17 = bk409); omega)).keep u420 (fun hp => by have h9 := hkfH17.lt hp; show ¬ (bfH17 = bk409); omega)).keep u428 (fun _ h => h)).keep u462 (fun _ h => h)).keep u468 (fun _ h => h)).keep u477 (fun hp => by have h9 := hkfH17.lt hp; show ¬ ((bfH17 = gE464 ∧ baE464 ≤ bfH17)); omega))
  refine t_call own15 rfl rfl rfl rfl (ReplayU_c fourB (some ⟨bfB16, 0, none⟩) bfB16 0 4 fourH (some ⟨bfH17, 0, none⟩) bfH17 0 4 (((done xs) ++ [(seE (p0 % 4) 1000)]) ++ [(seE (p0 % 4) 1001)]) ao472 gb473 0 cp474 _ D479 D480 (by decide) (by decide) (A476.sl (fun _ => rfl)) (by first | omega | (simp only [List.length_append, List.length_singleton]; omega)) (by omega)) (fun v481 w482 r484 => ?_)
  obtain ⟨⟨aoY, gY, cY, rowsY, rfl, hroY, hrlY, h1Y, h2Y⟩, u483⟩ := r484
  have zu483 := u483.size
  refine s_next ((Upd.refl _ _).nx u483) (y_move rfl rfl rfl (y_extract rfl rfl rfl rfl (y_extract rfl rfl rfl rfl (y_same 208 (v := .int .i64 ((((done xs) ++ [(seE (p0 % 4) 1000)])).length : Int)) rfl (congrArg (Value.int .i64) (se_no hz hdl hf h163).2) (y_extract rfl rfl rfl rfl (y_same 209 (v := .int .i64 9) rfl (congrArg (Value.int .i64) (se_no hz hdl hf h163).1) (y_assign rfl rfl rfl (y_assign rfl rfl rfl (y_assign rfl rfl rfl (s_nil ?_))))))))))
  exact hK424 0 _ _ ⟨rfl, rfl, rfl, rfl, rfl, rfl, rfl, rfl, trivial⟩ ((((((Upd.refl _ _).next u428 (fun _ _ h => h.elim)).next u462 (fun _ _ h => h.elim)).next u468 (fun _ _ h => h.elim)).next u477 (fun i hi h => by omega)).next u483 (fun _ _ h => h.elim))
 intro z w425 u426
 have zu426 := u426.size
 refine c_seq fun K487 hK487 => (c_region (t_move rfl rfl rfl (t_cmp rfl rfl rfl rfl rfl (t_samehd (v := .bool false) rfl (t_move rfl rfl rfl (t_move rfl rfl rfl (t_move rfl rfl rfl (t_len Try.underlying26 rfl rfl rfl rfl (t_cmp rfl rfl rfl rfl rfl (t_samehd (v := .bool false) (by simp) (t_pick_f rfl rfl rfl rfl (t_nil' (hK487 _ _ (c_cond_f rfl (c_skip (hK406 _ _ (c_region (t_move rfl rfl rfl (t_ari rfl rfl rfl rfl rfl (by omega) (t_samehd (v := .int .i64 3) rfl (t_assign rfl rfl rfl (t_nil' (hK403 _ _ ?_)))))))))))))))))))))))
 refine WR.weak [(3, .pointer (some ⟨bk2, 0, none⟩)), (7, .pointer (some ⟨bk23, 0, none⟩)), (8, .int .i64 (p0 % 4)), (11, .slice aoH 4 cH), (22, .slice ao197 ((((done xs) ++ [(seE (p0 % 4) 1000)])).length) cp199), (26, .int .i64 3)] ⟨rfl, rfl, rfl, rfl, rfl, rfl, trivial⟩ (r_round fun K488 hK488 => (c_seq fun K489 hK489 => (c_seq fun K490 hK490 => (c_region (t_move rfl rfl rfl (t_cmp rfl rfl rfl rfl rfl (t_samehd (v := .bool false) rfl (t_nil' (hK490 _ _ (c_cond_f rfl (c_exit (hK231 _ _ (c_seq fun K491 hK491 => (c_drawnM follows (fun i => (i = gb198 ∧ baE184 ≤ i)) (.look 0 (.look 1 (.look 2 (.look 3 (.act 4 (.act 5 (.act 6 (.look 7 (.look 8 (.look 9 (.look 10 (.look 11 (.look 12 (.look 13 .done))))))) .stop) .stop) .stop))))) (by kernel_rfl) fun w492 u493 => ?_))))))))))))))
 have zu493 := u493.size
 have B495 := (((((((((((((((((((((((((((B30.kx u36).kx u40).kx u47).kx u54).kx u64).kx u70).keep u78 (by omega)).keep u83 (by omega)).kx u188).kx u194).keep u202 (by omega)).kx u207).kx u214).kx u221).kx u242).keep u245 (by omega)).keep u250 (by omega)).kx u256).kx u327).keep u330 (by omega)).keep u335 (by omega)).kx u341).kx u412).keep u415 (by omega)).keep u420 (by omega)).kx u426).kx u493)
 refine y_loadN (vs := [.slice (some ⟨bfB16, 0, none⟩) 4 4, .slice (some ⟨bfH17, 0, none⟩) 4 4]) Try.isAgg25 Try.sizeOf25 rfl rfl rfl (B495.at.sub 0 2) rfl (by show ¬ ((bk23 = gb198 ∧ baE184 ≤ bk23)); first | omega | assumption) (y_move rfl rfl rfl (y_move rfl rfl rfl (y_build (ps := [(0, .int .i64 5), (1, .int .i64 101), (3, .int .i64 (p0 % 4))]) (v := .agg #[.int .i64 5, .int .i64 101, .int .i64 0, .int .i64 (p0 % 4), .int .i64 0, .int .i64 0, .int .i64 0, .int .i64 0]) rfl rfl ⟨rfl, rfl⟩ (fun w => by kernel_rfl) (s_do (t_bslice (ps := [(0, .agg #[.int .i64 5, .int .i64 101, .int .i64 0, .int .i64 (p0 % 4), .int .i64 0, .int .i64 0, .int .i64 0, .int .i64 0])]) (cs := [.int .i64 5, .int .i64 101, .int .i64 0, .int .i64 (p0 % 4), .int .i64 0, .int .i64 0, .int .i64 0, .int .i64 0]) (e := 41) rfl rfl ⟨rfl, rfl⟩ (fun w => by kernel_rfl) (fun bk496 w497 ebk496 sbk496 B498 u499 => ?_))))))
 have zu499 := u499.size
 refine s_next ((Upd.refl _ _).nx u499) (s_do ?_)
 have D501 := ((((((((((((((((D211.keep u214 (fun _ h => h)).keep u221 (fun _ h => h)).keep u242 (fun _ h => h)).keep u245 (fun hb => show ¬ (gb198 = bk239) by first | omega | assumption)).keep u250 (fun hb => show ¬ (gb198 = bk239) by first | omega | assumption)).keep u256 (fun _ h => h)).keep u327 (fun _ h => h)).keep u330 (fun hb => show ¬ (gb198 = bk324) by first | omega | assumption)).keep u335 (fun hb => show ¬ (gb198 = bk324) by first | omega | assumption)).keep u341 (fun _ h => h)).keep u412 (fun _ h => h)).keep u415 (fun hb => show ¬ (gb198 = bk409) by first | omega | assumption)).keep u420 (fun hb => show ¬ (gb198 = bk409) by first | omega | assumption)).keep u426 (fun _ h => h)).keep u493 (fun _ h => h)).keep u499 (fun _ h => h))
 refine t_append (z := .agg #[.int .i64 0, .int .i64 0, .int .i64 0, .int .i64 0, .int .i64 0, .int .i64 0, .int .i64 0, .int .i64 0]) (bytes := 64) (k := 8) (base := baE184) (brE (p0 % 4)) Try.underlying26 (by kernel_rfl) rfl (by decide) (fun _ => rfl) (by intro x; simp [encEv, Value.oneCell']) rfl rfl rfl rfl D501 B498 (by omega) (by simp only [List.length_append, List.length_singleton]; omega) (by decide) (fun ao502 gb503 cp504 w505 A506 u507 gegb503 lngb503 => ?_)
 have zu507 := u507.size
 have lt_gb503 := A506.lt
 refine s_next ((Upd.refl _ _).next u507 (fun i hi (h : (i = gb198 ∧ baE184 ≤ i)) => show w492.heap.size ≤ i ∨ ((i = gb198 ∧ baE184 ≤ i)) by first | omega | exact .inr h)) (s_do ?_)
 have D509 := ((((((((((((((((D217.keep u221 (fun _ h => h)).keep u242 (fun _ h => h)).keep u245 (fun hp => by have h9 := hkfB16.lt hp; show ¬ (bfB16 = bk239); omega)).keep u250 (fun hp => by have h9 := hkfB16.lt hp; show ¬ (bfB16 = bk239); omega)).keep u256 (fun _ h => h)).keep u327 (fun _ h => h)).keep u330 (fun hp => by have h9 := hkfB16.lt hp; show ¬ (bfB16 = bk324); omega)).keep u335 (fun hp => by have h9 := hkfB16.lt hp; show ¬ (bfB16 = bk324); omega)).keep u341 (fun _ h => h)).keep u412 (fun _ h => h)).keep u415 (fun hp => by have h9 := hkfB16.lt hp; show ¬ (bfB16 = bk409); omega)).keep u420 (fun hp => by have h9 := hkfB16.lt hp; show ¬ (bfB16 = bk409); omega)).keep u426 (fun _ h => h)).keep u493 (fun _ h => h)).keep u499 (fun _ h => h)).keep u507 (fun hp => by have h9 := hkfB16.lt hp; show ¬ ((bfB16 = gb198 ∧ baE184 ≤ bfB16)); omega))
 have D510 := ((((((((((((((((D218.keep u221 (fun _ h => h)).keep u242 (fun _ h => h)).keep u245 (fun hp => by have h9 := hkfH17.lt hp; show ¬ (bfH17 = bk239); omega)).keep u250 (fun hp => by have h9 := hkfH17.lt hp; show ¬ (bfH17 = bk239); omega)).keep u256 (fun _ h => h)).keep u327 (fun _ h => h)).keep u330 (fun hp => by have h9 := hkfH17.lt hp; show ¬ (bfH17 = bk324); omega)).keep u335 (fun hp => by have h9 := hkfH17.lt hp; show ¬ (bfH17 = bk324); omega)).keep u341 (fun _ h => h)).keep u412 (fun _ h => h)).keep u415 (fun hp => by have h9 := hkfH17.lt hp; show ¬ (bfH17 = bk409); omega)).keep u420 (fun hp => by have h9 := hkfH17.lt hp; show ¬ (bfH17 = bk409); omega)).keep u426 (fun _ h => h)).keep u493 (fun _ h => h)).keep u499 (fun _ h => h)).keep u507 (fun hp => by have h9 := hkfH17.lt hp; show ¬ ((bfH17 = gb198 ∧ baE184 ≤ bfH17)); omega))
 refine t_call own15 rfl rfl rfl rfl (ReplayU_c fourB (some ⟨bfB16, 0, none⟩) bfB16 0 4 fourH (some ⟨bfH17, 0, none⟩) bfH17 0 4 (((done xs) ++ [(seE (p0 % 4) 1000)]) ++ [(brE (p0 % 4))]) ao502 gb503 0 cp504 _ D509 D510 (by decide) (by decide) (A506.sl (fun _ => rfl)) (by first | omega | (simp only [List.length_append, List.length_singleton]; omega)) (by omega)) (fun v511 w512 r514 => ?_)
 obtain ⟨⟨aoO, gO, cO, rowsO, rfl, hroO, hrlO, h1O, h2O⟩, u513⟩ := r514
 have zu513 := u513.size
 obtain ⟨ho1, ho2⟩ := br_yes hz hdl hf h163
 obtain ⟨_, hor⟩ := h2O ho1
 have h4O := rows4 (sail_ok ho1) hor
 have hox := rowsOk (sail_ok ho1) (by simp only [List.length_append, List.length_singleton]; omega) hor
 refine s_next ((Upd.refl _ _).nx u513) (y_move rfl rfl rfl (y_extract rfl rfl rfl rfl (y_extract rfl rfl rfl rfl (y_extract rfl rfl rfl rfl (y_same 228 (v := .int .i64 0) rfl (congrArg (Value.int .i64) ho1) (y_assign rfl rfl rfl (y_assign rfl rfl rfl (y_assign rfl rfl rfl (s_nil (hK491 _ _ (c_seq fun K516 hK516 => (c_region (t_move rfl rfl rfl (t_cmp rfl rfl rfl rfl rfl (t_samehd (v := .bool true) rfl (t_move rfl rfl rfl (t_move rfl rfl rfl (t_move rfl rfl rfl (t_same 233 (v := .slice aoH rowsH.length cH) rfl (by rw [h4H]) ?_)))))))))))))))))))
 have D517 := ((((((((((((((((((((((((((hroH.keep u64 (fun _ h => h)).keep u70 (fun _ h => h)).keep u78 (fun hp => by have h9 := hroH.lt hp; show ¬ ((gH = gE60 ∧ baE60 ≤ gH)); omega)).keep u83 (fun hp => by have h9 := hroH.lt hp; show ¬ ((gH = gb74 ∧ baE60 ≤ gH)); omega)).keep u188 (fun _ h => h)).keep u194 (fun _ h => h)).keep u202 (fun hp => by have h9 := hroH.lt hp; show ¬ ((gH = gE184 ∧ baE184 ≤ gH)); omega)).keep u207 (fun _ h => h)).keep u214 (fun _ h => h)).keep u221 (fun _ h => h)).keep u242 (fun _ h => h)).keep u245 (fun hp => by have h9 := hroH.lt hp; show ¬ (gH = bk239); omega)).keep u250 (fun hp => by have h9 := hroH.lt hp; show ¬ (gH = bk239); omega)).keep u256 (fun _ h => h)).keep u327 (fun _ h => h)).keep u330 (fun hp => by have h9 := hroH.lt hp; show ¬ (gH = bk324); omega)).keep u335 (fun hp => by have h9 := hroH.lt hp; show ¬ (gH = bk324); omega)).keep u341 (fun _ h => h)).keep u412 (fun _ h => h)).keep u415 (fun hp => by have h9 := hroH.lt hp; show ¬ (gH = bk409); omega)).keep u420 (fun hp => by have h9 := hroH.lt hp; show ¬ (gH = bk409); omega)).keep u426 (fun _ h => h)).keep u493 (fun _ h => h)).keep u499 (fun _ h => h)).keep u507 (fun hp => by have h9 := hroH.lt hp; show ¬ ((gH = gb198 ∧ baE184 ≤ gH)); omega)).keep u513 (fun _ h => h))
 have D518 := (fun r hr => LaysR.keep ((fun r hr => LaysR.old (hrlH r hr) ((fun r hr => LaysR.keep ((fun r hr => LaysR.keep ((fun r hr => LaysR.keep ((fun r hr => LaysR.old (hrlH r hr) ((fun r hr => LaysR.old (hrlH r hr) ((fun r hr => LaysR.keep ((fun r hr => LaysR.keep ((fun r hr => LaysR.old (hrlH r hr) ((fun r hr => LaysR.old (hrlH r hr) ((fun r hr => LaysR.keep ((fun r hr => LaysR.keep ((fun r hr => LaysR.old (hrlH r hr) ((fun r hr => LaysR.old (hrlH r hr) ((fun r hr => LaysR.keep ((fun r hr => LaysR.keep ((fun r hr => LaysR.keep ((fun r hr => LaysR.keep ((fun r hr => LaysR.old (hrlH r hr) ((fun r hr => LaysR.keep ((fun r hr => LaysR.keep ((fun r hr => LaysR.old (hrlH r hr) ((fun r hr => LaysR.old (hrlH r hr) ((fun r hr => LaysR.keep ((fun r hr => LaysR.keep (hrlH r hr) u64 (fun _ _ h => h)) r hr) u70 (fun _ _ h => h)) r hr) u78 (fun k hk => by show ¬ ((k = gE60 ∧ baE60 ≤ k)); omega)) r hr) u83 (fun k hk => by show ¬ ((k = gb74 ∧ baE60 ≤ k)); omega)) r hr) u188 (fun _ _ h => h)) r hr) u194 (fun _ _ h => h)) r hr) u202 (fun k hk => by show ¬ ((k = gE184 ∧ baE184 ≤ k)); omega)) r hr) u207 (fun _ _ h => h)) r hr) u214 (fun _ _ h => h)) r hr) u221 (fun _ _ h => h)) r hr) u242 (fun _ _ h => h)) r hr) u245 (fun k hk => by show ¬ (k = bk239); omega)) r hr) u250 (fun k hk => by show ¬ (k = bk239); omega)) r hr) u256 (fun _ _ h => h)) r hr) u327 (fun _ _ h => h)) r hr) u330 (fun k hk => by show ¬ (k = bk324); omega)) r hr) u335 (fun k hk => by show ¬ (k = bk324); omega)) r hr) u341 (fun _ _ h => h)) r hr) u412 (fun _ _ h => h)) r hr) u415 (fun k hk => by show ¬ (k = bk409); omega)) r hr) u420 (fun k hk => by show ¬ (k = bk409); omega)) r hr) u426 (fun _ _ h => h)) r hr) u493 (fun _ _ h => h)) r hr) u499 (fun _ _ h => h)) r hr) u507 (fun k hk => by show ¬ ((k = gb198 ∧ baE184 ≤ k)); omega)) r hr) u513 (fun _ _ h => h))
 refine t_call own19 rfl rfl rfl rfl (holds_c rowsO rowsH aoO aoH gO gH cO cH _ hroO D517 hrlO D518 (by omega) hox) (fun v519 w520 r522 => ?_)
 obtain ⟨rfl, u521⟩ := r522
 have zu521 := u521.size
 refine t_same 234 (v := .bool true) rfl (congrArg Value.bool (decide_eq_true (hor.trans ((show _ = _ from ho2).trans hzr.symm)))) (t_pick_t rfl rfl rfl rfl (t_move rfl rfl rfl (t_call own11 rfl rfl rfl rfl (known_c _) (fun v524 w525 r527 => ?_))))
 obtain ⟨rfl, u526⟩ := r527
 have zu526 := u526.size
 refine t_pick_t rfl rfl rfl rfl (t_assign rfl rfl rfl (t_nil' (hK516 _ _ (c_ret (f_ret1 (v := .bool true) Try.results8 rfl ?_)))))
 exact ⟨rfl, ((((((((((((((((((E223.nx u242).next u245 (fun i hi h => by omega)).next u250 (fun i hi h => by omega)).nx u256).nx u327).next u330 (fun i hi h => by omega)).next u335 (fun i hi h => by omega)).nx u341).nx u412).next u415 (fun i hi h => by omega)).next u420 (fun i hi h => by omega)).nx u426).nx u493).nx u499).next u507 (fun i hi h => by omega)).nx u513).nx u521).nx u526)⟩

end Go.Proofs.Ytgkkgpenmppjcaa
