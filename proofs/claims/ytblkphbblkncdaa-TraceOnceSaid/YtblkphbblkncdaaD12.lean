/-
  The law TraceOnce: the walk. Conditions: none.
-/
import Derived.Test.YtblkphbblkncdaaD11
import Derived.Test.YtblkphbblkncdaaMkn
namespace Go.Proofs.Ytblkphbblkncdaa
open Go Go.RowKit

theorem rows4 {n : Nat} {S : Stt} (h : StOk fourB (fourH.map Hld.cap) n S) {rows : List RowL} (e : rows.map rowV = S.hold) : rows.length = 4 := by
  have h1 := h.hn
  rw [← e, List.length_map] at h1
  exact h1
theorem LaysR.old {w1 w w' : World} {S : Nat → Prop} {ao : Option Addr} {g : Nat} {xs : List HLay} (h1 : LaysR w1 ao g xs) (h : LaysR w ao g xs) (u : Upd S w w') (hS : ∀ k, k < w1.heap.size → ¬ S k) : LaysR w' ao g xs := ⟨h.1.keep u (fun hp => hS _ (h1.1.lt hp)), fun x hx => (h.2 x hx).keep u (fun hp => hS _ ((h1.2 x hx).lt hp))⟩
theorem LaysR.take {w : World} {ao : Option Addr} {g cap m : Nat} {xs : List HLay} (h : LaysR w ao g xs) (hc : xs.length ≤ cap) : LaysR w (subAddr ao cap 0 3) g (xs.take m) := ⟨Sl.subTo h.1 cap m hc, fun x hx => h.2 x (List.mem_of_mem_take hx)⟩
theorem four_cap : ∀ k : Nat, k < 4 → nth (fourH.map Hld.cap) k ≤ 2000 := by decide
theorem rowK {n : Nat} {S : Stt} (h : StOk fourB (fourH.map Hld.cap) n S) (hn : n ≤ 100) {rows : List RowL} (e : rows.map rowV = S.hold) {k : Nat} (hk : k < 4) :
    (nth rows k).xs.length ≤ 1000000 ∧ (∀ x ∈ (nth rows k).xs, 0 ≤ x.v.tons ∧ x.v.tons ≤ 1000000) ∧ (∀ x ∈ (nth rows k).xs, x.v.path.length ≤ 1000000) ∧ (nth rows k).xs.map HLay.v = nth S.hold k ∧ 0 ≤ sumT (nth S.hold k) ∧ sumT (nth S.hold k) ≤ 2000 := by
  have h4 := rows4 h e
  have e2 : (nth rows k).xs.map HLay.v = nth S.hold k := by rw [← e, nth_map rowV (by omega)]; rfl
  have hc := h.cap k hk
  have hc2 := four_cap k hk
  have ht : ∀ y ∈ nth S.hold k, LayOk n y := h.tons _ (nth_mem (by rw [h.hn]; exact hk))
  have hx : ∀ x ∈ (nth rows k).xs, LayOk n x.v := fun x hx => ht _ (by rw [← e2]; exact List.mem_map.2 ⟨x, hx, rfl⟩)
  have h5 := sumT_len (l := (nth rows k).xs.map HLay.v) (fun y hy => by rw [e2] at hy; exact (ht y hy).1)
  rw [List.length_map] at h5
  rw [e2] at h5 ⊢
  exact ⟨by omega, fun x h9 => by have := hx x h9; exact ⟨by have := this.1; omega, this.2.1⟩, fun x h9 => by have := (hx x h9).2.2; omega, rfl, by omega, by omega⟩
theorem WhereU_c (bs : List Bil) (ab : Option Addr) (bb ob cb : Nat) (hs : List Hld) (ah : Option Addr) (bh oh ch : Nat) (us : List Ev) (ae : Option Addr) (be oe ce : Nat) (bl : Int) (w0 : World) (hbs : Sl encBil 3 w0 ab bb ob bs) (hhs : Sl encHld 2 w0 ah bh oh hs) (hbl : bs.length ≤ 1000000) (hhl : hs.length ≤ 1000000) (hu : Sl encEv 8 w0 ae be oe us) (hul : us.length ≤ 1000000) (hpos : 0 < w0.heap.size) : CallsV Try.prog 21 [.agg #[.slice ab bs.length cb, .slice ah hs.length ch], .slice ae us.length ce, .int .i64 bl] w0 (fun v w' => (∃ ao g cp r e, v = .tuple #[.slice ao (List.length r) cp, .int .i64 (sAt bs hs us), .int .i64 e] ∧ Sl encShr 3 w' ao g 0 r ∧ (sEr bs hs us ≠ 0 → e = sEr bs hs us ∧ r = []) ∧ (sEr bs hs us = 0 → (¬ (0 ≤ bl ∧ bl ≤ (bs.length : Int) - 1) → e = 7 ∧ r = []) ∧ ((0 ≤ bl ∧ bl ≤ (bs.length : Int) - 1) → e = 0 ∧ r = whP bs (sailP bs hs us).1 bl))) ∧ Ext w0 w') := by
  refine (Where_c bs ab bb ob cb hs ah bh oh ch us ae be oe ce bl w0 hbs hhs hbl hhl hu hul hpos).mono ?_
  rintro v w' ⟨h, u⟩
  refine ⟨?_, u⟩
  unfold sAt sEr
  rcases h with ⟨a, e, rfl, he, h⟩ | ⟨h, h1, rfl⟩ | ⟨h, h1, ao, g, cp, r, rfl, h2, h3⟩
  · rw [h]
    exact ⟨none, 0, 0, [], e, rfl, Sl.nil _ _ _ _ _ _, fun _ => ⟨rfl, rfl⟩, fun h0 => absurd h0 he⟩
  · rw [h]
    exact ⟨none, 0, 0, [], 7, rfl, Sl.nil _ _ _ _ _ _, fun h0 => absurd rfl h0, fun _ => ⟨fun _ => ⟨rfl, rfl⟩, fun h0 => absurd h0 h1⟩⟩
  · rw [h]
    exact ⟨ao, g, cp, r, 0, rfl, h3, fun h0 => absurd rfl h0, fun _ => ⟨fun h0 => absurd h1 h0, fun _ => ⟨rfl, h2⟩⟩⟩
theorem RecallU_c (bs : List Bil) (ab : Option Addr) (bb ob cb : Nat) (hs : List Hld) (ah : Option Addr) (bh oh ch : Nat) (us : List Ev) (ae : Option Addr) (be oe ce : Nat) (bl : Int) (w0 : World) (hbs : Sl encBil 3 w0 ab bb ob bs) (hhs : Sl encHld 2 w0 ah bh oh hs) (hbl : bs.length ≤ 1000000) (hhl : hs.length ≤ 1000000) (hu : Sl encEv 8 w0 ae be oe us) (hul : us.length ≤ 1000000) (hpos : 0 < w0.heap.size) : CallsV Try.prog 23 [.agg #[.slice ab bs.length cb, .slice ah hs.length ch], .slice ae us.length ce, .int .i64 bl] w0 (fun v w' => (∃ ao g cp r e, v = .tuple #[.slice ao (List.length r) cp, .int .i64 (sAt bs hs us), .int .i64 e] ∧ Sl encI 1 w' ao g 0 r ∧ (sEr bs hs us ≠ 0 → e = sEr bs hs us ∧ r = []) ∧ (sEr bs hs us = 0 → (¬ (0 ≤ bl ∧ bl ≤ (bs.length : Int) - 1) → e = 7 ∧ r = []) ∧ ((0 ≤ bl ∧ bl ≤ (bs.length : Int) - 1) → e = 0 ∧ r = recF (sailP bs hs us).1.landed bl))) ∧ Ext w0 w') := by
  refine (Recall_c bs ab bb ob cb hs ah bh oh ch us ae be oe ce bl w0 hbs hhs hbl hhl hu hul hpos).mono ?_
  rintro v w' ⟨h, u⟩
  refine ⟨?_, u⟩
  unfold sAt sEr
  rcases h with ⟨a, e, rfl, he, h⟩ | ⟨h, h1, rfl⟩ | ⟨h, h1, ao, g, cp, r, rfl, h2, h3⟩
  · rw [h]
    exact ⟨none, 0, 0, [], e, rfl, Sl.nil _ _ _ _ _ _, fun _ => ⟨rfl, rfl⟩, fun h0 => absurd h0 he⟩
  · rw [h]
    exact ⟨none, 0, 0, [], 7, rfl, Sl.nil _ _ _ _ _ _, fun h0 => absurd rfl h0, fun _ => ⟨fun _ => ⟨rfl, rfl⟩, fun h0 => absurd h0 h1⟩⟩
  · rw [h]
    exact ⟨ao, g, cp, r, 0, rfl, h3, fun h0 => absurd rfl h0, fun _ => ⟨fun h0 => absurd h1 h0, fun _ => ⟨rfl, h2⟩⟩⟩
theorem ControlU_c (bs : List Bil) (ab : Option Addr) (bb ob cb : Nat) (hs : List Hld) (ah : Option Addr) (bh oh ch : Nat) (us : List Ev) (ae : Option Addr) (be oe ce : Nat) (w0 : World) (hbs : Sl encBil 3 w0 ab bb ob bs) (hhs : Sl encHld 2 w0 ah bh oh hs) (hbl : bs.length ≤ 1000000) (hhl : hs.length ≤ 1000000) (hu : Sl encEv 8 w0 ae be oe us) (hul : us.length ≤ 1000000) (hpos : 0 < w0.heap.size) : CallsV Try.prog 22 [.agg #[.slice ab bs.length cb, .slice ah hs.length ch], .slice ae us.length ce] w0 (fun v w' => (∃ ao g cp r, v = .tuple #[.slice ao (List.length r) cp, .int .i64 (sAt bs hs us), .int .i64 (sEr bs hs us)] ∧ Sl encCnt 4 w' ao g 0 r ∧ (sEr bs hs us ≠ 0 → r = []) ∧ (sEr bs hs us = 0 → sAt bs hs us = 0 ∧ r = (List.range bs.length).map (coP bs (sailP bs hs us).1))) ∧ Ext w0 w') := by
  refine (Control_c bs ab bb ob cb hs ah bh oh ch us ae be oe ce w0 hbs hhs hbl hhl hu hul hpos).mono ?_
  rintro v w' ⟨h, u⟩
  refine ⟨?_, u⟩
  unfold sAt sEr
  rcases h with ⟨a, e, rfl, he, h⟩ | ⟨h, ao, g, cp, r, rfl, h2, h3⟩
  · rw [h]
    exact ⟨none, 0, 0, [], rfl, Sl.nil _ _ _ _ _ _, fun _ => rfl, fun h0 => absurd h0 he⟩
  · rw [h]
    exact ⟨ao, g, cp, r, rfl, h3, fun h0 => absurd rfl h0, fun _ => ⟨rfl, h2⟩⟩
theorem own6 : Own Try.prog 6 := ⟨Try.f6, Try.func6, by kernel_rfl, by kernel_rfl⟩

set_option maxHeartbeats 4000000 in
theorem TraceOnce_c (xs : List X5) (a0 : Option Addr) (b0 o0 c0 : Nat) (w0 : World) (hl : Sl encX5 5 w0 a0 b0 o0 xs) (hll : xs.length ≤ 9223372036854775807) (hxs : ∀ x ∈ xs, okX5 x) :
    CallsV Try.prog 6 [.slice a0 xs.length c0] w0 (fun v w' => v = .bool true ∧ Ext w0 w') := by
 refine f_enter (N := 398) Try.func6 rfl rfl rfl (c_seq fun K1 hK1 => (c_region (t_assign rfl rfl rfl (t_nil' (hK1 _ _ (c_seq fun K2 hK2 => (c_region (t_move rfl rfl rfl (t_call own31 rfl rfl rfl rfl (happened_c xs a0 b0 o0 c0 _ hl hll hxs) (fun v3 w4 r6 => ?_))))))))))
 obtain ⟨aoD, gD, cD, rfl, hdn, hdc, u5⟩ := r6
 have zu5 := u5.size
 have hdl : (done xs).length ≤ 30 := done_len
 have hz := done_ok (xs := xs)
 have hso : StOk fourB (fourH.map Hld.cap) (done xs).length (sSt fourB fourH (done xs)) := sail_ok hz
 refine t_move rfl rfl rfl (t_extract rfl rfl rfl rfl (t_extract rfl rfl rfl rfl (t_assign rfl rfl rfl (t_assign rfl rfl rfl (t_nil' (hK2 _ _ (c_seq fun K8 hK8 => (c_seq fun K9 hK9 => (c_region (t_move rfl rfl rfl (t_not rfl rfl rfl (t_nil' (hK9 _ _ (c_cond_f rfl (c_skip (hK8 _ _ (c_seq fun K10 hK10 => (c_region (t_call own32 rfl rfl rfl rfl (four_c _) (fun v13 w14 r16 => ?_))))))))))))))))))))
 obtain ⟨bfB11, bfH12, rfl, hkfB11, hkfH12, gbfB11, gbfH12, u15⟩ := r16
 have zu15 := u15.size
 have pfB11 := hkfB11.lt (by decide)
 refine t_alloc (cs := [.slice none 0 0, .slice none 0 0]) Try.zeroValue25 rfl rfl rfl (fun bk18 w19 ebk18 sbk18 B20 u21 => ?_)
 have zu21 := u21.size
 refine t_st (vs := [.slice (some ⟨bfB11, 0, none⟩) 4 4, .slice (some ⟨bfH12, 0, none⟩) 4 4]) Try.sizeOf25 rfl rfl rfl B20 rfl rfl rfl rfl (fun w23 sw23 B25 u24 => ?_)
 have zu24 := u24.size
 have B25 : Blk w23 bk18 25 [.slice (some ⟨bfB11, 0, none⟩) 4 4, .slice (some ⟨bfH12, 0, none⟩) 4 4] := B25
 refine t_nil' (hK10 _ _ (c_seq fun K27 hK27 => (c_drawnM follows (fun _ => False) (.look 0 (.look 1 (.act 2 (.act 3 (.look 4 (.look 5 (.look 6 (.look 7 (.look 8 (.look 9 (.look 10 .done))))))) .stop) .stop))) (by kernel_rfl) fun w28 u29 => ?_)))
 have zu29 := u29.size
 have B31 := (B25.kx u29)
 refine y_loadN (vs := [.slice (some ⟨bfB11, 0, none⟩) 4 4, .slice (some ⟨bfH12, 0, none⟩) 4 4]) Try.isAgg25 Try.sizeOf25 rfl rfl rfl (B31.at.sub 0 2) rfl (fun h => h) (y_move rfl rfl rfl (s_do ?_))
 have D33 := ((((hdn.keep u15 (fun _ h => h)).keep u21 (fun _ h => h)).keep u24 (fun hp => by have h9 := hdn.lt hp; show ¬ (gD = bk18); omega)).keep u29 (fun _ h => h))
 refine t_call own13 rfl rfl rfl rfl (eventsA_c (done xs) aoD gD 0 cD _ D33 (by first | omega | (simp only [List.length_append, List.length_singleton]; omega))) (fun v34 w35 r37 => ?_)
 obtain ⟨aoE32, gE32, cE32, baE32, rfl, hkE32, hbE32, hzE32, u36⟩ := r37
 have zu36 := u36.size
 have lt_gE32 := hkE32.lt
 refine s_next ((Upd.refl _ _).nx u36) (s_do ?_)
 have D39 := ((((hkfB11.keep u21 (fun _ h => h)).keep u24 (fun hp => by have h9 := hkfB11.lt hp; show ¬ (bfB11 = bk18); omega)).keep u29 (fun _ h => h)).keep u36 (fun _ h => h))
 have D40 := ((((hkfH12.keep u21 (fun _ h => h)).keep u24 (fun hp => by have h9 := hkfH12.lt hp; show ¬ (bfH12 = bk18); omega)).keep u29 (fun _ h => h)).keep u36 (fun _ h => h))
 refine t_call own15 rfl rfl rfl rfl (ReplayU_c fourB (some ⟨bfB11, 0, none⟩) bfB11 0 4 fourH (some ⟨bfH12, 0, none⟩) bfH12 0 4 (done xs) aoE32 gE32 0 cE32 _ D39 D40 (by decide) (by decide) (hkE32.sl (fun _ => rfl)) (by first | omega | (simp only [List.length_append, List.length_singleton]; omega)) (by omega)) (fun v41 w42 r44 => ?_)
 obtain ⟨⟨aoH, gH, cH, rowsH, rfl, hroH, hrlH, h1H, h2H, h3H⟩, u43⟩ := r44
 have zu43 := u43.size
 obtain ⟨_, hzr⟩ := h2H hz
 have h4H := rows4 hso hzr
 refine s_next ((Upd.refl _ _).nx u43) (y_move rfl rfl rfl (y_extract rfl rfl rfl rfl (y_same 45 (v := .slice aoH 4 cH) rfl (by rw [h4H]) (y_extract rfl rfl rfl rfl (y_extract rfl rfl rfl rfl (y_same 47 (v := .int .i64 0) rfl (congrArg (Value.int .i64) hz) (y_assign rfl rfl rfl (y_assign rfl rfl rfl (y_assign rfl rfl rfl (s_nil (hK27 _ _ (c_seq fun K46 hK46 => (c_drawnM follows (fun _ => False) (.look 0 (.look 1 (.act 2 (.act 3 (.look 4 (.look 5 (.look 6 (.look 7 (.look 8 (.look 9 (.look 10 .done))))))) .stop) .stop))) (by kernel_rfl) fun w47 u48 => ?_)))))))))))))
 have zu48 := u48.size
 have B50 := ((((B25.kx u29).kx u36).kx u43).kx u48)
 refine y_loadN (vs := [.slice (some ⟨bfB11, 0, none⟩) 4 4, .slice (some ⟨bfH12, 0, none⟩) 4 4]) Try.isAgg25 Try.sizeOf25 rfl rfl rfl (B50.at.sub 0 2) rfl (fun h => h) (y_move rfl rfl rfl (s_do ?_))
 have D52 := (((D33.keep u36 (fun _ h => h)).keep u43 (fun _ h => h)).keep u48 (fun _ h => h))
 refine t_call own13 rfl rfl rfl rfl (eventsA_c (done xs) aoD gD 0 cD _ D52 (by first | omega | (simp only [List.length_append, List.length_singleton]; omega))) (fun v53 w54 r56 => ?_)
 obtain ⟨aoE51, gE51, cE51, baE51, rfl, hkE51, hbE51, hzE51, u55⟩ := r56
 have zu55 := u55.size
 have lt_gE51 := hkE51.lt
 refine s_next ((Upd.refl _ _).nx u55) (s_do ?_)
 have D58 := (((D39.keep u43 (fun _ h => h)).keep u48 (fun _ h => h)).keep u55 (fun _ h => h))
 have D59 := (((D40.keep u43 (fun _ h => h)).keep u48 (fun _ h => h)).keep u55 (fun _ h => h))
 refine t_call own22 rfl rfl rfl rfl (ControlU_c fourB (some ⟨bfB11, 0, none⟩) bfB11 0 4 fourH (some ⟨bfH12, 0, none⟩) bfH12 0 4 (done xs) aoE51 gE51 0 cE51 _ D58 D59 (by decide) (by decide) (hkE51.sl (fun _ => rfl)) (by first | omega | (simp only [List.length_append, List.length_singleton]; omega)) (by omega)) (fun v60 w61 r63 => ?_)
 obtain ⟨⟨aoC, gC, cC, rC, rfl, hlC, h1C, h2C⟩, u62⟩ := r63
 have zu62 := u62.size
 have hrC : rC = (List.range fourB.length).map (coP fourB (sSt fourB fourH (done xs))) := (h2C hz).2
 have h4C : rC.length = 4 := by rw [hrC, List.length_map, List.length_range]; rfl
 refine s_next ((Upd.refl _ _).nx u62) (y_move rfl rfl rfl (y_extract rfl rfl rfl rfl (y_same 53 (v := .slice aoC 4 cC) rfl (by rw [h4C]) (y_extract rfl rfl rfl rfl (y_extract rfl rfl rfl rfl (y_same 55 (v := .int .i64 0) rfl (congrArg (Value.int .i64) hz) (y_assign rfl rfl rfl (y_assign rfl rfl rfl (y_assign rfl rfl rfl (s_nil (hK46 _ _ (c_seq fun K65 hK65 => (c_seq fun K66 hK66 => (c_region (t_move rfl rfl rfl (t_cmp rfl rfl rfl rfl rfl (t_samehd (v := .bool false) rfl (t_move rfl rfl rfl (t_move rfl rfl rfl (t_cmp rfl rfl rfl rfl rfl (t_samehd (v := .bool false) rfl (t_pick_f rfl rfl rfl rfl (t_move rfl rfl rfl ?_)))))))))))))))))))))))
 refine t_move rfl rfl rfl (t_len Try.underlying33 rfl rfl rfl rfl (t_cmp rfl rfl rfl rfl rfl (t_samehd (v := .bool false) rfl (t_pick_f rfl rfl rfl rfl (t_move rfl rfl rfl (t_move rfl rfl rfl (t_len Try.underlying58 rfl rfl rfl rfl (t_cmp rfl rfl rfl rfl rfl (t_samehd (v := .bool false) rfl (t_pick_f rfl rfl rfl rfl (t_nil' (hK66 _ _ (c_cond_f rfl (c_skip (hK65 _ _ (c_seq fun K67 hK67 => (c_seq fun K68 hK68 => (c_region (t_assign rfl rfl rfl (t_nil' (hK68 _ _ (c_block (c_loop (γ := Nat) (fun i => [(3, .slice aoD ((done xs).length) cD), (5, .pointer (some ⟨bk18, 0, none⟩)), (6, .slice aoH 4 cH), (9, .slice aoC 4 cC), (12, .int .i64 (i : Int))]) (fun i w => Upd (fun _ => False) w61 w ∧ (i ≤ 4)) (fun i => 4 - i) 0 ⟨rfl, rfl, rfl, rfl, rfl, trivial⟩ ⟨Upd.refl _ _, (Nat.zero_le _)⟩ ?_)))))))))))))))))))))))
 intro i w70 hW K69 hK69
 obtain ⟨u71, I72⟩ := hW
 have zu71 := u71.size
 have hi := I72; clear I72
 refine c_seq fun K74 hK74 => (c_seq fun K75 hK75 => (c_region (t_move rfl rfl rfl (t_cmp rfl rfl rfl rfl rfl (t_nil' (hK75 _ _ (c_condp rfl (fun g73 => ?_) (fun g73 => ?_))))))))
 ·
  refine c_skip (hK74 _ _ (c_seq fun K76 hK76 => (c_block (c_seq fun K77 hK77 => ?_))))
  have hkr := rowK hso (by omega) hzr (k := i) (by omega)
  have h87 : ¬ (nth fourH i).cap < tonsV ((nth rowsH i).xs.map HLay.v) (-1) := by
    have h9 := (hso.cap i (by show i < 4; omega)).2
    rw [nth_map Hld.cap (show i < 4 by omega), ← hkr.2.2.2.1] at h9
    show ¬ _ < sumT _
    omega
  refine c_drawnM follows (fun _ => False) (.look 0 (.look 1 (.look 2 (.look 3 (.look 5 (.look 6 (.look 7 (.look 8 (.look 9 (.look 10 (.act 4 (.look 11 .done) .stop))))))))))) (by kernel_rfl) fun w78 u79 => ?_
  have zu79 := u79.size
  refine y_move rfl rfl rfl (y_move rfl rfl rfl ?_)
  have D81 := (((((hroH.keep u48 (fun _ h => h)).keep u55 (fun _ h => h)).keep u62 (fun _ h => h)).keep u71 (fun _ h => h)).keep u79 (fun _ h => h))
  have i82 : i < rowsH.length := (by omega)
  refine y_index (j := i) Try.underlying33 Try.sizeOf36 rfl rfl rfl rfl (D81.addr (by omega)) rfl (by omega) ?_
  have D83 := (((((hroH.keep u48 (fun _ h => h)).keep u55 (fun _ h => h)).keep u62 (fun _ h => h)).keep u71 (fun _ h => h)).keep u79 (fun _ h => h))
  refine y_load Try.isAgg36 rfl rfl rfl ((D83.at_ i (by omega)) 0 _ rfl) (fun h => h) (y_field Try.underlying25 rfl Try.sizeOf23 (1) rfl rfl rfl rfl ?_)
  have B84 := ((((((((B25.kx u29).kx u36).kx u43).kx u48).kx u55).kx u62).kx u71).kx u79)
  refine y_load Try.isAgg23 rfl rfl rfl (B84.get rfl) (fun h => h) (y_move rfl rfl rfl ?_)
  have D85 := (((D59.keep u62 (fun _ h => h)).keep u71 (fun _ h => h)).keep u79 (fun _ h => h))
  have i86 : i < fourH.length := (show i < 4 by omega)
  refine y_index (j := i) Try.underlying23 Try.sizeOf90 rfl rfl rfl rfl (D85.addr (by omega)) rfl (by omega) (y_field Try.underlying90 rfl Try.sizeOf3 (0 + i * 2 + 1) rfl rfl rfl rfl ?_)
  have D87 := (((D59.keep u62 (fun _ h => h)).keep u71 (fun _ h => h)).keep u79 (fun _ h => h))
  refine y_load Try.isAgg3 rfl rfl rfl ((D87.at_ i (show i < 4 by omega)) 1 _ rfl) (fun h => h) (s_do ?_)
  have D88 := (fun r hr => LaysR.keep ((fun r hr => LaysR.keep ((fun r hr => LaysR.keep ((fun r hr => LaysR.keep ((fun r hr => LaysR.keep (hrlH r hr) u48 (fun _ _ h => h)) r hr) u55 (fun _ _ h => h)) r hr) u62 (fun _ _ h => h)) r hr) u71 (fun _ _ h => h)) r hr) u79 (fun _ _ h => h))
  refine t_call own33 rfl rfl rfl rfl (tons11_c (nth rowsH i).xs (nth rowsH i).ao (nth rowsH i).g (nth rowsH i).cp (-1) _ (D88 (nth rowsH i) (nth_mem (by omega))).1 hkr.1 hkr.2.1) (fun v89 w90 r92 => ?_)
  obtain ⟨rfl, u91⟩ := r92
  have zu91 := u91.size
  refine s_next ((Upd.refl _ _).nx u91) (y_cmp rfl rfl rfl rfl rfl (y_samehd (v := .bool false) (by simp [h87]) (s_nil (hK77 _ _ (c_cond_f rfl (c_skip (hK76 _ _ (c_region (t_move rfl rfl rfl (t_ari rfl rfl rfl rfl rfl (by omega) (t_assign rfl rfl rfl (t_nil' ?_))))))))))))
  exact hK69 (i + 1) _ _ (by omega) ⟨rfl, rfl, rfl, rfl, rfl, trivial⟩ ⟨((u71.next u79 (fun _ _ h => h.elim)).next u91 (fun _ _ h => h.elim)), (by omega)⟩
 refine c_exit (hK67 _ _ (c_seq fun K94 hK94 => (c_seq fun K95 hK95 => (c_region (t_assign rfl rfl rfl (t_nil' (hK95 _ _ (c_block (c_loop (γ := Nat) (fun k => [(3, .slice aoD ((done xs).length) cD), (5, .pointer (some ⟨bk18, 0, none⟩)), (6, .slice aoH 4 cH), (9, .slice aoC 4 cC), (13, .int .i64 (k : Int))]) (fun k w => Upd (fun _ => False) w70 w ∧ (k ≤ 4)) (fun k => 4 - k) 0 ⟨rfl, rfl, rfl, rfl, rfl, trivial⟩ ⟨Upd.refl _ _, (Nat.zero_le _)⟩ ?_)))))))))
 intro k w97 hW K96 hK96
 obtain ⟨u98, I99⟩ := hW
 have zu98 := u98.size
 have hk := I99; clear I99
 refine c_seq fun K101 hK101 => (c_seq fun K102 hK102 => (c_region (t_move rfl rfl rfl (t_cmp rfl rfl rfl rfl rfl (t_nil' (hK102 _ _ (c_condp rfl (fun g89 => ?_) (fun g89 => ?_))))))))
 ·
  refine c_skip (hK101 _ _ (c_seq fun K103 hK103 => (c_block (c_seq fun K104 hK104 => (c_drawnM follows (fun _ => False) (.look 0 (.look 1 (.look 3 (.act 2 (.act 4 (.look 5 (.look 6 (.look 7 (.look 8 (.look 9 (.look 10 (.look 11 .done))))))) .stop) .stop)))) (by kernel_rfl) fun w105 u106 => ?_)))))
  have zu106 := u106.size
  have B108 := (((((((((B25.kx u29).kx u36).kx u43).kx u48).kx u55).kx u62).kx u71).kx u98).kx u106)
  refine y_loadN (vs := [.slice (some ⟨bfB11, 0, none⟩) 4 4, .slice (some ⟨bfH12, 0, none⟩) 4 4]) Try.isAgg25 Try.sizeOf25 rfl rfl rfl (B108.at.sub 0 2) rfl (fun h => h) (y_move rfl rfl rfl (y_move rfl rfl rfl (s_do ?_)))
  have D110 := (((((D52.keep u55 (fun _ h => h)).keep u62 (fun _ h => h)).keep u71 (fun _ h => h)).keep u98 (fun _ h => h)).keep u106 (fun _ h => h))
  refine t_call own13 rfl rfl rfl rfl (eventsA_c (done xs) aoD gD 0 cD _ D110 (by first | omega | (simp only [List.length_append, List.length_singleton]; omega))) (fun v111 w112 r114 => ?_)
  obtain ⟨aoE109, gE109, cE109, baE109, rfl, hkE109, hbE109, hzE109, u113⟩ := r114
  have zu113 := u113.size
  have lt_gE109 := hkE109.lt
  refine s_next ((Upd.refl _ _).nx u113) (s_do ?_)
  have D116 := (((((D58.keep u62 (fun _ h => h)).keep u71 (fun _ h => h)).keep u98 (fun _ h => h)).keep u106 (fun _ h => h)).keep u113 (fun _ h => h))
  have D117 := (((((D59.keep u62 (fun _ h => h)).keep u71 (fun _ h => h)).keep u98 (fun _ h => h)).keep u106 (fun _ h => h)).keep u113 (fun _ h => h))
  refine t_call own21 rfl rfl rfl rfl (WhereU_c fourB (some ⟨bfB11, 0, none⟩) bfB11 0 4 fourH (some ⟨bfH12, 0, none⟩) bfH12 0 4 (done xs) aoE109 gE109 0 cE109 (k : Int) _ D116 D117 (by decide) (by decide) (hkE109.sl (fun _ => rfl)) (by first | omega | (simp only [List.length_append, List.length_singleton]; omega)) (by omega)) (fun v118 w119 r121 => ?_)
  obtain ⟨⟨aoW, gW, cW, rW, eW, rfl, hlW, h1W, h2W⟩, u120⟩ := r121
  have zu120 := u120.size
  obtain ⟨heW, hrW⟩ := (h2W hz).2 (show 0 ≤ (k : Int) ∧ (k : Int) ≤ (fourB.length : Int) - 1 by show 0 ≤ (k : Int) ∧ (k : Int) ≤ ((4 : Nat) : Int) - 1; omega)
  have hrW2 : rW = whP fourB (sSt fourB fourH (done xs)) (k : Int) := hrW
  have hcon := cons_done (xs := xs) (k := k) (by omega)
  have hwo : WhOk (sSt fourB fourH (done xs)) k rW := by rw [hrW2]; exact wh_ok hso (by omega) hcon
  have hwl := hwo.len
  have hco := co_ok hso (k := k) (by omega) hcon hrC
  have hfr := four_rng k (by omega)
  refine s_next ((Upd.refl _ _).nx u120) (y_move rfl rfl rfl (y_extract rfl rfl rfl rfl (y_extract rfl rfl rfl rfl (y_extract rfl rfl rfl rfl (y_same 100 (v := .int .i64 0) rfl (congrArg (Value.int .i64) heW) (y_assign rfl rfl rfl (y_assign rfl rfl rfl (y_assign rfl rfl rfl (s_nil (hK104 _ _ (c_seq fun K123 hK123 => (c_drawnM follows (fun _ => False) (.look 0 (.look 1 (.look 3 (.act 2 (.act 4 (.look 5 (.look 6 (.look 7 (.look 8 (.look 9 (.look 10 (.look 11 .done))))))) .stop) .stop)))) (by kernel_rfl) fun w124 u125 => ?_))))))))))))
  have zu125 := u125.size
  have B127 := ((((((((((((B25.kx u29).kx u36).kx u43).kx u48).kx u55).kx u62).kx u71).kx u98).kx u106).kx u113).kx u120).kx u125)
  refine y_loadN (vs := [.slice (some ⟨bfB11, 0, none⟩) 4 4, .slice (some ⟨bfH12, 0, none⟩) 4 4]) Try.isAgg25 Try.sizeOf25 rfl rfl rfl (B127.at.sub 0 2) rfl (fun h => h) (y_move rfl rfl rfl (y_move rfl rfl rfl (s_do ?_)))
  have D129 := (((D110.keep u113 (fun _ h => h)).keep u120 (fun _ h => h)).keep u125 (fun _ h => h))
  refine t_call own13 rfl rfl rfl rfl (eventsA_c (done xs) aoD gD 0 cD _ D129 (by first | omega | (simp only [List.length_append, List.length_singleton]; omega))) (fun v130 w131 r133 => ?_)
  obtain ⟨aoE128, gE128, cE128, baE128, rfl, hkE128, hbE128, hzE128, u132⟩ := r133
  have zu132 := u132.size
  have lt_gE128 := hkE128.lt
  refine s_next ((Upd.refl _ _).nx u132) (s_do ?_)
  have D135 := (((D116.keep u120 (fun _ h => h)).keep u125 (fun _ h => h)).keep u132 (fun _ h => h))
  have D136 := (((D117.keep u120 (fun _ h => h)).keep u125 (fun _ h => h)).keep u132 (fun _ h => h))
  refine t_call own23 rfl rfl rfl rfl (RecallU_c fourB (some ⟨bfB11, 0, none⟩) bfB11 0 4 fourH (some ⟨bfH12, 0, none⟩) bfH12 0 4 (done xs) aoE128 gE128 0 cE128 (k : Int) _ D135 D136 (by decide) (by decide) (hkE128.sl (fun _ => rfl)) (by first | omega | (simp only [List.length_append, List.length_singleton]; omega)) (by omega)) (fun v137 w138 r140 => ?_)
  obtain ⟨⟨aoR, gR, cR, rR, eR, rfl, hlR, h1R, h2R⟩, u139⟩ := r140
  have zu139 := u139.size
  obtain ⟨heR, hrR⟩ := (h2R hz).2 (show 0 ≤ (k : Int) ∧ (k : Int) ≤ (fourB.length : Int) - 1 by show 0 ≤ (k : Int) ∧ (k : Int) ≤ ((4 : Nat) : Int) - 1; omega)
  have hrR2 : rR = recF (sSt fourB fourH (done xs)).landed (k : Int) := hrR
  refine s_next ((Upd.refl _ _).nx u139) (y_move rfl rfl rfl (y_extract rfl rfl rfl rfl (y_extract rfl rfl rfl rfl (y_extract rfl rfl rfl rfl (y_same 109 (v := .int .i64 0) rfl (congrArg (Value.int .i64) heR) (y_assign rfl rfl rfl (y_assign rfl rfl rfl (y_assign rfl rfl rfl (s_nil (hK123 _ _ (c_seq fun K142 hK142 => (c_seq fun K143 hK143 => (c_region (t_move rfl rfl rfl (t_cmp rfl rfl rfl rfl rfl (t_samehd (v := .bool false) rfl (t_move rfl rfl rfl (t_move rfl rfl rfl (t_cmp rfl rfl rfl rfl rfl (t_samehd (v := .bool false) rfl (t_pick_f rfl rfl rfl rfl (t_nil' (hK143 _ _ ?_)))))))))))))))))))))))
  refine c_cond_f rfl (c_skip (hK142 _ _ (c_seq fun K144 hK144 => (c_region (t_build (ps := []) (v := .agg ((List.replicate 100 (0 : Int)).map (Value.int .i64)).toArray) rfl rfl ⟨rfl, rfl⟩ (fun w => by kernel_rfl) (t_bslice (ps := []) (cs := []) (e := 3) rfl rfl ⟨rfl, rfl⟩ (fun w => by kernel_rfl) (fun bk145 w146 ebk145 sbk145 B147 u148 => ?_)))))))
  have zu148 := u148.size
  refine t_alloc (cs := ((List.replicate 100 (0 : Int)).map (Value.int .i64))) Try.zeroValue91 (by kernel_rfl) rfl rfl (fun bk150 w151 ebk150 sbk150 B152 u153 => ?_)
  have zu153 := u153.size
  refine t_assign rfl rfl rfl (t_st (vs := ((List.replicate 100 (0 : Int)).map (Value.int .i64))) Try.sizeOf91 rfl rfl rfl B152 rfl (by kernel_rfl) (by kernel_rfl) (by kernel_rfl) (fun w155 sw155 B157 u156 => ?_))
  have zu156 := u156.size
  have B159 : Blk w155 bk150 91 ((List.replicate 100 (0 : Int)).map (Value.int .i64)) := by
    have e : lay ((List.replicate 100 (0 : Int)).map (Value.int .i64)) 0 ((List.replicate 100 (0 : Int)).map (Value.int .i64)) = ((List.replicate 100 (0 : Int)).map (Value.int .i64)) := by kernel_rfl
    rw [← e]; exact B157
  refine t_assign rfl rfl rfl (t_nil' (hK144 _ _ (c_seq fun K160 hK160 => (c_seq fun K161 hK161 => (c_region (t_assign rfl rfl rfl (t_nil' (hK161 _ _ (c_block ?_)))))))))
  have B162 := ((B147.kx u153).keep u156 (by omega))
  have hlb := B162.lt
  have hac : Acc encI 1 3 bk145 w155 (some ⟨bk145, 0, none⟩) bk145 0 [] := Acc.ofBlk (xs := ([] : List Int)) encI 1 (fun _ => rfl) B162 (Nat.le_refl _) (by decide)
  have B163 : Blk w155 bk150 91 ((ldA k (sI xs 0).landed).map (Value.int .i64)) := by
    have e : (((List.replicate 100 (0 : Int)).map (Value.int .i64)) : List Value) = ((ldA k (sI xs 0).landed).map (Value.int .i64)) := (by rw [sI_land0, ldA_0])
    rw [← e]; exact B159
  refine c_loop (γ := Nat × Option Addr × Nat × Nat × List Int) (fun gg => [(3, .slice aoD ((done xs).length) cD), (5, .pointer (some ⟨bk18, 0, none⟩)), (6, .slice aoH 4 cH), (9, .slice aoC 4 cC), (13, .int .i64 (k : Int)), (14, .slice aoW rW.length cW), (17, .slice aoR rR.length cR), (20, .int .i64 (nth (sI xs gg.1).loaded k)), (21, .pointer (some ⟨bk150, 0, none⟩)), (22, .slice gg.2.1 gg.2.2.2.2.length gg.2.2.2.1), (23, .int .i64 (gg.1 : Int))]) (fun gg w => Upd (fun i => i = bk150 ∨ i = bk145) w155 w ∧ Blk w bk150 91 ((ldA k (sI xs gg.1).landed).map (Value.int .i64)) ∧ (gg.1 ≤ (done xs).length) ∧ (Acc encI 1 3 bk145 w gg.2.1 gg.2.2.1 gg.2.2.2.1 gg.2.2.2.2) ∧ (gg.2.2.2.2 = recF (sI xs gg.1).landed (k : Int)) ∧ (gg.2.2.1 = bk145 ∨ w155.heap.size ≤ gg.2.2.1)) (fun gg => (done xs).length - gg.1) (0, some ⟨bk145, 0, none⟩, bk145, 0, []) ⟨rfl, rfl, rfl, rfl, rfl, rfl, rfl, (congrArg (fun z => some (Value.int .i64 z)) (sI_load0 (by omega)).symm), rfl, rfl, rfl, trivial⟩ ⟨Upd.refl _ _, B163, (Nat.zero_le _), hac, (by rw [sI_land0]; rfl), (.inl rfl)⟩ ?_
  intro gg w165 hW K164 hK164
  obtain ⟨m, ar, gr, cr, rc⟩ := gg
  change WC _ _ _ _ _ _ [(3, .slice aoD ((done xs).length) cD), (5, .pointer (some ⟨bk18, 0, none⟩)), (6, .slice aoH 4 cH), (9, .slice aoC 4 cC), (13, .int .i64 (k : Int)), (14, .slice aoW rW.length cW), (17, .slice aoR rR.length cR), (20, .int .i64 (nth (sI xs m).loaded k)), (21, .pointer (some ⟨bk150, 0, none⟩)), (22, .slice ar rc.length cr), (23, .int .i64 (m : Int))] _
  change Upd (fun i => i = bk150 ∨ i = bk145) w155 w165 ∧ Blk w165 bk150 91 ((ldA k (sI xs m).landed).map (Value.int .i64)) ∧ (m ≤ (done xs).length) ∧ (Acc encI 1 3 bk145 w165 ar gr cr rc) ∧ (rc = recF (sI xs m).landed (k : Int)) ∧ (gr = bk145 ∨ w155.heap.size ≤ gr) at hW
  obtain ⟨u166, I167, I168, I169, I170, I171⟩ := hW
  have zu166 := u166.size
  have hi := I168; clear I168
  have hrA := I169; clear I169
  have hrc := I170; clear I170
  have hgr := I171; clear I171
  have lt_gr := hrA.lt
  have hso1 := sI_ok (xs := xs) (i := m)
  have hlo := hso1.lsr k (by rw [hso1.lsn]; show k < 4; omega)
  have hal : (ldA k (sI xs m).landed).length = 100 := ldA_len
  have hrl : rc.length ≤ 30 := by
    rw [hrc]; unfold recF
    rw [List.length_map]
    have h9 := List.length_filter_le (fun x => decide (0 < ofT x.parts (k : Int))) (sI xs m).landed
    have h8 := hso1.ldn
    rw [List.length_take] at h8; omega
  refine c_seq fun K173 hK173 => (c_seq fun K174 hK174 => (c_region (t_move rfl rfl rfl (t_move rfl rfl rfl (t_len Try.underlying26 rfl rfl rfl rfl (t_cmp rfl rfl rfl rfl rfl (t_nil' (hK174 _ _ (c_condp rfl (fun g121 => ?_) (fun g121 => ?_))))))))))
  ·
   refine c_skip (hK173 _ _ (c_seq fun K175 hK175 => (c_block (c_seq fun K176 hK176 => (c_seq fun K177 hK177 => (c_region (t_move rfl rfl rfl (t_move rfl rfl rfl ?_))))))))
   have D178 := ((((((D129.keep u132 (fun _ h => h)).keep u139 (fun _ h => h)).keep u148 (fun _ h => h)).keep u153 (fun _ h => h)).keep u156 (fun hp => by have h9 := hdn.lt hp; show ¬ (gD = bk150); omega)).keep u166 (fun hp => by have h9 := hdn.lt hp; show ¬ (gD = bk150 ∨ gD = bk145); omega))
   have i179 : m < (done xs).length := (by omega)
   refine t_index (j := m) Try.underlying26 Try.sizeOf41 rfl rfl rfl rfl (D178.addr (by omega)) rfl i179 (t_field Try.underlying41 rfl Try.sizeOf39 (0 + m * 8 + 0) rfl rfl rfl rfl (t_load Try.isAgg39 rfl rfl rfl ((D178.at_ m (by omega)) 0 _ rfl) (t_cmp rfl rfl rfl rfl rfl (t_move rfl rfl rfl (t_splitp 130 rfl (fun g130 => ?_) (fun g130 => ?_))))))
   ·
    refine t_move rfl rfl rfl (t_move rfl rfl rfl ?_)
    have i180 : m < (done xs).length := (by omega)
    refine t_index (j := m) Try.underlying26 Try.sizeOf41 rfl rfl rfl rfl (D178.addr (by omega)) rfl i180 (t_field Try.underlying41 rfl Try.sizeOf3 (0 + m * 8 + 2) rfl rfl rfl rfl (t_load Try.isAgg3 rfl rfl rfl ((D178.at_ m (by omega)) 2 _ rfl) (t_move rfl rfl rfl (t_cmp rfl rfl rfl rfl rfl (t_pick_t rfl rfl rfl rfl (t_nil' (hK177 _ _ (c_condp rfl (fun g138 => ?_) (fun g138 => ?_)))))))))
    ·
     have hev9 := okEv_rng ((sail_inv hz).2.2 _ (nth_mem (xs := done xs) (i := m) (by omega)))
     have hev8 := hev9.2.2.2.2.1
     refine c_region (t_move rfl rfl rfl (t_move rfl rfl rfl (t_move rfl rfl rfl ?_)))
     have i181 : m < (done xs).length := (by omega)
     refine t_index (j := m) Try.underlying26 Try.sizeOf41 rfl rfl rfl rfl (D178.addr (by omega)) rfl i181 (t_field Try.underlying41 rfl Try.sizeOf3 (0 + m * 8 + 5) rfl rfl rfl rfl (t_load Try.isAgg3 rfl rfl rfl ((D178.at_ m (by omega)) 5 _ rfl) (t_ari rfl rfl rfl rfl rfl (by omega) (t_assign rfl rfl rfl (t_nil' (hK176 _ _ (c_seq fun K182 hK182 => (c_region (t_move rfl rfl rfl (t_move rfl rfl rfl ?_))))))))))
     have i183 : m < (done xs).length := (by omega)
     refine t_index (j := m) Try.underlying26 Try.sizeOf41 rfl rfl rfl rfl (D178.addr (by omega)) rfl i183 (t_field Try.underlying41 rfl Try.sizeOf39 (0 + m * 8 + 0) rfl rfl rfl rfl (t_load Try.isAgg39 rfl rfl rfl ((D178.at_ m (by omega)) 0 _ rfl) (t_cmp rfl rfl rfl rfl rfl (t_nil' (hK182 _ _ (c_condp rfl (fun g151 => ?_) (fun g151 => ?_)))))))
     ·
      exfalso; omega
     refine c_skip (hK175 _ _ (c_region (t_move rfl rfl rfl (t_ari rfl rfl rfl rfl rfl (by omega) (t_assign rfl rfl rfl (t_nil' ?_))))))
     have hO9 := sI_load (xs := xs) (i := m) (k := k) (by omega) (by omega)
     rw [if_pos ⟨g130, g138⟩] at hO9
     have hS9 := sI_same (xs := xs) (i := m) (by omega) (by omega)
     have hL9 : (ldA k (sI xs (m + 1)).landed) = (ldA k (sI xs m).landed) := by rw [hS9]
     have hR9 : recF (sI xs (m + 1)).landed (k : Int) = rc := by rw [hS9, hrc]
     exact hK164 (m + 1, ar, gr, cr, rc) _ _ (by show (done xs).length - (m + 1) < (done xs).length - m; omega) ⟨rfl, rfl, rfl, rfl, rfl, rfl, rfl, (congrArg (fun z => some (Value.int .i64 z)) hO9.symm), rfl, rfl, rfl, trivial⟩ ⟨u166, (by show Blk _ _ _ ((ldA k (sI xs (m + 1)).landed).map (Value.int .i64)); rw [hL9]; exact I167), (by omega), hrA, hR9.symm, (by show gr = bk145 ∨ _ ≤ gr; omega)⟩
    refine c_skip (hK176 _ _ (c_seq fun K184 hK184 => (c_region (t_move rfl rfl rfl (t_move rfl rfl rfl ?_)))))
    have i185 : m < (done xs).length := (by omega)
    refine t_index (j := m) Try.underlying26 Try.sizeOf41 rfl rfl rfl rfl (D178.addr (by omega)) rfl i185 (t_field Try.underlying41 rfl Try.sizeOf39 (0 + m * 8 + 0) rfl rfl rfl rfl (t_load Try.isAgg39 rfl rfl rfl ((D178.at_ m (by omega)) 0 _ rfl) (t_cmp rfl rfl rfl rfl rfl (t_nil' (hK184 _ _ (c_condp rfl (fun g151 => ?_) (fun g151 => ?_)))))))
    ·
     exfalso; omega
    refine c_skip (hK175 _ _ (c_region (t_move rfl rfl rfl (t_ari rfl rfl rfl rfl rfl (by omega) (t_assign rfl rfl rfl (t_nil' ?_))))))
    have hO9 := sI_load (xs := xs) (i := m) (k := k) (by omega) (by omega)
    rw [if_neg (fun h => g138 h.2), Int.add_zero] at hO9
    have hS9 := sI_same (xs := xs) (i := m) (by omega) (by omega)
    have hL9 : (ldA k (sI xs (m + 1)).landed) = (ldA k (sI xs m).landed) := by rw [hS9]
    have hR9 : recF (sI xs (m + 1)).landed (k : Int) = rc := by rw [hS9, hrc]
    exact hK164 (m + 1, ar, gr, cr, rc) _ _ (by show (done xs).length - (m + 1) < (done xs).length - m; omega) ⟨rfl, rfl, rfl, rfl, rfl, rfl, rfl, (congrArg (fun z => some (Value.int .i64 z)) hO9.symm), rfl, rfl, rfl, trivial⟩ ⟨u166, (by show Blk _ _ _ ((ldA k (sI xs (m + 1)).landed).map (Value.int .i64)); rw [hL9]; exact I167), (by omega), hrA, hR9.symm, (by show gr = bk145 ∨ _ ≤ gr; omega)⟩
   refine t_skip rfl rfl rfl (t_skip rfl rfl rfl (t_skip rfl rfl rfl (t_skip rfl rfl rfl (t_skip rfl rfl rfl (t_skip rfl rfl rfl (t_skip rfl rfl rfl (t_pick_f rfl rfl rfl rfl (t_nil' (hK177 _ _ (c_cond_f rfl (c_skip (hK176 _ _ (c_seq fun K186 hK186 => (c_region (t_move rfl rfl rfl (t_move rfl rfl rfl ?_))))))))))))))))
   have i187 : m < (done xs).length := (by omega)
   refine t_index (j := m) Try.underlying26 Try.sizeOf41 rfl rfl rfl rfl (D178.addr (by omega)) rfl i187 (t_field Try.underlying41 rfl Try.sizeOf39 (0 + m * 8 + 0) rfl rfl rfl rfl (t_load Try.isAgg39 rfl rfl rfl ((D178.at_ m (by omega)) 0 _ rfl) (t_cmp rfl rfl rfl rfl rfl (t_nil' (hK186 _ _ (c_condp rfl (fun g151 => ?_) (fun g151 => ?_)))))))
   ·
    refine c_seq fun K188 hK188 => (c_drawnM follows (fun _ => False) (.look 0 (.look 1 (.look 3 (.act 2 (.act 4 (.look 5 (.look 6 (.look 7 (.look 8 (.look 9 (.look 10 (.look 11 .done))))))) .stop) .stop)))) (by kernel_rfl) fun w189 u190 => ?_)
    have zu190 := u190.size
    have B192 := (((((((((((((((((((B25.kx u29).kx u36).kx u43).kx u48).kx u55).kx u62).kx u71).kx u98).kx u106).kx u113).kx u120).kx u125).kx u132).kx u139).kx u148).kx u153).keep u156 (by omega)).keep u166 (by omega)).kx u190)
    refine y_loadN (vs := [.slice (some ⟨bfB11, 0, none⟩) 4 4, .slice (some ⟨bfH12, 0, none⟩) 4 4]) Try.isAgg25 Try.sizeOf25 rfl rfl rfl (B192.at.sub 0 2) rfl (fun h => h) (y_move rfl rfl rfl (y_move rfl rfl rfl (s_do ?_)))
    have D194 := (D178.keep u190 (fun _ h => h))
    refine t_call own13 rfl rfl rfl rfl (eventsA_c (done xs) aoD gD 0 cD _ D194 (by first | omega | (simp only [List.length_append, List.length_singleton]; omega))) (fun v195 w196 r198 => ?_)
    obtain ⟨aoE193, gE193, cE193, baE193, rfl, hkE193, hbE193, hzE193, u197⟩ := r198
    have zu197 := u197.size
    have lt_gE193 := hkE193.lt
    refine s_next ((Upd.refl _ _).nx u197) (s_do ?_)
    have D200 := (((((((D135.keep u139 (fun _ h => h)).keep u148 (fun _ h => h)).keep u153 (fun _ h => h)).keep u156 (fun hp => by have h9 := hkfB11.lt hp; show ¬ (bfB11 = bk150); omega)).keep u166 (fun hp => by have h9 := hkfB11.lt hp; show ¬ (bfB11 = bk150 ∨ bfB11 = bk145); omega)).keep u190 (fun _ h => h)).keep u197 (fun _ h => h))
    have D201 := (((((((D136.keep u139 (fun _ h => h)).keep u148 (fun _ h => h)).keep u153 (fun _ h => h)).keep u156 (fun hp => by have h9 := hkfH12.lt hp; show ¬ (bfH12 = bk150); omega)).keep u166 (fun hp => by have h9 := hkfH12.lt hp; show ¬ (bfH12 = bk150 ∨ bfH12 = bk145); omega)).keep u190 (fun _ h => h)).keep u197 (fun _ h => h))
    refine t_call own16 rfl rfl rfl rfl (LandedU_c fourB (some ⟨bfB11, 0, none⟩) bfB11 0 4 fourH (some ⟨bfH12, 0, none⟩) bfH12 0 4 (done xs) aoE193 gE193 0 cE193 (m : Int) _ D200 D201 (by decide) (by decide) (hkE193.sl (fun _ => rfl)) (by first | omega | (simp only [List.length_append, List.length_singleton]; omega)) (by omega)) (fun v202 w203 r205 => ?_)
    obtain ⟨⟨aoL, gL, cL, xsL, eL, rfl, hplL, h1L, h2L⟩, u204⟩ := r205
    have zu204 := u204.size
    obtain ⟨ps, hf1, hsum, hps1, hland⟩ := sI_land (xs := xs) (i := m) (by omega) g151
    obtain ⟨hps, he0⟩ : xsL.map HLay.v = ps ∧ eL = 0 := by
      rcases h2L hz with ⟨a, _⟩ | ⟨a, b⟩
      · exact absurd (a.symm.trans hf1) (by simp)
      · exact ⟨Option.some.inj (a.symm.trans hf1), b⟩
    have hlT : ∀ x ∈ xsL, 0 ≤ x.v.tons ∧ x.v.tons ≤ 1000000 := fun x hx => by have := hps1 x.v (by rw [← hps]; exact List.mem_map.2 ⟨x, hx, rfl⟩); omega
    have hev := okEv_rng ((sail_inv hz).2.2 _ (nth_mem (xs := done xs) (i := m) (by omega)))
    have hlL : xsL.length ≤ 1000000 := by
      have h5 := sumT_len (l := xsL.map HLay.v) (fun y hy => by rw [hps] at hy; exact (hps1 y hy).1)
      rw [List.length_map, hps, hsum] at h5
      have := hev.2.2.2.2.1.2; omega
    have h171 : ¬ tonsV (xsL.map HLay.v) (-1) ≠ (nth (done xs) m).tons := fun h => h (by rw [hps]; exact hsum)
    have hpr : 0 ≤ (nth (done xs) m).port ∧ (nth (done xs) m).port ≤ 99 := ((sI_ok (xs := xs) (i := m + 1)).ldt _ (by rw [hland]; exact List.mem_append_right _ (List.mem_singleton.2 rfl))).2.2.2
    refine s_next ((Upd.refl _ _).nx u204) (y_move rfl rfl rfl (y_extract rfl rfl rfl rfl (y_extract rfl rfl rfl rfl (y_extract rfl rfl rfl rfl (y_same 160 (v := .int .i64 0) rfl (congrArg (Value.int .i64) he0) (y_assign rfl rfl rfl (y_assign rfl rfl rfl (y_assign rfl rfl rfl (s_nil (hK188 _ _ (c_seq fun K207 hK207 => (c_seq fun K208 hK208 => (c_drawnM follows (fun _ => False) (.look 0 (.look 1 (.look 2 (.look 3 (.look 5 (.look 6 (.look 7 (.look 8 (.look 9 (.act 4 (.look 10 (.look 11 .done)) .stop)))))))))) (by kernel_rfl) fun w209 u210 => ?_)))))))))))))
    have zu210 := u210.size
    refine y_move rfl rfl rfl (y_cmp rfl rfl rfl rfl rfl (y_samehd (v := .bool false) rfl (y_move rfl rfl rfl (y_move rfl rfl rfl (y_move rfl rfl rfl (y_move rfl rfl rfl ?_))))))
    have D212 := (((D194.keep u197 (fun _ h => h)).keep u204 (fun _ h => h)).keep u210 (fun _ h => h))
    have i213 : m < (done xs).length := (by omega)
    refine y_index (j := m) Try.underlying26 Try.sizeOf41 rfl rfl rfl rfl (D212.addr (by omega)) rfl i213 (y_field Try.underlying41 rfl Try.sizeOf3 (0 + m * 8 + 5) rfl rfl rfl rfl ?_)
    have D214 := (((D194.keep u197 (fun _ h => h)).keep u204 (fun _ h => h)).keep u210 (fun _ h => h))
    refine y_load Try.isAgg3 rfl rfl rfl ((D214.at_ m (by omega)) 5 _ rfl) (fun h => h) (s_do ?_)
    have D215 := (LaysR.keep hplL u210 (fun _ _ h => h))
    refine t_call own33 rfl rfl rfl rfl (tons11_c xsL aoL gL cL (-1) _ (D215).1 hlL hlT) (fun v216 w217 r219 => ?_)
    obtain ⟨rfl, u218⟩ := r219
    have zu218 := u218.size
    refine s_next ((Upd.refl _ _).nx u218) (y_cmp rfl rfl rfl rfl rfl (y_samehd (v := .bool false) (by simp [h171]) (y_pick_f rfl rfl rfl rfl (s_nil (hK208 _ _ (c_cond_f rfl (c_skip (hK207 _ _ (c_seq fun K221 hK221 => (c_region (t_move rfl rfl rfl (t_move rfl rfl rfl ?_))))))))))))
    have D222 := (LaysR.keep D215 u218 (fun _ _ h => h))
    refine t_call own33 rfl rfl rfl rfl (tons11_c xsL aoL gL cL (k : Int) _ (D222).1 hlL hlT) (fun v223 w224 r226 => ?_)
    obtain ⟨rfl, u225⟩ := r226
    have zu225 := u225.size
    refine t_same 175 (v := .int .i64 (ofT ps (k : Int))) rfl (congrArg (Value.int .i64) (by rw [hps]; exact if_neg (by omega))) (t_assign rfl rfl rfl (t_nil' (hK221 _ _ (c_seq fun K228 hK228 => (c_region (t_move rfl rfl rfl (t_cmp rfl rfl rfl rfl rfl (t_nil' (hK228 _ _ (c_condp rfl (fun g177 => ?_) (fun g177 => ?_)))))))))))
    ·
     have hA9 := ldA_rng (xs := xs) (i := m) (k := k) (p := ((nth (done xs) m).port).toNat) (by omega)
     have hT9 : ofT ps (k : Int) ≤ 1000000 := by
       have h9 := (ofT_le (l := ps) (b := (k : Int)) fun x hx => by have := hps1 x hx; omega).2
       have := hev.2.2.2.2.1.2; omega
     refine c_seq fun K229 hK229 => (c_region (t_move rfl rfl rfl (t_move rfl rfl rfl ?_)))
     have D230 := ((D212.keep u218 (fun _ h => h)).keep u225 (fun _ h => h))
     have i231 : m < (done xs).length := (by omega)
     refine t_index (j := m) Try.underlying26 Try.sizeOf41 rfl rfl rfl rfl (D230.addr (by omega)) rfl i231 (t_field Try.underlying41 rfl Try.sizeOf3 (0 + m * 8 + 6) rfl rfl rfl rfl (t_load Try.isAgg3 rfl rfl rfl ((D230.at_ m (by omega)) 6 _ rfl) (t_indexArr (j := ((nth (done xs) m).port).toNat) (0 + (((nth (done xs) m).port).toNat) * 1) Try.underlying91 Try.sizeOf3 rfl rfl rfl rfl (by omega) (by omega) rfl ?_)))
     have B232 := ((((((I167.kx u190).kx u197).kx u204).kx u210).kx u218).kx u225)
     refine t_load Try.isAgg3 rfl rfl rfl (((SlI.own B232).at_ (((nth (done xs) m).port).toNat) (by rw [ldA_len]; omega)) 0 _ rfl) (t_move rfl rfl rfl (t_ari rfl rfl rfl rfl rfl (by omega) (t_indexArr (j := ((nth (done xs) m).port).toNat) (0 + (((nth (done xs) m).port).toNat) * 1) Try.underlying91 Try.sizeOf3 rfl rfl rfl rfl (by omega) (by omega) rfl (t_storeI (ls := (ldA k (sI xs m).landed)) (v := ((nth (ldA k (sI xs m).landed) (((nth (done xs) m).port).toNat)) + (ofT ps (k : Int)))) (((nth (done xs) m).port).toNat) Try.sizeOf3 rfl rfl rfl B232 (by rw [ldA_len]; omega) (fun w233 sw233 B235 u234 => ?_)))))
     have zu234 := u234.size
     refine t_nil' (hK229 _ _ (c_region (t_move rfl rfl rfl (t_move rfl rfl rfl (t_bslice (ps := [(0, .int .i64 (m : Int))]) (cs := [.int .i64 (m : Int)]) (e := 3) rfl rfl ⟨rfl, rfl⟩ (fun w => by kernel_rfl) (fun bk237 w238 ebk237 sbk237 B239 u240 => ?_))))))
     have zu240 := u240.size
     have D242 := ((((((((hrA.keep u190 (fun _ h => h)).keep u197 (fun _ h => h)).keep u204 (fun _ h => h)).keep u210 (fun _ h => h)).keep u218 (fun _ h => h)).keep u225 (fun _ h => h)).keep u234 (fun hb => show ¬ (gr = bk150) by first | omega | assumption)).keep u240 (fun _ h => h))
     refine t_append (z := .int .i64 0) (bytes := 8) (k := 1) (base := bk145) (m : Int) Try.underlying45 (by kernel_rfl) rfl (by decide) (fun _ => rfl) (by intro x; simp [encI, Value.oneCell']) rfl rfl rfl rfl D242 B239 (by omega) (by omega) (by decide) (fun ao243 gb244 cp245 w246 A247 u248 gegb244 lngb244 => ?_)
     have zu248 := u248.size
     have lt_gb244 := A247.lt
     refine t_assign rfl rfl rfl (t_nil' (hK175 _ _ (c_region (t_move rfl rfl rfl (t_ari rfl rfl rfl rfl rfl (by omega) (t_assign rfl rfl rfl (t_nil' ?_)))))))
     have hO9 := sI_load (xs := xs) (i := m) (k := k) (by omega) (by omega)
     rw [if_neg (fun h => g130 h.1), Int.add_zero] at hO9
     have hL9 : (ldA k (sI xs (m + 1)).landed) = ((ldA k (sI xs m).landed).set (((nth (done xs) m).port).toNat) ((nth (ldA k (sI xs m).landed) (((nth (done xs) m).port).toNat)) + (ofT ps (k : Int)))) := by rw [hland]; exact ldA_snoc (p := ((nth (done xs) m).port).toNat) (by show (nth (done xs) m).port = _; omega) (by omega)
     have hR9 : recF (sI xs (m + 1)).landed (k : Int) = (rc ++ [(m : Int)]) := by rw [hland, recF_snoc, if_pos g177, hrc]
     have B250 := ((B235.kx u240).keep u248 (by omega))
     exact hK164 (m + 1, ao243, gb244, cp245, (rc ++ [(m : Int)])) _ _ (by show (done xs).length - (m + 1) < (done xs).length - m; omega) ⟨rfl, rfl, rfl, rfl, rfl, rfl, rfl, (congrArg (fun z => some (Value.int .i64 z)) hO9.symm), rfl, rfl, rfl, trivial⟩ ⟨(((((((((u166.next u190 (fun _ _ h => h.elim)).next u197 (fun _ _ h => h.elim)).next u204 (fun _ _ h => h.elim)).next u210 (fun _ _ h => h.elim)).next u218 (fun _ _ h => h.elim)).next u225 (fun _ _ h => h.elim)).next u234 (fun i hi h => by omega)).next u240 (fun _ _ h => h.elim)).next u248 (fun i hi h => by omega)), (by show Blk _ _ _ ((ldA k (sI xs (m + 1)).landed).map (Value.int .i64)); rw [hL9]; exact B250), (by omega), A247, hR9.symm, (by show gb244 = bk145 ∨ _ ≤ gb244; omega)⟩
    refine c_skip (hK175 _ _ (c_region (t_move rfl rfl rfl (t_ari rfl rfl rfl rfl rfl (by omega) (t_assign rfl rfl rfl (t_nil' ?_))))))
    have hO9 := sI_load (xs := xs) (i := m) (k := k) (by omega) (by omega)
    rw [if_neg (fun h => g130 h.1), Int.add_zero] at hO9
    have hp9 : 0 ≤ ofT ps (k : Int) := (ofT_le fun x hx => by have := hps1 x hx; omega).1
    have hL9 : (ldA k (sI xs (m + 1)).landed) = (ldA k (sI xs m).landed) := by rw [hland]; exact ldA_zero (p := 0) (by show ofT ps _ = 0; omega)
    have hR9 : recF (sI xs (m + 1)).landed (k : Int) = rc := by rw [hland, recF_snoc, if_neg g177, List.append_nil, hrc]
    have B251 := ((((((I167.kx u190).kx u197).kx u204).kx u210).kx u218).kx u225)
    have D252 := ((((((hrA.keep u190 (fun _ h => h)).keep u197 (fun _ h => h)).keep u204 (fun _ h => h)).keep u210 (fun _ h => h)).keep u218 (fun _ h => h)).keep u225 (fun _ h => h))
    exact hK164 (m + 1, ar, gr, cr, rc) _ _ (by show (done xs).length - (m + 1) < (done xs).length - m; omega) ⟨rfl, rfl, rfl, rfl, rfl, rfl, rfl, (congrArg (fun z => some (Value.int .i64 z)) hO9.symm), rfl, rfl, rfl, trivial⟩ ⟨((((((u166.next u190 (fun _ _ h => h.elim)).next u197 (fun _ _ h => h.elim)).next u204 (fun _ _ h => h.elim)).next u210 (fun _ _ h => h.elim)).next u218 (fun _ _ h => h.elim)).next u225 (fun _ _ h => h.elim)), (by show Blk _ _ _ ((ldA k (sI xs (m + 1)).landed).map (Value.int .i64)); rw [hL9]; exact B251), (by omega), D252, hR9.symm, (by show gr = bk145 ∨ _ ≤ gr; omega)⟩
   refine c_skip (hK175 _ _ (c_region (t_move rfl rfl rfl (t_ari rfl rfl rfl rfl rfl (by omega) (t_assign rfl rfl rfl (t_nil' ?_))))))
   have hO9 := sI_load (xs := xs) (i := m) (k := k) (by omega) (by omega)
   rw [if_neg (fun h => g130 h.1), Int.add_zero] at hO9
   have hS9 := sI_same (xs := xs) (i := m) (by omega) (by omega)
   have hL9 : (ldA k (sI xs (m + 1)).landed) = (ldA k (sI xs m).landed) := by rw [hS9]
   have hR9 : recF (sI xs (m + 1)).landed (k : Int) = rc := by rw [hS9, hrc]
   exact hK164 (m + 1, ar, gr, cr, rc) _ _ (by show (done xs).length - (m + 1) < (done xs).length - m; omega) ⟨rfl, rfl, rfl, rfl, rfl, rfl, rfl, (congrArg (fun z => some (Value.int .i64 z)) hO9.symm), rfl, rfl, rfl, trivial⟩ ⟨u166, (by show Blk _ _ _ ((ldA k (sI xs (m + 1)).landed).map (Value.int .i64)); rw [hL9]; exact I167), (by omega), hrA, hR9.symm, (by show gr = bk145 ∨ _ ≤ gr; omega)⟩
  refine c_exit (hK160 _ _ (c_seq fun K253 hK253 => (c_region (t_assign rfl rfl rfl (t_assign rfl rfl rfl (t_nil' (hK253 _ _ (c_seq fun K254 hK254 => (c_seq fun K255 hK255 => (c_region (t_assign rfl rfl rfl (t_nil' (hK255 _ _ (c_block ?_))))))))))))))
  have hin : m = (done xs).length := by omega
  have hie : sI xs m = (sSt fourB fourH (done xs)) := sI_end hin
  rw [← hie] at hwo hco hrR2
  refine c_loop (γ := Nat) (fun z => [(3, .slice aoD ((done xs).length) cD), (5, .pointer (some ⟨bk18, 0, none⟩)), (6, .slice aoH 4 cH), (9, .slice aoC 4 cC), (13, .int .i64 (k : Int)), (14, .slice aoW rW.length cW), (17, .slice aoR rR.length cR), (20, .int .i64 (nth (sI xs m).loaded k)), (21, .pointer (some ⟨bk150, 0, none⟩)), (22, .slice ar rc.length cr), (28, .int .i64 (sumW (-1) (rW.take z))), (29, .int .i64 (sumW 1 (rW.take z))), (30, .int .i64 (z : Int))]) (fun z w => Upd (fun _ => False) w165 w ∧ (z ≤ rW.length)) (fun z => rW.length - z) 0 ⟨rfl, rfl, rfl, rfl, rfl, rfl, rfl, rfl, rfl, rfl, rfl, rfl, rfl, trivial⟩ ⟨Upd.refl _ _, (Nat.zero_le _)⟩ ?_
  intro z w257 hW K256 hK256
  obtain ⟨u258, I259⟩ := hW
  have zu258 := u258.size
  have hz := I259; clear I259
  refine c_seq fun K261 hK261 => (c_seq fun K262 hK262 => (c_region (t_move rfl rfl rfl (t_move rfl rfl rfl (t_len Try.underlying55 rfl rfl rfl rfl (t_cmp rfl rfl rfl rfl rfl (t_nil' (hK262 _ _ (c_condp rfl (fun g195 => ?_) (fun g195 => ?_))))))))))
  ·
   have hst := sumW_take (q := -1) (l := rW) (k := z) (by omega)
   rw [if_pos (.inl (by decide))] at hst
   have hm1 : ∀ x ∈ rW, 1 ≤ x.tons := fun x hx => (hwo.mem x hx).1
   have hs1 := sumW_le (q := -1) (k := z) hm1
   have hs2 := sumW_le (q := 1) (k := z) hm1
   have hs3 := sumW_le (q := -1) (k := z + 1) hm1
   have hs4 := hwo.all
   have hs5 := hwo.abd
   have hs6 := hco.ab
   have hs7 := hco.pos
   have hs8 := hco.sum
   have hst2 := hco.top
   have hzm := hwo.mem _ (nth_mem (xs := rW) (i := z) (by omega))
   have h208 : ¬ (nth rW z).tons < 1 := by omega
   refine c_skip (hK261 _ _ (c_seq fun K263 hK263 => (c_block (c_seq fun K264 hK264 => (c_region (t_move rfl rfl rfl (t_move rfl rfl rfl ?_)))))))
   have D265 := ((((((((hlW.keep u125 (fun _ h => h)).keep u132 (fun _ h => h)).keep u139 (fun _ h => h)).keep u148 (fun _ h => h)).keep u153 (fun _ h => h)).keep u156 (fun hp => by have h9 := hlW.lt hp; show ¬ (gW = bk150); omega)).keep u166 (fun hp => by have h9 := hlW.lt hp; show ¬ (gW = bk150 ∨ gW = bk145); omega)).keep u258 (fun _ h => h))
   have i266 : z < rW.length := (by omega)
   refine t_index (j := z) Try.underlying55 Try.sizeOf71 rfl rfl rfl rfl (D265.addr (by omega)) rfl i266 (t_loadN (vs := [.int .i64 ((nth rW z).wh), .int .i64 ((nth rW z).num), .int .i64 ((nth rW z).tons)]) Try.isAgg71 Try.sizeOf71 rfl rfl rfl ((D265.at_ z (by omega)).sub 0 3) rfl (t_alloc (cs := [.int .i64 0, .int .i64 0, .int .i64 0]) Try.zeroValue71 rfl rfl rfl (fun bk267 w268 ebk267 sbk267 B269 u270 => ?_)))
   have zu270 := u270.size
   refine t_st (vs := [.int .i64 ((nth rW z).wh), .int .i64 ((nth rW z).num), .int .i64 ((nth rW z).tons)]) Try.sizeOf71 rfl rfl rfl B269 rfl rfl rfl rfl (fun w272 sw272 B274 u273 => ?_)
   have zu273 := u273.size
   have B274 : Blk w272 bk267 71 [.int .i64 ((nth rW z).wh), .int .i64 ((nth rW z).num), .int .i64 ((nth rW z).tons)] := B274
   refine t_nil' (hK264 _ _ (c_seq fun K276 hK276 => (c_region (t_move rfl rfl rfl (t_field Try.underlying71 rfl Try.sizeOf3 (2) rfl rfl rfl rfl (t_load Try.isAgg3 rfl rfl rfl (B274.get rfl) (t_ari rfl rfl rfl rfl rfl (by omega) (t_assign rfl rfl rfl (t_nil' (hK276 _ _ (c_seq fun K277 hK277 => (c_cut (γ := Nat) (fun zz => [(3, .slice aoD ((done xs).length) cD), (5, .pointer (some ⟨bk18, 0, none⟩)), (6, .slice aoH 4 cH), (9, .slice aoC 4 cC), (13, .int .i64 (k : Int)), (14, .slice aoW rW.length cW), (17, .slice aoR rR.length cR), (20, .int .i64 (nth (sI xs m).loaded k)), (21, .pointer (some ⟨bk150, 0, none⟩)), (22, .slice ar rc.length cr), (28, .int .i64 ((sumW (-1) (rW.take z)) + ((nth rW z).tons))), (29, .int .i64 (sumW 1 (rW.take z))), (30, .int .i64 (z : Int)), (31, .pointer (some ⟨bk267, 0, none⟩)), (245, .bool false)]) (fun zz w => Upd (fun _ => False) w272 w) (fun K279 hK279 => ?_) ?_))))))))))))
   ·
    refine c_drawnQ follows (by kernel_rfl) (p_field Try.underlying71 rfl Try.sizeOf3 (2) rfl rfl rfl rfl (p_load Try.isAgg3 rfl rfl rfl (B274.get rfl) (p_cmp rfl rfl rfl rfl rfl (p_samehd (v := .bool false) (by simp [h208]) (p_move rfl rfl rfl (p_move rfl rfl rfl (p_cmp rfl rfl rfl rfl rfl (p_move rfl rfl rfl (p_splitp 212 rfl (fun g212 => ?_) (fun g212 => ?_))))))))))
    ·
     have hza := hwo.asc z (by omega) (by omega)
     have h221 : ¬ (nth rW z).wh < (nth rW (z - 1)).wh := by omega
     refine p_field Try.underlying71 rfl Try.sizeOf69 (0) rfl rfl rfl rfl (p_load Try.isAgg69 rfl rfl rfl (B274.get rfl) (p_move rfl rfl rfl (p_move rfl rfl rfl (p_ari rfl rfl rfl rfl rfl (by omega) ?_))))
     have D286 := ((D265.keep u270 (fun _ h => h)).keep u273 (fun hp => by have h9 := hlW.lt hp; show ¬ (gW = bk267); omega))
     have i287 : (z - 1) < rW.length := (by omega)
     refine p_index (j := (z - 1)) Try.underlying55 Try.sizeOf71 rfl rfl rfl rfl (D286.addr (by omega)) (by omega) i287 (p_field Try.underlying71 rfl Try.sizeOf69 (0 + (z - 1) * 3 + 0) rfl rfl rfl rfl (p_load Try.isAgg69 rfl rfl rfl ((D286.at_ (z - 1) (by omega)) 0 _ rfl) (p_cmp rfl rfl rfl rfl rfl (p_samehd (v := .bool false) (by simp [h221]) (p_move rfl rfl rfl (p_field Try.underlying71 rfl Try.sizeOf69 (0) rfl rfl rfl rfl (p_load Try.isAgg69 rfl rfl rfl (B274.get rfl) (p_move rfl rfl rfl (p_move rfl rfl rfl (p_ari rfl rfl rfl rfl rfl (by omega) ?_))))))))))
     have i288 : (z - 1) < rW.length := (by omega)
     refine p_index (j := (z - 1)) Try.underlying55 Try.sizeOf71 rfl rfl rfl rfl (D286.addr (by omega)) (by omega) i288 (p_field Try.underlying71 rfl Try.sizeOf69 (0 + (z - 1) * 3 + 0) rfl rfl rfl rfl (p_load Try.isAgg69 rfl rfl rfl ((D286.at_ (z - 1) (by omega)) 0 _ rfl) (p_cmp rfl rfl rfl rfl rfl (p_move rfl rfl rfl (p_splitp 232 rfl (fun g232 => ?_) (fun g232 => ?_))))))
     ·
      have h241 : ¬ (nth rW z).num ≤ (nth rW (z - 1)).num := by omega
      refine p_field Try.underlying71 rfl Try.sizeOf3 (1) rfl rfl rfl rfl (p_load Try.isAgg3 rfl rfl rfl (B274.get rfl) (p_move rfl rfl rfl (p_move rfl rfl rfl (p_ari rfl rfl rfl rfl rfl (by omega) ?_))))
      have i289 : (z - 1) < rW.length := (by omega)
      refine p_index (j := (z - 1)) Try.underlying55 Try.sizeOf71 rfl rfl rfl rfl (D286.addr (by omega)) (by omega) i289 (p_field Try.underlying71 rfl Try.sizeOf3 (0 + (z - 1) * 3 + 1) rfl rfl rfl rfl (p_load Try.isAgg3 rfl rfl rfl ((D286.at_ (z - 1) (by omega)) 1 _ rfl) (p_cmp rfl rfl rfl rfl rfl (p_samehd (v := .bool false) (by simp [h241]) (p_pick_t rfl rfl rfl rfl (p_pick_f rfl rfl rfl rfl (p_pick_t rfl rfl rfl rfl (p_pick_f rfl rfl rfl rfl (p_nil fun w290 u291 => ?_)))))))))
      have zu291 := u291.size
      refine t_nil' ?_
      exact hK279 0 _ _ ⟨rfl, rfl, rfl, rfl, rfl, rfl, rfl, rfl, rfl, rfl, rfl, rfl, rfl, rfl, rfl, trivial⟩ ((Upd.refl _ _).next u291 (fun _ _ h => h.elim))
     refine p_skip rfl rfl rfl (p_skip rfl rfl rfl (p_skip rfl rfl rfl (p_skip rfl rfl rfl (p_skip rfl rfl rfl (p_skip rfl rfl rfl (p_skip rfl rfl rfl (p_skip rfl rfl rfl (p_skip rfl rfl rfl (p_pick_f rfl rfl rfl rfl (p_pick_f rfl rfl rfl rfl (p_pick_t rfl rfl rfl rfl (p_pick_f rfl rfl rfl rfl (p_nil fun w293 u294 => ?_)))))))))))))
     have zu294 := u294.size
     refine t_nil' ?_
     exact hK279 0 _ _ ⟨rfl, rfl, rfl, rfl, rfl, rfl, rfl, rfl, rfl, rfl, rfl, rfl, rfl, rfl, rfl, trivial⟩ ((Upd.refl _ _).next u294 (fun _ _ h => h.elim))
    refine p_skip rfl rfl rfl (p_skip rfl rfl rfl (p_skip rfl rfl rfl (p_skip rfl rfl rfl (p_skip rfl rfl rfl (p_skip rfl rfl rfl (p_skip rfl rfl rfl (p_skip rfl rfl rfl (p_skip rfl rfl rfl (p_skip rfl rfl rfl (p_skip rfl rfl rfl (p_skip rfl rfl rfl (p_skip rfl rfl rfl (p_skip rfl rfl rfl (p_skip rfl rfl rfl (p_skip rfl rfl rfl (p_skip rfl rfl rfl (p_skip rfl rfl rfl (p_skip rfl rfl rfl (p_skip rfl rfl rfl (p_skip rfl rfl rfl (p_skip rfl rfl rfl (p_skip rfl rfl rfl (p_skip rfl rfl rfl ?_)))))))))))))))))))))))
    refine p_skip rfl rfl rfl (p_skip rfl rfl rfl (p_skip rfl rfl rfl (p_skip rfl rfl rfl (p_skip rfl rfl rfl (p_skip rfl rfl rfl (p_skip rfl rfl rfl (p_pick_f rfl rfl rfl rfl (p_pick_f rfl rfl rfl rfl (p_nil fun w296 u297 => ?_)))))))))
    have zu297 := u297.size
    refine t_nil' ?_
    exact hK279 0 _ _ ⟨rfl, rfl, rfl, rfl, rfl, rfl, rfl, rfl, rfl, rfl, rfl, rfl, rfl, rfl, rfl, trivial⟩ ((Upd.refl _ _).next u297 (fun _ _ h => h.elim))
   intro zz w280 u281
   have zu281 := u281.size
   refine c_cond_f rfl (c_skip (hK277 _ _ (c_seq fun K300 hK300 => (c_region (t_field Try.underlying71 rfl Try.sizeOf69 (0) rfl rfl rfl rfl ?_)))))
   have B301 := (B274.kx u281)
   refine t_load Try.isAgg69 rfl rfl rfl (B301.get rfl) (t_nil' (hK300 _ _ (c_block (c_seq fun K302 hK302 => (c_region (t_cmp rfl rfl rfl rfl rfl (t_assign rfl rfl rfl (t_nil' (hK302 _ _ (c_condp rfl (fun g270 => ?_) (fun g270 => ?_)))))))))))
   ·
    have hz0 : (nth rW z).num = 0 ∧ (nth rW z).tons = (nth fourB k).tons - (nth (sI xs m).loaded k) := by
      rcases hzm.2 with h | h | h
      · exact ⟨h.2.1, h.2.2⟩
      · have := h.1; omega
      · have := h.1; omega
    have h274 : ¬ (nth rW z).num ≠ 0 := fun h => h hz0.1
    have h286 : ¬ (nth rW z).tons ≠ (nth fourB k).tons - (nth (sI xs m).loaded k) := fun h => h hz0.2
    have hlo9 := hco.lo
    have h288n : ¬ (nth rW z).wh = 1 := by omega
    refine c_seq fun K303 hK303 => (c_drawnQ follows (by kernel_rfl) (p_field Try.underlying71 rfl Try.sizeOf3 (1) rfl rfl rfl rfl (p_load Try.isAgg3 rfl rfl rfl (B301.get rfl) (p_cmp rfl rfl rfl rfl rfl (p_samehd (v := .bool false) (by simp [h274]) (p_move rfl rfl rfl (p_field Try.underlying71 rfl Try.sizeOf3 (2) rfl rfl rfl rfl (p_load Try.isAgg3 rfl rfl rfl (B301.get rfl) (p_field Try.underlying25 rfl Try.sizeOf22 (0) rfl rfl rfl rfl ?_)))))))))
    have B307 := ((((((((((((((((((((((B25.kx u29).kx u36).kx u43).kx u48).kx u55).kx u62).kx u71).kx u98).kx u106).kx u113).kx u120).kx u125).kx u132).kx u139).kx u148).kx u153).keep u156 (by omega)).keep u166 (by omega)).kx u258).kx u270).keep u273 (by omega)).kx u281)
    refine p_load Try.isAgg22 rfl rfl rfl (B307.get rfl) (p_move rfl rfl rfl ?_)
    have D308 := (((((((((D135.keep u139 (fun _ h => h)).keep u148 (fun _ h => h)).keep u153 (fun _ h => h)).keep u156 (fun hp => by have h9 := hkfB11.lt hp; show ¬ (bfB11 = bk150); omega)).keep u166 (fun hp => by have h9 := hkfB11.lt hp; show ¬ (bfB11 = bk150 ∨ bfB11 = bk145); omega)).keep u258 (fun _ h => h)).keep u270 (fun _ h => h)).keep u273 (fun hp => by have h9 := hkfB11.lt hp; show ¬ (bfB11 = bk267); omega)).keep u281 (fun _ h => h))
    have i309 : k < fourB.length := (show k < 4 by omega)
    refine p_index (j := k) Try.underlying22 Try.sizeOf93 rfl rfl rfl rfl (D308.addr (by omega)) rfl (by omega) (p_field Try.underlying93 rfl Try.sizeOf3 (0 + k * 3 + 0) rfl rfl rfl rfl (p_load Try.isAgg3 rfl rfl rfl ((D308.at_ k (show k < 4 by omega)) 0 _ rfl) (p_move rfl rfl rfl (p_ari rfl rfl rfl rfl rfl (by omega) (p_cmp rfl rfl rfl rfl rfl (p_samehd (v := .bool false) (by simp [h286]) (p_pick_f rfl rfl rfl rfl (p_nil fun w310 u311 => ?_))))))))
    have zu311 := u311.size
    refine t_nil' (hK303 _ _ (c_cond_f rfl (c_skip (hK263 _ _ (c_region (t_move rfl rfl rfl (t_ari rfl rfl rfl rfl rfl (by omega) (t_assign rfl rfl rfl (t_nil' ?_)))))))))
    have hs9 := sumW_take (q := 1) (l := rW) (k := z) (by omega)
    rw [if_neg (fun h : (1 : Int) < 0 ∨ (nth rW z).wh = 1 => by omega), Int.add_zero] at hs9
    exact hK256 (z + 1) _ _ (by omega) ⟨rfl, rfl, rfl, rfl, rfl, rfl, rfl, rfl, rfl, rfl, (congrArg (fun q => some (Value.int .i64 q)) hst.symm), (congrArg (fun q => some (Value.int .i64 q)) hs9.symm), rfl, trivial⟩ ⟨((((u258.next u270 (fun _ _ h => h.elim)).next u273 (fun i hi h => by omega)).next u281 (fun _ _ h => h.elim)).next u311 (fun _ _ h => h.elim)), (by omega)⟩
   refine c_seq fun K313 hK313 => (c_region (t_cmp rfl rfl rfl rfl rfl (t_assign rfl rfl rfl (t_nil' (hK313 _ _ (c_condp rfl (fun g288 => ?_) (fun g288 => ?_)))))))
   ·
    have hz1 : (0 ≤ (nth rW z).num ∧ (nth rW z).num ≤ 3) ∧ (nth rW z).tons = ofT (nth (sI xs m).hold (nth rW z).num.toNat) (k : Int) := by
      rcases hzm.2 with h | h | h
      · have := h.1; omega
      · exact ⟨⟨h.2.1, h.2.2.1⟩, h.2.2.2⟩
      · have := h.1; omega
    have hkr := rowK hso (by omega) hzr (k := (nth rW z).num.toNat) (by omega)
    have h296 : ¬ (nth rW z).num < 0 := by omega
    have h300 : ¬ 3 < (nth rW z).num := by omega
    have h312 : ¬ (nth rW z).tons ≠ tonsV ((nth rowsH (nth rW z).num.toNat).xs.map HLay.v) (k : Int) := fun h => h (by rw [hz1.2, hie, ← hkr.2.2.2.1]; exact (if_neg (by omega)).symm)
    refine c_seq fun K314 hK314 => (c_region (t_move rfl rfl rfl (t_field Try.underlying71 rfl Try.sizeOf3 (2) rfl rfl rfl rfl (t_load Try.isAgg3 rfl rfl rfl (B301.get rfl) (t_ari rfl rfl rfl rfl rfl (by omega) (t_assign rfl rfl rfl (t_nil' (hK314 _ _ (c_seq fun K315 hK315 => (c_drawnQ follows (by kernel_rfl) (p_field Try.underlying71 rfl Try.sizeOf3 (1) rfl rfl rfl rfl (p_load Try.isAgg3 rfl rfl rfl (B301.get rfl) (p_cmp rfl rfl rfl rfl rfl (p_samehd (v := .bool false) (by simp [h296]) (p_move rfl rfl rfl (p_field Try.underlying71 rfl Try.sizeOf3 (1) rfl rfl rfl rfl (p_load Try.isAgg3 rfl rfl rfl (B301.get rfl) (p_cmp rfl rfl rfl rfl rfl (p_samehd (v := .bool false) (by simp [h300]) (p_pick_f rfl rfl rfl rfl (p_move rfl rfl rfl (p_field Try.underlying71 rfl Try.sizeOf3 (2) rfl rfl rfl rfl (p_load Try.isAgg3 rfl rfl rfl (B301.get rfl) ?_)))))))))))))))))))))))
    refine p_move rfl rfl rfl (p_field Try.underlying71 rfl Try.sizeOf3 (1) rfl rfl rfl rfl (p_load Try.isAgg3 rfl rfl rfl (B301.get rfl) ?_))
    have D321 := (((((((((((((((((((hroH.keep u48 (fun _ h => h)).keep u55 (fun _ h => h)).keep u62 (fun _ h => h)).keep u71 (fun _ h => h)).keep u98 (fun _ h => h)).keep u106 (fun _ h => h)).keep u113 (fun _ h => h)).keep u120 (fun _ h => h)).keep u125 (fun _ h => h)).keep u132 (fun _ h => h)).keep u139 (fun _ h => h)).keep u148 (fun _ h => h)).keep u153 (fun _ h => h)).keep u156 (fun hp => by have h9 := hroH.lt hp; show ¬ (gH = bk150); omega)).keep u166 (fun hp => by have h9 := hroH.lt hp; show ¬ (gH = bk150 ∨ gH = bk145); omega)).keep u258 (fun _ h => h)).keep u270 (fun _ h => h)).keep u273 (fun hp => by have h9 := hroH.lt hp; show ¬ (gH = bk267); omega)).keep u281 (fun _ h => h))
    have i322 : ((nth rW z).num).toNat < rowsH.length := (by omega)
    refine p_index (j := ((nth rW z).num).toNat) Try.underlying33 Try.sizeOf36 rfl rfl rfl rfl (D321.addr (by omega)) (by omega) (by omega) (p_load Try.isAgg36 rfl rfl rfl ((D321.at_ (((nth rW z).num).toNat) (by omega)) 0 _ rfl) (p_move rfl rfl rfl (p_call (v := .int .i64 (tonsV ((nth rowsH (((nth rW z).num).toNat)).xs.map HLay.v) (k : Int))) own33 rfl rfl rfl rfl (fun _ u323 => (by have zu323 := u323.size; have D325 := (fun r hr => LaysR.keep ((fun r hr => LaysR.keep ((fun r hr => LaysR.old (hrlH r hr) ((fun r hr => LaysR.keep ((fun r hr => LaysR.keep ((fun r hr => LaysR.old (hrlH r hr) ((fun r hr => LaysR.old (hrlH r hr) ((fun r hr => LaysR.keep ((fun r hr => LaysR.keep ((fun r hr => LaysR.keep ((fun r hr => LaysR.keep ((fun r hr => LaysR.keep ((fun r hr => LaysR.keep ((fun r hr => LaysR.keep ((fun r hr => LaysR.keep ((fun r hr => LaysR.keep ((fun r hr => LaysR.keep ((fun r hr => LaysR.keep ((fun r hr => LaysR.keep ((fun r hr => LaysR.keep (hrlH r hr) u48 (fun _ _ h => h)) r hr) u55 (fun _ _ h => h)) r hr) u62 (fun _ _ h => h)) r hr) u71 (fun _ _ h => h)) r hr) u98 (fun _ _ h => h)) r hr) u106 (fun _ _ h => h)) r hr) u113 (fun _ _ h => h)) r hr) u120 (fun _ _ h => h)) r hr) u125 (fun _ _ h => h)) r hr) u132 (fun _ _ h => h)) r hr) u139 (fun _ _ h => h)) r hr) u148 (fun _ _ h => h)) r hr) u153 (fun _ _ h => h)) r hr) u156 (fun k hk => by show ¬ (k = bk150); omega)) r hr) u166 (fun k hk => by show ¬ (k = bk150 ∨ k = bk145); omega)) r hr) u258 (fun _ _ h => h)) r hr) u270 (fun _ _ h => h)) r hr) u273 (fun k hk => by show ¬ (k = bk267); omega)) r hr) u281 (fun _ _ h => h)) r hr) u323 (fun _ _ h => h)); exact (tons11_c (nth rowsH (((nth rW z).num).toNat)).xs (nth rowsH (((nth rW z).num).toNat)).ao (nth rowsH (((nth rW z).num).toNat)).g (nth rowsH (((nth rW z).num).toNat)).cp (k : Int) _ (D325 (nth rowsH (((nth rW z).num).toNat)) (nth_mem (by omega))).1 hkr.1 hkr.2.1))) (p_cmp rfl rfl rfl rfl rfl (p_samehd (v := .bool false) (by simp [h312]) (p_pick_f rfl rfl rfl rfl (p_nil fun w326 u327 => ?_)))))))
    have zu327 := u327.size
    refine t_nil' (hK315 _ _ (c_cond_f rfl (c_skip (hK263 _ _ (c_region (t_move rfl rfl rfl (t_ari rfl rfl rfl rfl rfl (by omega) (t_assign rfl rfl rfl (t_nil' ?_)))))))))
    have hs9 := sumW_take (q := 1) (l := rW) (k := z) (by omega)
    rw [if_pos (.inr g288)] at hs9
    exact hK256 (z + 1) _ _ (by omega) ⟨rfl, rfl, rfl, rfl, rfl, rfl, rfl, rfl, rfl, rfl, (congrArg (fun q => some (Value.int .i64 q)) hst.symm), (congrArg (fun q => some (Value.int .i64 q)) hs9.symm), rfl, trivial⟩ ⟨((((u258.next u270 (fun _ _ h => h.elim)).next u273 (fun i hi h => by omega)).next u281 (fun _ _ h => h.elim)).next u327 (fun _ _ h => h.elim)), (by omega)⟩
   have hz2 : (nth rW z).wh = 2 ∧ (0 ≤ (nth rW z).num ∧ (nth rW z).num ≤ 99) ∧ (nth rW z).tons = nth (ldA k (sI xs m).landed) (nth rW z).num.toNat := by
     rcases hzm.2 with h | h | h
     · have := h.1; omega
     · have := h.1; omega
     · exact ⟨h.1, ⟨h.2.1, h.2.2.1⟩, h.2.2.2⟩
   have h250 : ¬ (nth rW z).wh ≠ 2 := fun h => h hz2.1
   have h254 : ¬ (nth rW z).num < 0 := by omega
   have h259 : ¬ 99 < (nth rW z).num := by omega
   have h268 : ¬ (nth rW z).tons ≠ nth (ldA k (sI xs m).landed) (nth rW z).num.toNat := fun h => h hz2.2.2
   refine c_seq fun K329 hK329 => (c_drawnQ follows (by kernel_rfl) (p_field Try.underlying71 rfl Try.sizeOf69 (0) rfl rfl rfl rfl (p_load Try.isAgg69 rfl rfl rfl (B301.get rfl) (p_cmp rfl rfl rfl rfl rfl (p_samehd (v := .bool false) (by simp [h250]) (p_move rfl rfl rfl (p_field Try.underlying71 rfl Try.sizeOf3 (1) rfl rfl rfl rfl (p_load Try.isAgg3 rfl rfl rfl (B301.get rfl) (p_cmp rfl rfl rfl rfl rfl (p_samehd (v := .bool false) (by simp [h254]) (p_pick_f rfl rfl rfl rfl (p_move rfl rfl rfl (p_field Try.underlying71 rfl Try.sizeOf3 (1) rfl rfl rfl rfl (p_load Try.isAgg3 rfl rfl rfl (B301.get rfl) (p_cmp rfl rfl rfl rfl rfl (p_samehd (v := .bool false) (by simp [h259]) (p_pick_f rfl rfl rfl rfl (p_move rfl rfl rfl (p_field Try.underlying71 rfl Try.sizeOf3 (2) rfl rfl rfl rfl (p_load Try.isAgg3 rfl rfl rfl (B301.get rfl) (p_field Try.underlying71 rfl Try.sizeOf3 (1) rfl rfl rfl rfl (p_load Try.isAgg3 rfl rfl rfl (B301.get rfl) (p_indexArr (j := ((nth rW z).num).toNat) (0 + (((nth rW z).num).toNat) * 1) Try.underlying91 Try.sizeOf3 rfl rfl rfl rfl (by omega) (by omega) rfl ?_)))))))))))))))))))))))
   have B331 := ((((I167.kx u258).kx u270).keep u273 (by omega)).kx u281)
   refine p_load Try.isAgg3 rfl rfl rfl (((SlI.own B331).at_ (((nth rW z).num).toNat) (by rw [ldA_len]; omega)) 0 _ rfl) (p_cmp rfl rfl rfl rfl rfl (p_samehd (v := .bool false) (by simp [h268]) (p_pick_f rfl rfl rfl rfl (p_nil fun w332 u333 => ?_))))
   have zu333 := u333.size
   refine t_nil' (hK329 _ _ (c_cond_f rfl (c_skip (hK263 _ _ (c_region (t_move rfl rfl rfl (t_ari rfl rfl rfl rfl rfl (by omega) (t_assign rfl rfl rfl (t_nil' ?_)))))))))
   have hs9 := sumW_take (q := 1) (l := rW) (k := z) (by omega)
   rw [if_neg (fun h : (1 : Int) < 0 ∨ (nth rW z).wh = 1 => by omega), Int.add_zero] at hs9
   exact hK256 (z + 1) _ _ (by omega) ⟨rfl, rfl, rfl, rfl, rfl, rfl, rfl, rfl, rfl, rfl, (congrArg (fun q => some (Value.int .i64 q)) hst.symm), (congrArg (fun q => some (Value.int .i64 q)) hs9.symm), rfl, trivial⟩ ⟨((((u258.next u270 (fun _ _ h => h.elim)).next u273 (fun i hi h => by omega)).next u281 (fun _ _ h => h.elim)).next u333 (fun _ _ h => h.elim)), (by omega)⟩
  have hzz : z = rW.length := by omega
  refine c_exit (hK254 _ _ (c_seq fun K335 hK335 => ?_))
  have htk : ∀ q, sumW q (rW.take z) = sumW q rW := fun q => by rw [hzz, List.take_length]
  have hq1 := hwo.all
  have hq2 := hwo.abd
  have hq3 := hco.lo
  have hq4 := hco.ab
  have hq5 := hco.ld
  have hq6 := hco.sum
  have hq7 := hco.pos
  have hq8 := hco.top
  have h321 : ¬ sumW (-1) (rW.take z) ≠ (nth fourB k).tons := fun h => h ((htk _).trans hq1)
  have h329 : ¬ (nth rC k).loaded ≠ (nth (sI xs m).loaded k) := fun h => h hq3
  have h338 : ¬ (nth rC k).aboard ≠ sumW 1 (rW.take z) := fun h => h (by rw [htk, hq2, hq4])
  have h363 : ¬ (nth rC k).loaded ≠ (nth rC k).aboard + (nth rC k).landed + (nth rC k).astray := fun h => h hq6
  have h379 : ¬ (nth rC k).landed ≠ nth (ldA k (sI xs m).landed) ((nth fourB k).to).toNat := fun h => h hq5
  have h389 : ¬ (nth fourB k).tons < (nth (sI xs m).loaded k) := by omega
  have h394 : rR = rc := by rw [hrR2, hrc]
  refine c_drawnQ follows (by kernel_rfl) (p_move rfl rfl rfl (p_field Try.underlying25 rfl Try.sizeOf22 (0) rfl rfl rfl rfl ?_))
  have B354 := (((((((((((((((((((B25.kx u29).kx u36).kx u43).kx u48).kx u55).kx u62).kx u71).kx u98).kx u106).kx u113).kx u120).kx u125).kx u132).kx u139).kx u148).kx u153).keep u156 (by omega)).keep u166 (by omega)).kx u258)
  refine p_load Try.isAgg22 rfl rfl rfl (B354.get rfl) (p_move rfl rfl rfl ?_)
  have D355 := ((((((D135.keep u139 (fun _ h => h)).keep u148 (fun _ h => h)).keep u153 (fun _ h => h)).keep u156 (fun hp => by have h9 := hkfB11.lt hp; show ¬ (bfB11 = bk150); omega)).keep u166 (fun hp => by have h9 := hkfB11.lt hp; show ¬ (bfB11 = bk150 ∨ bfB11 = bk145); omega)).keep u258 (fun _ h => h))
  have i356 : k < fourB.length := (show k < 4 by omega)
  refine p_index (j := k) Try.underlying22 Try.sizeOf93 rfl rfl rfl rfl (D355.addr (by omega)) rfl (by omega) (p_field Try.underlying93 rfl Try.sizeOf3 (0 + k * 3 + 0) rfl rfl rfl rfl (p_load Try.isAgg3 rfl rfl rfl ((D355.at_ k (show k < 4 by omega)) 0 _ rfl) (p_cmp rfl rfl rfl rfl rfl (p_samehd (v := .bool false) (by simp [h321]) (p_move rfl rfl rfl (p_move rfl rfl rfl (p_move rfl rfl rfl ?_)))))))
  have D357 := (((((((((((((hlC.keep u71 (fun _ h => h)).keep u98 (fun _ h => h)).keep u106 (fun _ h => h)).keep u113 (fun _ h => h)).keep u120 (fun _ h => h)).keep u125 (fun _ h => h)).keep u132 (fun _ h => h)).keep u139 (fun _ h => h)).keep u148 (fun _ h => h)).keep u153 (fun _ h => h)).keep u156 (fun hp => by have h9 := hlC.lt hp; show ¬ (gC = bk150); omega)).keep u166 (fun hp => by have h9 := hlC.lt hp; show ¬ (gC = bk150 ∨ gC = bk145); omega)).keep u258 (fun _ h => h))
  have i358 : k < rC.length := (by omega)
  refine p_index (j := k) Try.underlying58 Try.sizeOf65 rfl rfl rfl rfl (D357.addr (by omega)) rfl (by omega) (p_field Try.underlying65 rfl Try.sizeOf3 (0 + k * 4 + 0) rfl rfl rfl rfl (p_load Try.isAgg3 rfl rfl rfl ((D357.at_ k (by omega)) 0 _ rfl) (p_move rfl rfl rfl (p_cmp rfl rfl rfl rfl rfl (p_samehd (v := .bool false) (by simp [h329]) (p_pick_f rfl rfl rfl rfl (p_move rfl rfl rfl (p_move rfl rfl rfl (p_move rfl rfl rfl ?_)))))))))
  have i359 : k < rC.length := (by omega)
  refine p_index (j := k) Try.underlying58 Try.sizeOf65 rfl rfl rfl rfl (D357.addr (by omega)) rfl (by omega) (p_field Try.underlying65 rfl Try.sizeOf3 (0 + k * 4 + 1) rfl rfl rfl rfl (p_load Try.isAgg3 rfl rfl rfl ((D357.at_ k (by omega)) 1 _ rfl) (p_move rfl rfl rfl (p_cmp rfl rfl rfl rfl rfl (p_samehd (v := .bool false) (by simp [h338]) (p_pick_f rfl rfl rfl rfl (p_move rfl rfl rfl (p_move rfl rfl rfl (p_move rfl rfl rfl ?_)))))))))
  have i360 : k < rC.length := (by omega)
  refine p_index (j := k) Try.underlying58 Try.sizeOf65 rfl rfl rfl rfl (D357.addr (by omega)) rfl (by omega) (p_field Try.underlying65 rfl Try.sizeOf3 (0 + k * 4 + 0) rfl rfl rfl rfl (p_load Try.isAgg3 rfl rfl rfl ((D357.at_ k (by omega)) 0 _ rfl) (p_move rfl rfl rfl (p_move rfl rfl rfl ?_))))
  have i361 : k < rC.length := (by omega)
  refine p_index (j := k) Try.underlying58 Try.sizeOf65 rfl rfl rfl rfl (D357.addr (by omega)) rfl (by omega) (p_field Try.underlying65 rfl Try.sizeOf3 (0 + k * 4 + 1) rfl rfl rfl rfl (p_load Try.isAgg3 rfl rfl rfl ((D357.at_ k (by omega)) 1 _ rfl) (p_move rfl rfl rfl (p_move rfl rfl rfl ?_))))
  have i362 : k < rC.length := (by omega)
  refine p_index (j := k) Try.underlying58 Try.sizeOf65 rfl rfl rfl rfl (D357.addr (by omega)) rfl (by omega) (p_field Try.underlying65 rfl Try.sizeOf3 (0 + k * 4 + 2) rfl rfl rfl rfl (p_load Try.isAgg3 rfl rfl rfl ((D357.at_ k (by omega)) 2 _ rfl) (p_ari rfl rfl rfl rfl rfl (by omega) (p_move rfl rfl rfl (p_move rfl rfl rfl ?_)))))
  have i363 : k < rC.length := (by omega)
  refine p_index (j := k) Try.underlying58 Try.sizeOf65 rfl rfl rfl rfl (D357.addr (by omega)) rfl (by omega) (p_field Try.underlying65 rfl Try.sizeOf3 (0 + k * 4 + 3) rfl rfl rfl rfl (p_load Try.isAgg3 rfl rfl rfl ((D357.at_ k (by omega)) 3 _ rfl) (p_ari rfl rfl rfl rfl rfl (by omega) (p_cmp rfl rfl rfl rfl rfl (p_samehd (v := .bool false) (by simp [h363]) (p_pick_f rfl rfl rfl rfl (p_move rfl rfl rfl (p_move rfl rfl rfl (p_move rfl rfl rfl ?_)))))))))
  have i364 : k < rC.length := (by omega)
  refine p_index (j := k) Try.underlying58 Try.sizeOf65 rfl rfl rfl rfl (D357.addr (by omega)) rfl (by omega) (p_field Try.underlying65 rfl Try.sizeOf3 (0 + k * 4 + 2) rfl rfl rfl rfl (p_load Try.isAgg3 rfl rfl rfl ((D357.at_ k (by omega)) 2 _ rfl) (p_field Try.underlying25 rfl Try.sizeOf22 (0) rfl rfl rfl rfl (p_load Try.isAgg22 rfl rfl rfl (B354.get rfl) (p_move rfl rfl rfl ?_)))))
  have i365 : k < fourB.length := (show k < 4 by omega)
  refine p_index (j := k) Try.underlying22 Try.sizeOf93 rfl rfl rfl rfl (D355.addr (by omega)) rfl (by omega) (p_field Try.underlying93 rfl Try.sizeOf3 (0 + k * 3 + 2) rfl rfl rfl rfl (p_load Try.isAgg3 rfl rfl rfl ((D355.at_ k (show k < 4 by omega)) 2 _ rfl) (p_indexArr (j := ((nth fourB k).to).toNat) (0 + (((nth fourB k).to).toNat) * 1) Try.underlying91 Try.sizeOf3 rfl rfl rfl rfl (by omega) (by omega) rfl ?_)))
  have B366 := (I167.kx u258)
  refine p_load Try.isAgg3 rfl rfl rfl (((SlI.own B366).at_ (((nth fourB k).to).toNat) (by rw [ldA_len]; omega)) 0 _ rfl) (p_cmp rfl rfl rfl rfl rfl (p_samehd (v := .bool false) (by simp [h379]) (p_pick_f rfl rfl rfl rfl (p_move rfl rfl rfl (p_move rfl rfl rfl (p_field Try.underlying25 rfl Try.sizeOf22 (0) rfl rfl rfl rfl (p_load Try.isAgg22 rfl rfl rfl (B354.get rfl) (p_move rfl rfl rfl ?_))))))))
  have i367 : k < fourB.length := (show k < 4 by omega)
  refine p_index (j := k) Try.underlying22 Try.sizeOf93 rfl rfl rfl rfl (D355.addr (by omega)) rfl (by omega) (p_field Try.underlying93 rfl Try.sizeOf3 (0 + k * 3 + 0) rfl rfl rfl rfl (p_load Try.isAgg3 rfl rfl rfl ((D355.at_ k (show k < 4 by omega)) 0 _ rfl) (p_cmp rfl rfl rfl rfl rfl (p_samehd (v := .bool false) (by simp [h389]) (p_pick_f rfl rfl rfl rfl (p_move rfl rfl rfl (p_move rfl rfl rfl (p_move rfl rfl rfl (p_call (v := .bool (decide (rR = rc))) own26 rfl rfl rfl rfl (fun _ u368 => (by have zu368 := u368.size; have D370 := ((((((hlR.keep u148 (fun _ h => h)).keep u153 (fun _ h => h)).keep u156 (fun hp => by have h9 := hlR.lt hp; show ¬ (gR = bk150); omega)).keep u166 (fun hp => by have h9 := hlR.lt hp; show ¬ (gR = bk150 ∨ gR = bk145); omega)).keep u258 (fun _ h => h)).keep u368 (fun _ h => h)); have D371 := ((hrA.keep u258 (fun _ h => h)).keep u368 (fun _ h => h)); exact (numbers_c rR rc aoR ar gR gr 0 0 cR cr _ D370 (D371.sl (fun _ => rfl)) (by rw [h394]; omega)))) (p_samehd (v := .bool true) (by simp [h394]) (p_not rfl rfl rfl (p_pick_f rfl rfl rfl rfl (p_nil fun w372 u373 => ?_)))))))))))))
  have zu373 := u373.size
  refine t_nil' (hK335 _ _ (c_cond_f rfl (c_skip (hK103 _ _ (c_region (t_move rfl rfl rfl (t_ari rfl rfl rfl rfl rfl (by omega) (t_assign rfl rfl rfl (t_nil' ?_)))))))))
  exact hK96 (k + 1) _ _ (by omega) ⟨rfl, rfl, rfl, rfl, rfl, trivial⟩ ⟨((((((((((((u98.next u106 (fun _ _ h => h.elim)).next u113 (fun _ _ h => h.elim)).next u120 (fun _ _ h => h.elim)).next u125 (fun _ _ h => h.elim)).next u132 (fun _ _ h => h.elim)).next u139 (fun _ _ h => h.elim)).next u148 (fun _ _ h => h.elim)).next u153 (fun _ _ h => h.elim)).next u156 (fun i hi h => by omega)).next u166 (fun i hi h => by omega)).next u258 (fun _ _ h => h.elim)).next u373 (fun _ _ h => h.elim)), (by omega)⟩
 refine c_exit (hK94 _ _ (c_seq fun K375 hK375 => (c_region (t_call own11 rfl rfl rfl rfl (known_c _) (fun v376 w377 r379 => ?_)))))
 obtain ⟨rfl, u378⟩ := r379
 have zu378 := u378.size
 refine t_assign rfl rfl rfl (t_nil' (hK375 _ _ (c_ret (f_ret1 (v := .bool true) Try.results6 rfl ?_))))
 exact ⟨rfl, ((((((((((((((Upd.refl (fun _ => False) w0).nx u5).nx u15).nx u21).next u24 (fun i hi h => by omega)).nx u29).nx u36).nx u43).nx u48).nx u55).nx u62).nx u71).nx u98).nx u378)⟩

end Go.Proofs.Ytblkphbblkncdaa
