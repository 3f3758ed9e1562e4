/-
  The law TraceWheres: the walk. Conditions: none.
-/
import Derived.Test.YtgkkgpenmppjcaaVB12
namespace Go.Proofs.Ytgkkgpenmppjcaa
open Go Go.RowKit
def sAt (bs : List Bil) (hs : List Hld) (us : List Ev) : Int := (sailP bs hs us).2.1
def sEr (bs : List Bil) (hs : List Hld) (us : List Ev) : Int := (sailP bs hs us).2.2
theorem rReplayU_c (bs : List Bil) (ab : Option Addr) (bb ob cb : Nat) (hs : List Hld) (ah : Option Addr) (bh oh ch : Nat) (us : List Ev) (ae : Option Addr) (be oe ce : Nat) (w0 : World) (hbs : Sl encBil 3 w0 ab bb ob bs) (hhs : Sl encHld 2 w0 ah bh oh hs) (hbl : bs.length ≤ 1000000) (hhl : hs.length ≤ 1000000) (hu : Sl encEv 8 w0 ae be oe us) (hul : us.length ≤ 1000000) (hpos : 0 < w0.heap.size) : CallsV Try.prog 18 [.agg #[.slice ab bs.length cb, .slice ah hs.length ch], .slice ae us.length ce] w0 (fun v w' => (∃ R : RG, v = .tuple #[.agg #[.slice R.ha R.hl.length R.hc, .slice R.sa R.sl.length R.sc, .slice R.la R.ld.length R.lc, .slice R.da R.lo.length R.dc, .slice R.ea R.se.length R.ec], .int .i64 (sAt bs hs us), .int .i64 (sEr bs hs us)] ∧ RM w' R ∧ (sEr bs hs us = 0 → (sailP bs hs us).1 = R.st ∧ StOk bs (hs.map Hld.cap) us.length R.st ∧ us.length ≤ 100)) ∧ Ext w0 w') := by
  refine (rReplay_c bs ab bb ob cb hs ah bh oh ch us ae be oe ce w0 hbs hhs hbl hhl hu hul hpos).mono ?_
  rintro v w' ⟨h, u⟩
  refine ⟨?_, u⟩
  unfold sAt sEr
  rcases h with ⟨a, e, rfl, he, h⟩ | ⟨R, rfl, h, h1, h2, h3⟩
  · rw [h]
    exact ⟨⟨none, 0, 0, [], none, 0, 0, [], none, 0, 0, [], none, 0, 0, [], none, 0, 0, []⟩, rfl, ⟨Sl.nil _ _ _ _ _ _, (fun r hr => by cases hr), Sl.nil _ _ _ _ _ _, Sl.nil _ _ _ _ _ _, (fun r hr => by cases hr), Sl.nil _ _ _ _ _ _, Sl.nil _ _ _ _ _ _⟩, fun h0 => absurd h0 he⟩
  · rw [h]
    exact ⟨R, rfl, h1, fun _ => ⟨rfl, h2, h3⟩⟩
theorem WhereU_c (bs : List Bil) (ab : Option Addr) (bb ob cb : Nat) (hs : List Hld) (ah : Option Addr) (bh oh ch : Nat) (us : List Ev) (ae : Option Addr) (be oe ce : Nat) (bl : Int) (w0 : World) (hbs : Sl encBil 3 w0 ab bb ob bs) (hhs : Sl encHld 2 w0 ah bh oh hs) (hbl : bs.length ≤ 1000000) (hhl : hs.length ≤ 1000000) (hu : Sl encEv 8 w0 ae be oe us) (hul : us.length ≤ 1000000) (hpos : 0 < w0.heap.size) : CallsV Try.prog 21 [.agg #[.slice ab bs.length cb, .slice ah hs.length ch], .slice ae us.length ce, .int .i64 bl] w0 (fun v w' => (∃ ao g cp r e, v = .tuple #[.slice ao (List.length r) cp, .int .i64 (sAt bs hs us), .int .i64 e] ∧ Sl encShr 3 w' ao g 0 r ∧ (sEr bs hs us ≠ 0 → e = sEr bs hs us ∧ r = []) ∧ (sEr bs hs us = 0 → (¬ (0 ≤ bl ∧ bl ≤ (bs.length : Int) - 1) → e = 7 ∧ r = []) ∧ ((0 ≤ bl ∧ bl ≤ (bs.length : Int) - 1) → e = 0 ∧ r = whP bs (sailP bs hs us).1 bl))) ∧ Ext w0 w') := by
  refine (Where_c bs ab bb ob cb hs ah bh oh ch us ae be oe ce bl w0 hbs hhs hbl hhl hu hul hpos).mono ?_
  rintro v w' ⟨h, u⟩
  refine ⟨?_, u⟩
  unfold sAt sEr
  rcases h with ⟨a, e, rfl, he, h⟩ | ⟨h, h1, rfl⟩ | ⟨h, h1, ao, g, cp, r, rfl, h2, h3⟩
  · rw [h]
    exact ⟨none, 0, 0, [], e, rfl, Sl.nil _ _ _ _ _ _, fun _ => ⟨rfl, rfl⟩, fun h0 => absurd h0 he⟩
  · rw [h]
    exact ⟨none, 0, 0, [], 7, rfl, Sl.nil _ _ _ _ _ _, fun h0 => absurd rfl h0, fun _ => ⟨fun _ => ⟨rfl, rfl⟩, fun h0 => absurd h0 h1⟩⟩
  · rw [h]
    exact ⟨ao, g, cp, r, 0, rfl, h3, fun h0 => absurd rfl h0, fun _ => ⟨fun h0 => absurd h1 h0, fun _ => ⟨rfl, h2⟩⟩⟩
theorem RecallU_c (bs : List Bil) (ab : Option Addr) (bb ob cb : Nat) (hs : List Hld) (ah : Option Addr) (bh oh ch : Nat) (us : List Ev) (ae : Option Addr) (be oe ce : Nat) (bl : Int) (w0 : World) (hbs : Sl encBil 3 w0 ab bb ob bs) (hhs : Sl encHld 2 w0 ah bh oh hs) (hbl : bs.length ≤ 1000000) (hhl : hs.length ≤ 1000000) (hu : Sl encEv 8 w0 ae be oe us) (hul : us.length ≤ 1000000) (hpos : 0 < w0.heap.size) : CallsV Try.prog 23 [.agg #[.slice ab bs.length cb, .slice ah hs.length ch], .slice ae us.length ce, .int .i64 bl] w0 (fun v w' => (∃ ao g cp r e, v = .tuple #[.slice ao (List.length r) cp, .int .i64 (sAt bs hs us), .int .i64 e] ∧ Sl encI 1 w' ao g 0 r ∧ (sEr bs hs us ≠ 0 → e = sEr bs hs us ∧ r = []) ∧ (sEr bs hs us = 0 → (¬ (0 ≤ bl ∧ bl ≤ (bs.length : Int) - 1) → e = 7 ∧ r = []) ∧ ((0 ≤ bl ∧ bl ≤ (bs.length : Int) - 1) → e = 0 ∧ r = recF (sailP bs hs us).1.landed bl))) ∧ Ext w0 w') := by
  refine (Recall_c bs ab bb ob cb hs ah bh oh ch us ae be oe ce bl w0 hbs hhs hbl hhl hu hul hpos).mono ?_
  rintro v w' ⟨h, u⟩
  refine ⟨?_, u⟩
  unfold sAt sEr
  rcases h with ⟨a, e, rfl, he, h⟩ | ⟨h, h1, rfl⟩ | ⟨h, h1, ao, g, cp, r, rfl, h2, h3⟩
  · rw [h]
    exact ⟨none, 0, 0, [], e, rfl, Sl.nil _ _ _ _ _ _, fun _ => ⟨rfl, rfl⟩, fun h0 => absurd h0 he⟩
  · rw [h]
    exact ⟨none, 0, 0, [], 7, rfl, Sl.nil _ _ _ _ _ _, fun h0 => absurd rfl h0, fun _ => ⟨fun _ => ⟨rfl, rfl⟩, fun h0 => absurd h0 h1⟩⟩
  · rw [h]
    exact ⟨ao, g, cp, r, 0, rfl, h3, fun h0 => absurd rfl h0, fun _ => ⟨fun h0 => absurd h1 h0, fun _ => ⟨rfl, h2⟩⟩⟩
theorem ControlU_c (bs : List Bil) (ab : Option Addr) (bb ob cb : Nat) (hs : List Hld) (ah : Option Addr) (bh oh ch : Nat) (us : List Ev) (ae : Option Addr) (be oe ce : Nat) (w0 : World) (hbs : Sl encBil 3 w0 ab bb ob bs) (hhs : Sl encHld 2 w0 ah bh oh hs) (hbl : bs.length ≤ 1000000) (hhl : hs.length ≤ 1000000) (hu : Sl encEv 8 w0 ae be oe us) (hul : us.length ≤ 1000000) (hpos : 0 < w0.heap.size) : CallsV Try.prog 22 [.agg #[.slice ab bs.length cb, .slice ah hs.length ch], .slice ae us.length ce] w0 (fun v w' => (∃ ao g cp r, v = .tuple #[.slice ao (List.length r) cp, .int .i64 (sAt bs hs us), .int .i64 (sEr bs hs us)] ∧ Sl encCnt 4 w' ao g 0 r ∧ (sEr bs hs us ≠ 0 → r = []) ∧ (sEr bs hs us = 0 → sAt bs hs us = 0 ∧ r = (List.range bs.length).map (coP bs (sailP bs hs us).1))) ∧ Ext w0 w') := by
  refine (Control_c bs ab bb ob cb hs ah bh oh ch us ae be oe ce w0 hbs hhs hbl hhl hu hul hpos).mono ?_
  rintro v w' ⟨h, u⟩
  refine ⟨?_, u⟩
  unfold sAt sEr
  rcases h with ⟨a, e, rfl, he, h⟩ | ⟨h, ao, g, cp, r, rfl, h2, h3⟩
  · rw [h]
    exact ⟨none, 0, 0, [], rfl, Sl.nil _ _ _ _ _ _, fun _ => rfl, fun h0 => absurd h0 he⟩
  · rw [h]
    exact ⟨ao, g, cp, r, rfl, h3, fun h0 => absurd rfl h0, fun _ => ⟨rfl, h2⟩⟩
theorem rec_len {bs : List Bil} {caps : List Int} {n : Nat} {R : RG} (h : StOk bs caps n R.st) (hn : n ≤ 100) {b : Int} : (recF R.st.landed b).length ≤ 1000000 := by
  unfold recF
  rw [List.length_map]
  have := List.length_filter_le (fun x : Lnd => decide (0 < ofT x.parts b)) R.st.landed
  have := h.ldn
  omega
theorem fm_len {α : Type} {f : Nat → List α} (h : ∀ i, (f i).length ≤ 1) : ∀ k, ((List.range k).flatMap f).length ≤ k
  | 0 => by simp
  | k + 1 => by rw [fm_snoc, List.length_append]; have := fm_len h k; have := h k; omega
theorem one_len (a b n : Int) : (one a b n).length ≤ 1 := by unfold one; split <;> simp
theorem wh_len {bs : List Bil} {caps : List Int} {n : Nat} {R : RG} (h : StOk bs caps n R.st) {b : Int} : (whP bs R.st b).length ≤ 1000000 := by
  unfold whP
  rw [List.length_append, List.length_append]
  have h1 := one_len 0 0 ((nth bs b.toNat).tons - nth R.st.loaded b.toNat)
  have h2 := fm_len (f := fun (i : Nat) => one 1 (i : Int) (ofT (nth R.st.hold i) b)) (fun i => one_len _ _ _) R.st.hold.length
  have h3 := fm_len (f := fun (p : Nat) => one 2 (p : Int) (inS b (fun q => decide (q = (p : Int))) R.st.landed)) (fun i => one_len _ _ _) 100
  have h4 := h.hn
  have h5 := h.h20
  omega

set_option maxHeartbeats 4000000 in
theorem TraceWheres_c (bs : List Bil) (ab : Option Addr) (bb ob cb : Nat) (hs : List Hld) (ah : Option Addr) (bh oh ch : Nat) (us : List Ev) (ae : Option Addr) (be oe ce : Nat) (bl : Int) (w0 : World) (hbs : Sl encBil 3 w0 ab bb ob bs) (hhs : Sl encHld 2 w0 ah bh oh hs) (hu : Sl encEv 8 w0 ae be oe us) :
    CallsV Try.prog 4 [.agg #[.slice ab bs.length cb, .slice ah hs.length ch], .slice ae us.length ce, .int .i64 bl] w0 (fun v w' => v = .bool true ∧ Ext w0 w') := by
 refine f_enter (N := 214) Try.func4 rfl rfl rfl (c_seq fun K1 hK1 => (c_region (t_box (cs := [.slice ab bs.length cb, .slice ah hs.length ch]) rfl rfl rfl rfl (fun bk2 w3 ebk2 sbk2 B4 u5 => ?_))))
 have zu5 := u5.size
 refine t_assign rfl rfl rfl (t_nil' (hK1 _ _ (c_seq fun K7 hK7 => (c_seq fun K8 hK8 => (c_region (t_loadN (vs := [.slice ab bs.length cb, .slice ah hs.length ch]) Try.isAgg25 Try.sizeOf25 rfl rfl rfl (B4.at.sub 0 2) rfl (t_move rfl rfl rfl (t_call own10 rfl rfl rfl rfl (great_c bs ab bb ob cb hs ah bh oh ch us ae be oe ce _) (fun v9 w10 r12 => ?_)))))))))
 obtain ⟨rfl, u11⟩ := r12
 have zu11 := u11.size
 have E13 := ((Upd.refl (fun _ => False) w0).nx u5).nx u11
 refine t_nil' (hK8 _ _ (c_condp rfl (fun g25 => ?_) (fun g25 => ?_)))
 ·
  refine c_seq fun K14 hK14 => (c_region (t_call own11 rfl rfl rfl rfl (known_c _) (fun v15 w16 r18 => ?_)))
  obtain ⟨rfl, u17⟩ := r18
  have zu17 := u17.size
  refine t_assign rfl rfl rfl (t_nil' (hK14 _ _ (c_ret (f_ret1 (v := .bool true) Try.results4 rfl ?_))))
  exact ⟨rfl, (E13.nx u17)⟩
 have B20 := (B4.kx u11)
 have hbl : bs.length ≤ 1000000 := by omega
 have hhl : hs.length ≤ 1000000 := by omega
 have hul : us.length ≤ 1000000 := by omega
 have hlt3 := (B20).lt
 refine c_skip (hK7 _ _ (c_seq fun K21 hK21 => (c_region (t_loadN (vs := [.slice ab bs.length cb, .slice ah hs.length ch]) Try.isAgg25 Try.sizeOf25 rfl rfl rfl (B20.at.sub 0 2) rfl (t_call own12 rfl rfl rfl rfl (own_c bs ab bb ob cb hs ah bh oh ch _ (hbs.keep E13 (fun _ h => h)) (hhs.keep E13 (fun _ h => h)) hbl hhl) (fun v22 w23 r25 => ?_))))))
 obtain ⟨aoB1, gB1, cB1, aoH2, gH2, cH2, rfl, hkB1, hkH2, _, _, u24⟩ := r25
 have zu24 := u24.size
 have E26 := E13.nx u24
 refine t_move rfl rfl rfl (t_call own13 rfl rfl rfl rfl (events_c us ae be oe ce _ (hu.keep E26 (fun _ h => h)) hul) (fun v27 w28 r30 => ?_))
 obtain ⟨aoE1, gE1, cE1, rfl, hkE1, _, u29⟩ := r30
 have zu29 := u29.size
 refine t_move rfl rfl rfl ?_
 have D32 := (hkB1.keep u29 (fun _ h => h))
 have D33 := (hkH2.keep u29 (fun _ h => h))
 refine t_call own21 rfl rfl rfl rfl (WhereU_c bs aoB1 gB1 0 cB1 hs aoH2 gH2 0 cH2 us aoE1 gE1 0 cE1 bl _ D32 D33 hbl hhl hkE1 hul (by omega)) (fun v34 w35 r37 => ?_)
 obtain ⟨⟨aoW, gW, cW, rW, eW, rfl, hsW, hW1, hW2⟩, u36⟩ := r37
 have zu36 := u36.size
 have E38 := (E26.nx u29).nx u36
 refine t_move rfl rfl rfl (t_extract rfl rfl rfl rfl (t_extract rfl rfl rfl rfl (t_extract rfl rfl rfl rfl (t_assign rfl rfl rfl (t_assign rfl rfl rfl (t_assign rfl rfl rfl (t_nil' (hK21 _ _ (c_seq fun K39 hK39 => (c_region ?_))))))))))
 have B40 := (((B20.kx u24).kx u29).kx u36)
 refine t_loadN (vs := [.slice ab bs.length cb, .slice ah hs.length ch]) Try.isAgg25 Try.sizeOf25 rfl rfl rfl (B40.at.sub 0 2) rfl (t_call own12 rfl rfl rfl rfl (own_c bs ab bb ob cb hs ah bh oh ch _ (hbs.keep E38 (fun _ h => h)) (hhs.keep E38 (fun _ h => h)) hbl hhl) (fun v41 w42 r44 => ?_))
 obtain ⟨aoB3, gB3, cB3, aoH4, gH4, cH4, rfl, hkB3, hkH4, _, _, u43⟩ := r44
 have zu43 := u43.size
 have E45 := E38.nx u43
 refine t_move rfl rfl rfl (t_call own13 rfl rfl rfl rfl (events_c us ae be oe ce _ (hu.keep E45 (fun _ h => h)) hul) (fun v46 w47 r49 => ?_))
 obtain ⟨aoE2, gE2, cE2, rfl, hkE2, _, u48⟩ := r49
 have zu48 := u48.size
 have D51 := (hkB3.keep u48 (fun _ h => h))
 have D52 := (hkH4.keep u48 (fun _ h => h))
 refine t_call own22 rfl rfl rfl rfl (ControlU_c bs aoB3 gB3 0 cB3 hs aoH4 gH4 0 cH4 us aoE2 gE2 0 cE2 _ D51 D52 hbl hhl hkE2 hul (by omega)) (fun v53 w54 r56 => ?_)
 obtain ⟨⟨aoC, gC, cC, rC, rfl, hsC, hC1, hC2⟩, u55⟩ := r56
 have zu55 := u55.size
 have E57 := (E45.nx u48).nx u55
 refine t_move rfl rfl rfl (t_extract rfl rfl rfl rfl (t_extract rfl rfl rfl rfl (t_extract rfl rfl rfl rfl (t_assign rfl rfl rfl (t_assign rfl rfl rfl (t_assign rfl rfl rfl (t_nil' (hK39 _ _ (c_seq fun K58 hK58 => (c_region ?_))))))))))
 have B59 := (((B40.kx u43).kx u48).kx u55)
 refine t_loadN (vs := [.slice ab bs.length cb, .slice ah hs.length ch]) Try.isAgg25 Try.sizeOf25 rfl rfl rfl (B59.at.sub 0 2) rfl (t_call own12 rfl rfl rfl rfl (own_c bs ab bb ob cb hs ah bh oh ch _ (hbs.keep E57 (fun _ h => h)) (hhs.keep E57 (fun _ h => h)) hbl hhl) (fun v60 w61 r63 => ?_))
 obtain ⟨aoB5, gB5, cB5, aoH6, gH6, cH6, rfl, hkB5, hkH6, _, _, u62⟩ := r63
 have zu62 := u62.size
 have E64 := E57.nx u62
 refine t_move rfl rfl rfl (t_call own13 rfl rfl rfl rfl (events_c us ae be oe ce _ (hu.keep E64 (fun _ h => h)) hul) (fun v65 w66 r68 => ?_))
 obtain ⟨aoE3, gE3, cE3, rfl, hkE3, _, u67⟩ := r68
 have zu67 := u67.size
 refine t_move rfl rfl rfl ?_
 have D70 := (hkB5.keep u67 (fun _ h => h))
 have D71 := (hkH6.keep u67 (fun _ h => h))
 refine t_call own23 rfl rfl rfl rfl (RecallU_c bs aoB5 gB5 0 cB5 hs aoH6 gH6 0 cH6 us aoE3 gE3 0 cE3 bl _ D70 D71 hbl hhl hkE3 hul (by omega)) (fun v72 w73 r75 => ?_)
 obtain ⟨⟨aoR, gR, cR, rR, eR, rfl, hsR, hR1, hR2⟩, u74⟩ := r75
 have zu74 := u74.size
 have E76 := (E64.nx u67).nx u74
 refine t_move rfl rfl rfl (t_extract rfl rfl rfl rfl (t_extract rfl rfl rfl rfl (t_extract rfl rfl rfl rfl (t_assign rfl rfl rfl (t_assign rfl rfl rfl (t_assign rfl rfl rfl (t_nil' (hK58 _ _ (c_seq fun K77 hK77 => (c_region ?_))))))))))
 have B78 := (((B59.kx u62).kx u67).kx u74)
 refine t_loadN (vs := [.slice ab bs.length cb, .slice ah hs.length ch]) Try.isAgg25 Try.sizeOf25 rfl rfl rfl (B78.at.sub 0 2) rfl (t_move rfl rfl rfl (t_call own18 rfl rfl rfl rfl (rReplayU_c bs ab bb ob cb hs ah bh oh ch us ae be oe ce _ (hbs.keep E76 (fun _ h => h)) (hhs.keep E76 (fun _ h => h)) hbl hhl (hu.keep E76 (fun _ h => h)) hul (by omega)) (fun v79 w80 r82 => ?_)))
 obtain ⟨⟨R, rfl, hRM0, hRR⟩, u81⟩ := r82
 have zu81 := u81.size
 have hRB0 := hRM0.below
 refine t_move rfl rfl rfl (t_extract rfl rfl rfl rfl (t_extract rfl rfl rfl rfl (t_extract rfl rfl rfl rfl (t_alloc (cs := [.slice none 0 0, .slice none 0 0, .slice none 0 0, .slice none 0 0, .slice none 0 0]) Try.zeroValue47 rfl rfl rfl (fun bk84 w85 ebk84 sbk84 B86 u87 => ?_)))))
 have zu87 := u87.size
 refine t_st (vs := [.slice R.ha R.hl.length R.hc, .slice R.sa R.sl.length R.sc, .slice R.la R.ld.length R.lc, .slice R.da R.lo.length R.dc, .slice R.ea R.se.length R.ec]) Try.sizeOf47 rfl rfl rfl B86 rfl rfl rfl rfl (fun w89 sw89 B91 u90 => ?_)
 have zu90 := u90.size
 have E92 := ((E76.nx u81).nx u87).next u90 (fun i hi h => by omega)
 have B91 : Blk w89 bk84 47 [.slice R.ha R.hl.length R.hc, .slice R.sa R.sl.length R.sc, .slice R.la R.ld.length R.lc, .slice R.da R.lo.length R.dc, .slice R.ea R.se.length R.ec] := B91
 refine t_assign rfl rfl rfl (t_assign rfl rfl rfl (t_nil' (hK77 _ _ (c_seq fun K93 hK93 => (c_seq fun K94 hK94 => (c_region (t_move rfl rfl rfl (t_cmp rfl rfl rfl rfl rfl (t_nil' (hK94 _ _ (c_condp rfl (fun g64 => ?_) (fun g64 => ?_))))))))))))
 ·
  obtain ⟨hW3, hW4⟩ := hW1 g64
  obtain ⟨hR3, hR4⟩ := hR1 g64
  have hC3 := hC1 g64
  refine c_same 9 (v := .int .i64 (sEr bs hs us)) rfl (congrArg (Value.int .i64) hW3) (c_same 15 (v := .int .i64 (sEr bs hs us)) rfl (congrArg (Value.int .i64) hR3) (c_same 7 (v := .slice aoW 0 cW) rfl (by rw [hW4]; rfl) (c_same 10 (v := .slice aoC 0 cC) rfl (by rw [hC3]; rfl) (c_same 13 (v := .slice aoR 0 cR) rfl (by rw [hR4]; rfl) (c_seq fun K95 hK95 => (c_region (t_move rfl rfl rfl (t_move rfl rfl rfl (t_cmp rfl rfl rfl rfl rfl (t_samehd (v := .bool true) (by simp) (t_move rfl rfl rfl (t_move rfl rfl rfl (t_move rfl rfl rfl (t_cmp rfl rfl rfl rfl rfl (t_samehd (v := .bool true) (by simp) (t_pick_t rfl rfl rfl rfl (t_move rfl rfl rfl (t_move rfl rfl rfl (t_move rfl rfl rfl (t_cmp rfl rfl rfl rfl rfl (t_samehd (v := .bool true) (by simp) (t_pick_t rfl rfl rfl rfl (t_move rfl rfl rfl ?_)))))))))))))))))))))))
  refine t_move rfl rfl rfl (t_move rfl rfl rfl (t_cmp rfl rfl rfl rfl rfl (t_samehd (v := .bool true) (by simp) (t_pick_t rfl rfl rfl rfl (t_move rfl rfl rfl (t_move rfl rfl rfl (t_move rfl rfl rfl (t_cmp rfl rfl rfl rfl rfl (t_samehd (v := .bool true) (by simp) (t_pick_t rfl rfl rfl rfl (t_move rfl rfl rfl (t_move rfl rfl rfl (t_move rfl rfl rfl (t_cmp rfl rfl rfl rfl rfl (t_samehd (v := .bool true) (by simp) (t_pick_t rfl rfl rfl rfl (t_move rfl rfl rfl (t_move rfl rfl rfl (t_len Try.underlying55 rfl rfl rfl rfl (t_move rfl rfl rfl (t_len Try.underlying58 rfl rfl rfl rfl (t_ari rfl rfl rfl rfl rfl (by omega) (t_samehd (v := .int .i64 0) rfl ?_)))))))))))))))))))))))
  refine t_move rfl rfl rfl (t_len Try.underlying45 rfl rfl rfl rfl (t_ari rfl rfl rfl rfl rfl (by omega) (t_samehd (v := .int .i64 0) rfl (t_cmp rfl rfl rfl rfl rfl (t_samehd (v := .bool true) rfl (t_pick_t rfl rfl rfl rfl (t_move rfl rfl rfl (t_call own11 rfl rfl rfl rfl (known_c _) (fun v96 w97 r99 => ?_)))))))))
  obtain ⟨rfl, u98⟩ := r99
  have zu98 := u98.size
  refine t_pick_t rfl rfl rfl rfl (t_assign rfl rfl rfl (t_nil' (hK95 _ _ (c_ret (f_ret1 (v := .bool true) Try.results4 rfl ?_)))))
  exact ⟨rfl, (E92.nx u98)⟩
 have hz : sEr bs hs us = 0 := Decidable.not_not.1 g64
 obtain ⟨hz2, hC3⟩ := hC2 hz
 obtain ⟨hRs, hRok, hn9⟩ := hRR hz
 obtain ⟨hW3, hW4⟩ := hW2 hz
 obtain ⟨hR3, hR4⟩ := hR2 hz
 rw [hRs] at hC3 hW4 hR4
 have hbn := hRok.bn
 have hCl : rC.length ≤ 30 := by rw [hC3]; simp; omega
 refine c_same 12 (v := .int .i64 0) rfl (congrArg (Value.int .i64) hz) (c_same 8 (v := .int .i64 0) rfl (congrArg (Value.int .i64) hz2) (c_same 11 (v := .int .i64 0) rfl (congrArg (Value.int .i64) hz2) (c_same 14 (v := .int .i64 0) rfl (congrArg (Value.int .i64) hz2) (c_skip (hK93 _ _ (c_seq fun K101 hK101 => (c_region ?_)))))))
 have B102 := (((B78.kx u81).kx u87).keep u90 (by omega))
 refine t_loadN (vs := [.slice ab bs.length cb, .slice ah hs.length ch]) Try.isAgg25 Try.sizeOf25 rfl rfl rfl (B102.at.sub 0 2) rfl (t_loadN (vs := [.slice R.ha R.hl.length R.hc, .slice R.sa R.sl.length R.sc, .slice R.la R.ld.length R.lc, .slice R.da R.lo.length R.dc, .slice R.ea R.se.length R.ec]) Try.isAgg47 Try.sizeOf47 rfl rfl rfl (B91.at.sub 0 5) rfl ?_)
 have D103 := (RM.keepB (RM.ext hRM0 u87) (RB.mono hRB0 (fun k hk => by have hk : k < _ := hk; show ¬ (k = bk84); omega)) u90)
 refine t_call own24 rfl rfl rfl rfl (rControl_c bs ab bb ob cb hs ah bh oh ch (hs.map Hld.cap) R us.length _ (hbs.keep E92 (fun _ h => h)) (hhs.keep E92 (fun _ h => h)) hbl hhl D103 hRok hn9) (fun v104 w105 r107 => ?_)
 obtain ⟨aoD, gD, cD, rD, rfl, hrD, hsD, u106⟩ := r107
 have zu106 := u106.size
 obtain rfl : rC = rD := hC3.trans hrD.symm
 refine t_assign rfl rfl rfl (t_nil' (hK101 _ _ (c_seq fun K109 hK109 => (c_seq fun K110 hK110 => (c_region (t_move rfl rfl rfl (t_cmp rfl rfl rfl rfl rfl (t_samehd (v := .bool false) rfl (t_move rfl rfl rfl (t_move rfl rfl rfl (t_cmp rfl rfl rfl rfl rfl (t_samehd (v := .bool false) rfl (t_pick_f rfl rfl rfl rfl (t_move rfl rfl rfl (t_move rfl rfl rfl (t_cmp rfl rfl rfl rfl rfl (t_samehd (v := .bool false) rfl (t_pick_f rfl rfl rfl rfl (t_move rfl rfl rfl (t_move rfl rfl rfl (t_cmp rfl rfl rfl rfl rfl (t_samehd (v := .bool false) rfl (t_pick_f rfl rfl rfl rfl ?_)))))))))))))))))))))))
 refine t_move rfl rfl rfl (t_move rfl rfl rfl (t_len Try.underlying58 rfl rfl rfl rfl (t_move rfl rfl rfl (t_len Try.underlying58 rfl rfl rfl rfl (t_cmp rfl rfl rfl rfl rfl (t_samehd (v := .bool false) (by simp) (t_pick_f rfl rfl rfl rfl (t_nil' (hK110 _ _ (c_cond_f rfl (c_skip (hK109 _ _ (c_seq fun K111 hK111 => (c_seq fun K112 hK112 => (c_region (t_assign rfl rfl rfl (t_nil' (hK112 _ _ (c_block (c_loop (γ := Nat) (fun k => [(2, .int .i64 bl), (3, .pointer (some ⟨bk2, 0, none⟩)), (7, .slice aoW rW.length cW), (9, .int .i64 eW), (10, .slice aoC rC.length cC), (13, .slice aoR rR.length cR), (15, .int .i64 eR), (16, .pointer (some ⟨bk84, 0, none⟩)), (19, .slice aoD rC.length cD), (20, .int .i64 (k : Int))]) (fun k w => Upd (fun _ => False) w105 w ∧ (k ≤ rC.length)) (fun k => rC.length - k) 0 ⟨rfl, rfl, rfl, rfl, rfl, rfl, rfl, rfl, rfl, rfl, trivial⟩ ⟨Upd.refl _ _, (Nat.zero_le _)⟩ ?_))))))))))))))))))))
 intro k w114 hW K113 hK113
 obtain ⟨u115, I116⟩ := hW
 have zu115 := u115.size
 have hk := I116; clear I116
 refine c_seq fun K118 hK118 => (c_seq fun K119 hK119 => (c_region (t_move rfl rfl rfl (t_move rfl rfl rfl (t_len Try.underlying58 rfl rfl rfl rfl (t_cmp rfl rfl rfl rfl rfl (t_nil' (hK119 _ _ (c_condp rfl (fun g134 => ?_) (fun g134 => ?_))))))))))
 ·
  refine c_skip (hK118 _ _ (c_seq fun K120 hK120 => (c_block (c_seq fun K121 hK121 => (c_drawnQ follows (by kernel_rfl) (p_move rfl rfl rfl (p_move rfl rfl rfl ?_)))))))
  have D126 := ((((((((hsC.keep u62 (fun _ h => h)).keep u67 (fun _ h => h)).keep u74 (fun _ h => h)).keep u81 (fun _ h => h)).keep u87 (fun _ h => h)).keep u90 (fun hp => by have h9 := hsC.lt hp; show ¬ (gC = bk84); omega)).keep u106 (fun _ h => h)).keep u115 (fun _ h => h))
  have i127 : k < rC.length := (by omega)
  refine p_index (j := k) Try.underlying58 Try.sizeOf65 rfl rfl rfl rfl (D126.addr (by omega)) rfl i127 (p_loadN (vs := [.int .i64 ((nth rC k).loaded), .int .i64 ((nth rC k).aboard), .int .i64 ((nth rC k).landed), .int .i64 ((nth rC k).astray)]) Try.isAgg65 Try.sizeOf65 rfl rfl rfl ((D126.at_ k (by omega)).sub 0 4) rfl (p_move rfl rfl rfl (p_move rfl rfl rfl ?_)))
  have D128 := (hsD.keep u115 (fun _ h => h))
  have i129 : k < rC.length := (by omega)
  refine p_index (j := k) Try.underlying58 Try.sizeOf65 rfl rfl rfl rfl (D128.addr (by omega)) rfl i129 (p_loadN (vs := [.int .i64 ((nth rC k).loaded), .int .i64 ((nth rC k).aboard), .int .i64 ((nth rC k).landed), .int .i64 ((nth rC k).astray)]) Try.isAgg65 Try.sizeOf65 rfl rfl rfl ((D128.at_ k (by omega)).sub 0 4) rfl (p_neS (xs := [.int .i64 ((nth rC k).loaded), .int .i64 ((nth rC k).aboard), .int .i64 ((nth rC k).landed), .int .i64 ((nth rC k).astray)]) (ys := [.int .i64 ((nth rC k).loaded), .int .i64 ((nth rC k).aboard), .int .i64 ((nth rC k).landed), .int .i64 ((nth rC k).astray)]) (by kernel_rfl) (eqIn65 9998 ((nth rC k).loaded) ((nth rC k).aboard) ((nth rC k).landed) ((nth rC k).astray) ((nth rC k).loaded) ((nth rC k).aboard) ((nth rC k).landed) ((nth rC k).astray)) rfl rfl rfl rfl (p_samehd (v := .bool false) (by simp) (p_nil fun w130 u131 => ?_))))
  have zu131 := u131.size
  refine t_nil' (hK121 _ _ (c_cond_f rfl (c_skip (hK120 _ _ (c_region (t_move rfl rfl rfl (t_ari rfl rfl rfl rfl rfl (by omega) (t_assign rfl rfl rfl (t_nil' ?_)))))))))
  exact hK113 (k + 1) _ _ (by omega) ⟨rfl, rfl, rfl, rfl, rfl, rfl, rfl, rfl, rfl, rfl, trivial⟩ ⟨(u115.next u131 (fun _ _ h => h.elim)), (by omega)⟩
 refine c_exit (hK111 _ _ (c_seq fun K133 hK133 => (c_cut (γ := Bool) (fun q154 => [(2, .int .i64 bl), (3, .pointer (some ⟨bk2, 0, none⟩)), (7, .slice aoW rW.length cW), (9, .int .i64 eW), (13, .slice aoR rR.length cR), (15, .int .i64 eR), (16, .pointer (some ⟨bk84, 0, none⟩)), (154, .bool q154)]) (fun q154 w => Upd (fun _ => False) w114 w ∧ (q154 = true ↔ ¬ (0 ≤ bl ∧ bl ≤ (bs.length : Int) - 1))) (fun K135 hK135 => ?_) ?_)))
 ·
  refine c_region (t_move rfl rfl rfl (t_cmp rfl rfl rfl rfl rfl (t_move rfl rfl rfl (t_splitp 148 rfl (fun g148 => ?_) (fun g148 => ?_)))))
  ·
   refine t_skip rfl rfl rfl (t_skip rfl rfl rfl (t_skip rfl rfl rfl (t_skip rfl rfl rfl (t_skip rfl rfl rfl (t_pick_t rfl rfl rfl rfl (t_nil' ?_))))))
   exact hK135 true _ _ ⟨rfl, rfl, rfl, rfl, rfl, rfl, rfl, rfl, trivial⟩ ⟨(Upd.refl _ _), ⟨fun _ => by omega, fun _ => rfl⟩⟩
  refine t_move rfl rfl rfl (t_field Try.underlying25 rfl Try.sizeOf22 (0) rfl rfl rfl rfl ?_)
  have B138 := ((B102.kx u106).kx u115)
  refine t_load Try.isAgg22 rfl rfl rfl (B138.get rfl) (t_len Try.underlying22 rfl rfl rfl rfl (t_cmp rfl rfl rfl rfl rfl (t_pick_f rfl rfl rfl rfl (t_nil' ?_))))
  exact hK135 (decide ((bs.length : Int) ≤ bl)) _ _ ⟨rfl, rfl, rfl, rfl, rfl, rfl, rfl, rfl, trivial⟩ ⟨(Upd.refl _ _), ⟨fun h => by have h9 := of_decide_eq_true h; omega, fun h => decide_eq_true (by omega)⟩⟩
 intro q154 w136 hW
 obtain ⟨u137, I139⟩ := hW
 have zu137 := u137.size
 have E140 := ((E92.nx u106).nx u115).nx u137
 have hq154 := I139; clear I139
 refine c_cond rfl (fun g154 => ?_) (fun g154 => ?_)
 ·
  have hb := hq154.1 g154
  obtain ⟨hW5, hW6⟩ := hW3 hb
  obtain ⟨hR5, hR6⟩ := hR3 hb
  refine c_same 9 (v := .int .i64 7) rfl (congrArg (Value.int .i64) hW5) (c_same 15 (v := .int .i64 7) rfl (congrArg (Value.int .i64) hR5) (c_same 7 (v := .slice aoW 0 cW) rfl (by rw [hW6]; rfl) (c_same 13 (v := .slice aoR 0 cR) rfl (by rw [hR6]; rfl) (c_seq fun K141 hK141 => (c_region (t_move rfl rfl rfl (t_cmp rfl rfl rfl rfl rfl (t_samehd (v := .bool true) rfl (t_move rfl rfl rfl (t_move rfl rfl rfl (t_move rfl rfl rfl (t_cmp rfl rfl rfl rfl rfl (t_samehd (v := .bool true) rfl (t_pick_t rfl rfl rfl rfl (t_move rfl rfl rfl (t_move rfl rfl rfl (t_len Try.underlying55 rfl rfl rfl rfl (t_move rfl rfl rfl (t_len Try.underlying45 rfl rfl rfl rfl (t_ari rfl rfl rfl rfl rfl (by omega) (t_samehd (v := .int .i64 0) rfl (t_cmp rfl rfl rfl rfl rfl (t_samehd (v := .bool true) rfl ?_)))))))))))))))))))))))
  refine t_pick_t rfl rfl rfl rfl (t_move rfl rfl rfl (t_call own11 rfl rfl rfl rfl (known_c _) (fun v142 w143 r145 => ?_)))
  obtain ⟨rfl, u144⟩ := r145
  have zu144 := u144.size
  refine t_pick_t rfl rfl rfl rfl (t_assign rfl rfl rfl (t_nil' (hK141 _ _ (c_ret (f_ret1 (v := .bool true) Try.results4 rfl ?_)))))
  exact ⟨rfl, (E140.nx u144)⟩
 have hb : 0 ≤ bl ∧ bl ≤ (bs.length : Int) - 1 := Decidable.not_not.1 (fun h => by rw [hq154.2 h] at g154; cases g154)
 obtain ⟨hW5, hW6⟩ := hW4 hb
 obtain ⟨hR5, hR6⟩ := hR4 hb
 have hrl : rR.length ≤ 1000000 := by rw [hR6]; exact rec_len hRok hn9
 have hwl : rW.length ≤ 1000000 := by rw [hW6]; exact wh_len hRok
 refine c_same 9 (v := .int .i64 0) rfl (congrArg (Value.int .i64) hW5) (c_same 15 (v := .int .i64 0) rfl (congrArg (Value.int .i64) hR5) (c_skip (hK133 _ _ (c_seq fun K147 hK147 => (c_region ?_)))))
 have B148 := (((B102.kx u106).kx u115).kx u137)
 refine t_loadN (vs := [.slice ab bs.length cb, .slice ah hs.length ch]) Try.isAgg25 Try.sizeOf25 rfl rfl rfl (B148.at.sub 0 2) rfl ?_
 have B149 := (((B91.kx u106).kx u115).kx u137)
 refine t_loadN (vs := [.slice R.ha R.hl.length R.hc, .slice R.sa R.sl.length R.sc, .slice R.la R.ld.length R.lc, .slice R.da R.lo.length R.dc, .slice R.ea R.se.length R.ec]) Try.isAgg47 Try.sizeOf47 rfl rfl rfl (B149.at.sub 0 5) rfl (t_move rfl rfl rfl ?_)
 have D150 := (RM.ext (RM.ext (RM.ext D103 u106) u115) u137)
 refine t_call own25 rfl rfl rfl rfl (rWhere_c bs ab bb ob cb hs ah bh oh ch (hs.map Hld.cap) R us.length bl _ (hbs.keep E140 (fun _ h => h)) (hhs.keep E140 (fun _ h => h)) hbl hhl D150 hRok hn9 (by omega)) (fun v151 w152 r154 => ?_)
 obtain ⟨aoV, gV, cV, rV, rfl, hrV, hsV, u153⟩ := r154
 have zu153 := u153.size
 obtain rfl : rW = rV := hW6.trans hrV.symm
 refine t_assign rfl rfl rfl (t_nil' (hK147 _ _ (c_seq fun K156 hK156 => (c_seq fun K157 hK157 => (c_region (t_move rfl rfl rfl (t_cmp rfl rfl rfl rfl rfl (t_samehd (v := .bool false) rfl (t_move rfl rfl rfl (t_move rfl rfl rfl (t_cmp rfl rfl rfl rfl rfl (t_samehd (v := .bool false) rfl (t_pick_f rfl rfl rfl rfl (t_move rfl rfl rfl (t_move rfl rfl rfl (t_len Try.underlying55 rfl rfl rfl rfl (t_move rfl rfl rfl (t_len Try.underlying55 rfl rfl rfl rfl (t_cmp rfl rfl rfl rfl rfl (t_samehd (v := .bool false) (by simp) (t_pick_f rfl rfl rfl rfl (t_move rfl rfl rfl (t_move rfl rfl rfl ?_)))))))))))))))))))))))
 have B158 := (B149.kx u153)
 refine t_loadN (vs := [.slice R.ha R.hl.length R.hc, .slice R.sa R.sl.length R.sc, .slice R.la R.ld.length R.lc, .slice R.da R.lo.length R.dc, .slice R.ea R.se.length R.ec]) Try.isAgg47 Try.sizeOf47 rfl rfl rfl (B158.at.sub 0 5) rfl (t_move rfl rfl rfl ?_)
 have D159 := (RM.ext D150 u153)
 refine t_call own27 rfl rfl rfl rfl (rRecall_c bs (hs.map Hld.cap) R us.length bl _ D159 hRok hn9) (fun v160 w161 r163 => ?_)
 obtain ⟨aoQ, gQ, cQ, rQ, rfl, hrQ, hsQ, u162⟩ := r163
 have zu162 := u162.size
 obtain rfl : rR = rQ := hR6.trans hrQ.symm
 have D165 := ((((((((hsR.keep u81 (fun _ h => h)).keep u87 (fun _ h => h)).keep u90 (fun hp => by have h9 := hsR.lt hp; show ¬ (gR = bk84); omega)).keep u106 (fun _ h => h)).keep u115 (fun _ h => h)).keep u137 (fun _ h => h)).keep u153 (fun _ h => h)).keep u162 (fun _ h => h))
 refine t_call own26 rfl rfl rfl rfl (numbers_c rR rR aoR aoQ gR gQ 0 0 cR cQ _ D165 hsQ hrl) (fun v166 w167 r169 => ?_)
 obtain ⟨rfl, u168⟩ := r169
 have zu168 := u168.size
 refine t_notp rfl rfl rfl (t_pick_f rfl rfl rfl rfl (t_nil' (hK157 _ _ (c_condp rfl (fun g197 => ?_) (fun g197 => ?_)))))
 ·
  exact absurd rfl g197
 refine c_skip (hK156 _ _ (c_seq fun K171 hK171 => (c_seq fun K172 hK172 => (c_region (t_assign rfl rfl rfl (t_nil' (hK172 _ _ (c_block (c_loop (γ := Nat) (fun k2 => [(7, .slice aoW rW.length cW), (21, .slice aoV rW.length cV), (22, .int .i64 (k2 : Int))]) (fun k2 w => Upd (fun _ => False) w167 w ∧ (k2 ≤ rW.length)) (fun k2 => rW.length - k2) 0 ⟨rfl, rfl, rfl, trivial⟩ ⟨Upd.refl _ _, (Nat.zero_le _)⟩ ?_)))))))))
 intro k2 w174 hW K173 hK173
 obtain ⟨u175, I176⟩ := hW
 have zu175 := u175.size
 have hk2 := I176; clear I176
 refine c_seq fun K178 hK178 => (c_seq fun K179 hK179 => (c_region (t_move rfl rfl rfl (t_move rfl rfl rfl (t_len Try.underlying55 rfl rfl rfl rfl (t_cmp rfl rfl rfl rfl rfl (t_nil' (hK179 _ _ (c_condp rfl (fun g201 => ?_) (fun g201 => ?_))))))))))
 ·
  refine c_skip (hK178 _ _ (c_seq fun K180 hK180 => (c_block (c_seq fun K181 hK181 => (c_drawnQ follows (by kernel_rfl) (p_move rfl rfl rfl (p_move rfl rfl rfl ?_)))))))
  have D186 := ((((((((((((((((hsW.keep u43 (fun _ h => h)).keep u48 (fun _ h => h)).keep u55 (fun _ h => h)).keep u62 (fun _ h => h)).keep u67 (fun _ h => h)).keep u74 (fun _ h => h)).keep u81 (fun _ h => h)).keep u87 (fun _ h => h)).keep u90 (fun hp => by have h9 := hsW.lt hp; show ¬ (gW = bk84); omega)).keep u106 (fun _ h => h)).keep u115 (fun _ h => h)).keep u137 (fun _ h => h)).keep u153 (fun _ h => h)).keep u162 (fun _ h => h)).keep u168 (fun _ h => h)).keep u175 (fun _ h => h))
  have i187 : k2 < rW.length := (by omega)
  refine p_index (j := k2) Try.underlying55 Try.sizeOf71 rfl rfl rfl rfl (D186.addr (by omega)) rfl i187 (p_loadN (vs := [.int .i64 ((nth rW k2).wh), .int .i64 ((nth rW k2).num), .int .i64 ((nth rW k2).tons)]) Try.isAgg71 Try.sizeOf71 rfl rfl rfl ((D186.at_ k2 (by omega)).sub 0 3) rfl (p_move rfl rfl rfl (p_move rfl rfl rfl ?_)))
  have D188 := (((hsV.keep u162 (fun _ h => h)).keep u168 (fun _ h => h)).keep u175 (fun _ h => h))
  have i189 : k2 < rW.length := (by omega)
  refine p_index (j := k2) Try.underlying55 Try.sizeOf71 rfl rfl rfl rfl (D188.addr (by omega)) rfl i189 (p_loadN (vs := [.int .i64 ((nth rW k2).wh), .int .i64 ((nth rW k2).num), .int .i64 ((nth rW k2).tons)]) Try.isAgg71 Try.sizeOf71 rfl rfl rfl ((D188.at_ k2 (by omega)).sub 0 3) rfl (p_neS (xs := [.int .i64 ((nth rW k2).wh), .int .i64 ((nth rW k2).num), .int .i64 ((nth rW k2).tons)]) (ys := [.int .i64 ((nth rW k2).wh), .int .i64 ((nth rW k2).num), .int .i64 ((nth rW k2).tons)]) (by kernel_rfl) (eqIn71 9998 ((nth rW k2).wh) ((nth rW k2).num) ((nth rW k2).tons) ((nth rW k2).wh) ((nth rW k2).num) ((nth rW k2).tons)) rfl rfl rfl rfl (p_samehd (v := .bool false) (by simp) (p_nil fun w190 u191 => ?_))))
  have zu191 := u191.size
  refine t_nil' (hK181 _ _ (c_cond_f rfl (c_skip (hK180 _ _ (c_region (t_move rfl rfl rfl (t_ari rfl rfl rfl rfl rfl (by omega) (t_assign rfl rfl rfl (t_nil' ?_)))))))))
  exact hK173 (k2 + 1) _ _ (by omega) ⟨rfl, rfl, rfl, trivial⟩ ⟨(u175.next u191 (fun _ _ h => h.elim)), (by omega)⟩
 refine c_exit (hK171 _ _ (c_seq fun K193 hK193 => (c_region (t_call own11 rfl rfl rfl rfl (known_c _) (fun v194 w195 r197 => ?_)))))
 obtain ⟨rfl, u196⟩ := r197
 have zu196 := u196.size
 refine t_assign rfl rfl rfl (t_nil' (hK193 _ _ (c_ret (f_ret1 (v := .bool true) Try.results4 rfl ?_))))
 exact ⟨rfl, (((((E140.nx u153).nx u162).nx u168).nx u175).nx u196)⟩

end Go.Proofs.Ytgkkgpenmppjcaa
