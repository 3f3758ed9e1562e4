/-
  The law TraceReplays: the walk. Conditions: none.
-/
import Derived.Test.YtgkkgpenmppjcaaQB10
namespace Go.Proofs.Ytgkkgpenmppjcaa
open Go Go.RowKit

def sAt (bs : List Bil) (hs : List Hld) (us : List Ev) : Int := (sailP bs hs us).2.1
def sEr (bs : List Bil) (hs : List Hld) (us : List Ev) : Int := (sailP bs hs us).2.2
/-- Rows that show the same as the reference's are few and short. -/
theorem rows_few {bs : List Bil} {caps : List Int} {n : Nat} {R : RG} (h : StOk bs caps n R.st) (hn : n ≤ 100) {rows : List RowL} (e : rows.map rowV = R.hl.map rowV) : rows.length ≤ 1000000 ∧ ∀ r ∈ rows, r.xs.length ≤ 1000000 ∧ ∀ x ∈ r.xs, x.v.path.length ≤ 1000000 := by
  have h1 : R.hl.length = caps.length := by have q := h.hn; rwa [show R.st.hold.length = R.hl.length from List.length_map _] at q
  have h2 : rows.length = R.hl.length := by have q := congrArg List.length e; simpa using q
  have h3 := h.h20
  refine ⟨by omega, fun r hr => ?_⟩
  have hm : rowV r ∈ R.hl.map rowV := by rw [← e]; exact List.mem_map.2 ⟨r, hr, rfl⟩
  obtain ⟨q, hq, e2⟩ := List.mem_map.1 hm
  obtain ⟨i, hi, rfl⟩ := List.mem_iff_getElem.1 hq
  have h4 := row_few h hi
  have hl : (R.hl[i]'hi).xs.length = r.xs.length := by have q := congrArg List.length e2; simpa [rowV] using q
  rw [nth_eq hi] at h4
  refine ⟨by omega, fun x hx => ?_⟩
  have hx2 : x.v ∈ rowV (R.hl[i]'hi) := by rw [e2]; exact List.mem_map.2 ⟨x, hx, rfl⟩
  have h5 := h.tons _ (List.mem_map.2 ⟨_, hq, rfl⟩) x.v hx2
  have := h5.2.2
  omega
theorem parts_few {bs : List Bil} {caps : List Int} {n : Nat} {R : RG} (h : StOk bs caps n R.st) (hn : n ≤ 100) {k : Nat} (hk : k < R.ld.length) {xs : List HLay} (e : xs.map HLay.v = (nth R.ld k).xs.map HLay.v) : xs.length ≤ 1000000 ∧ ∀ x ∈ xs, x.v.path.length ≤ 1000000 := by
  have h1 := h.ldt ⟨(nth R.ld k).ev, (nth R.ld k).port, (nth R.ld k).xs.map HLay.v⟩ (List.mem_map.2 ⟨nth R.ld k, nth_mem hk, rfl⟩)
  have h2 : ∀ y ∈ xs.map HLay.v, LayOk n y := fun y hy => h1.1 y (by rw [e] at hy; exact hy)
  have h3 := sumT_len (l := xs.map HLay.v) (fun y hy => (h2 y hy).1)
  have h4 : sumT (xs.map HLay.v) ≤ 1000000 := by rw [e]; exact h1.2.1
  rw [List.length_map] at h3
  exact ⟨by omega, fun x hx => by have := (h2 x.v (List.mem_map.2 ⟨x, hx, rfl⟩)).2.2; omega⟩
theorem ReplayU_c (bs : List Bil) (ab : Option Addr) (bb ob cb : Nat) (hs : List Hld) (ah : Option Addr) (bh oh ch : Nat) (us : List Ev) (ae : Option Addr) (be oe ce : Nat) (w0 : World) (hbs : Sl encBil 3 w0 ab bb ob bs) (hhs : Sl encHld 2 w0 ah bh oh hs) (hbl : bs.length ≤ 1000000) (hhl : hs.length ≤ 1000000) (hu : Sl encEv 8 w0 ae be oe us) (hul : us.length ≤ 1000000) (hpos : 0 < w0.heap.size) : CallsV Try.prog 15 [.agg #[.slice ab bs.length cb, .slice ah hs.length ch], .slice ae us.length ce] w0 (fun v w' => (∃ ao g cp rows, v = .tuple #[.slice ao (List.length rows) cp, .int .i64 (sAt bs hs us), .int .i64 (sEr bs hs us)] ∧ Sl encRowL 1 w' ao g 0 rows ∧ (∀ r ∈ rows, LaysR w' r.ao r.g r.xs) ∧ (sEr bs hs us ≠ 0 → rows = []) ∧ (sEr bs hs us = 0 → sAt bs hs us = 0 ∧ rows.map rowV = (sailP bs hs us).1.hold)) ∧ Ext w0 w') := by
  refine (Replay_c bs ab bb ob cb hs ah bh oh ch us ae be oe ce w0 hbs hhs hbl hhl hu hul hpos).mono ?_
  rintro v w' ⟨h, u⟩
  refine ⟨?_, u⟩
  unfold sAt sEr
  rcases h with ⟨a, e, rfl, he, h⟩ | ⟨ao, g, cp, rows, rfl, h, h1, h2, h3⟩
  · rw [h]
    exact ⟨none, 0, 0, [], rfl, Sl.nil _ _ _ _ _ _, (fun r hr => by cases hr), fun _ => rfl, fun h0 => absurd h0 he⟩
  · rw [h]
    exact ⟨ao, g, cp, rows, rfl, h1, h2, fun h0 => absurd rfl h0, fun _ => ⟨rfl, h3⟩⟩
theorem LandedU_c (bs : List Bil) (ab : Option Addr) (bb ob cb : Nat) (hs : List Hld) (ah : Option Addr) (bh oh ch : Nat) (us : List Ev) (ae : Option Addr) (be oe ce : Nat) (ev : Int) (w0 : World) (hbs : Sl encBil 3 w0 ab bb ob bs) (hhs : Sl encHld 2 w0 ah bh oh hs) (hbl : bs.length ≤ 1000000) (hhl : hs.length ≤ 1000000) (hu : Sl encEv 8 w0 ae be oe us) (hul : us.length ≤ 1000000) (hpos : 0 < w0.heap.size) : CallsV Try.prog 16 [.agg #[.slice ab bs.length cb, .slice ah hs.length ch], .slice ae us.length ce, .int .i64 ev] w0 (fun v w' => (∃ ao g cp xs e, v = .tuple #[.slice ao (List.length xs) cp, .int .i64 (sAt bs hs us), .int .i64 e] ∧ LaysR w' ao g xs ∧ (sEr bs hs us ≠ 0 → e = sEr bs hs us ∧ xs = []) ∧ (sEr bs hs us = 0 → (findL (sailP bs hs us).1.landed ev = none ∧ e = 7 ∧ xs = []) ∨ (findL (sailP bs hs us).1.landed ev = some (xs.map HLay.v) ∧ e = 0))) ∧ Ext w0 w') := by
  refine (Landed_c bs ab bb ob cb hs ah bh oh ch us ae be oe ce ev w0 hbs hhs hbl hhl hu hul hpos).mono ?_
  rintro v w' ⟨h, u⟩
  refine ⟨?_, u⟩
  unfold sAt sEr
  have hnil : ∀ g, LaysR w' none g [] := fun g => ⟨Sl.nil _ _ _ _ _ _, (fun x hx => by cases hx)⟩
  rcases h with ⟨a, e, rfl, he, h⟩ | ⟨h, h1, rfl⟩ | ⟨h, ao, g, cp, xs, rfl, h1, h2⟩
  · rw [h]
    exact ⟨none, 0, 0, [], e, rfl, hnil 0, fun _ => ⟨rfl, rfl⟩, fun h0 => absurd h0 he⟩
  · rw [h]
    exact ⟨none, 0, 0, [], 7, rfl, hnil 0, fun h0 => absurd rfl h0, fun _ => .inl ⟨h1, rfl, rfl⟩⟩
  · rw [h]
    exact ⟨ao, g, cp, xs, 0, rfl, h2, fun h0 => absurd rfl h0, fun _ => .inr ⟨h1, rfl⟩⟩
theorem rReplayU_c (bs : List Bil) (ab : Option Addr) (bb ob cb : Nat) (hs : List Hld) (ah : Option Addr) (bh oh ch : Nat) (us : List Ev) (ae : Option Addr) (be oe ce : Nat) (w0 : World) (hbs : Sl encBil 3 w0 ab bb ob bs) (hhs : Sl encHld 2 w0 ah bh oh hs) (hbl : bs.length ≤ 1000000) (hhl : hs.length ≤ 1000000) (hu : Sl encEv 8 w0 ae be oe us) (hul : us.length ≤ 1000000) (hpos : 0 < w0.heap.size) : CallsV Try.prog 18 [.agg #[.slice ab bs.length cb, .slice ah hs.length ch], .slice ae us.length ce] w0 (fun v w' => (∃ R : RG, v = .tuple #[.agg #[.slice R.ha R.hl.length R.hc, .slice R.sa R.sl.length R.sc, .slice R.la R.ld.length R.lc, .slice R.da R.lo.length R.dc, .slice R.ea R.se.length R.ec], .int .i64 (sAt bs hs us), .int .i64 (sEr bs hs us)] ∧ RM w' R ∧ (sEr bs hs us = 0 → (sailP bs hs us).1 = R.st ∧ StOk bs (hs.map Hld.cap) us.length R.st ∧ us.length ≤ 100)) ∧ Ext w0 w') := by
  refine (rReplay_c bs ab bb ob cb hs ah bh oh ch us ae be oe ce w0 hbs hhs hbl hhl hu hul hpos).mono ?_
  rintro v w' ⟨h, u⟩
  refine ⟨?_, u⟩
  unfold sAt sEr
  rcases h with ⟨a, e, rfl, he, h⟩ | ⟨R, rfl, h, h1, h2, h3⟩
  · rw [h]
    exact ⟨⟨none, 0, 0, [], none, 0, 0, [], none, 0, 0, [], none, 0, 0, [], none, 0, 0, []⟩, rfl, ⟨Sl.nil _ _ _ _ _ _, (fun r hr => by cases hr), Sl.nil _ _ _ _ _ _, Sl.nil _ _ _ _ _ _, (fun r hr => by cases hr), Sl.nil _ _ _ _ _ _, Sl.nil _ _ _ _ _ _⟩, fun h0 => absurd h0 he⟩
  · rw [h]
    exact ⟨R, rfl, h1, fun _ => ⟨rfl, h2, h3⟩⟩
set_option maxHeartbeats 2000000 in
theorem TraceReplays_c (bs : List Bil) (ab : Option Addr) (bb ob cb : Nat) (hs : List Hld) (ah : Option Addr) (bh oh ch : Nat) (us : List Ev) (ae : Option Addr) (be oe ce : Nat) (event : Int) (w0 : World) (hbs : Sl encBil 3 w0 ab bb ob bs) (hhs : Sl encHld 2 w0 ah bh oh hs) (hu : Sl encEv 8 w0 ae be oe us) :
    CallsV Try.prog 3 [.agg #[.slice ab bs.length cb, .slice ah hs.length ch], .slice ae us.length ce, .int .i64 event] w0 (fun v w' => v = .bool true ∧ Ext w0 w') := by
 refine f_enter (N := 169) Try.func3 rfl rfl rfl ?_
 change WC _ _ _ _ _ _ [(0, .agg #[.slice ab bs.length cb, .slice ah hs.length ch]), (1, .slice ae us.length ce), (2, .int .i64 event)] _
 refine c_seq fun K1 hK1 => (c_region (t_box (cs := [.slice ab bs.length cb, .slice ah hs.length ch]) rfl rfl rfl rfl (fun bk2 w3 ebk2 sbk2 B4 u5 => ?_)))
 have zu5 := u5.size
 refine t_assign rfl rfl rfl (t_nil' (hK1 _ _ (c_seq fun K7 hK7 => (c_seq fun K8 hK8 => (c_region (t_loadN (vs := [.slice ab bs.length cb, .slice ah hs.length ch]) Try.isAgg25 Try.sizeOf25 rfl rfl rfl (B4.at.sub 0 2) rfl (t_move rfl rfl rfl (t_call own10 rfl rfl rfl rfl (great_c bs ab bb ob cb hs ah bh oh ch us ae be oe ce _) (fun v9 w10 r12 => ?_)))))))))
 obtain ⟨rfl, u11⟩ := r12
 have zu11 := u11.size
 have E13 := ((Upd.refl (fun _ => False) w0).nx u5).nx u11
 refine t_nil' (hK8 _ _ (c_condp rfl (fun g23 => ?_) (fun g23 => ?_)))
 ·
  refine c_seq fun K14 hK14 => (c_region (t_call own11 rfl rfl rfl rfl (known_c _) (fun v15 w16 r18 => ?_)))
  obtain ⟨rfl, u17⟩ := r18
  have zu17 := u17.size
  refine t_assign rfl rfl rfl (t_nil' (hK14 _ _ (c_ret (f_ret1 (v := .bool true) Try.results3 rfl ?_))))
  exact ⟨rfl, (E13.nx u17)⟩
 have B20 := (B4.kx u11)
 have hbl : bs.length ≤ 1000000 := by omega
 have hhl : hs.length ≤ 1000000 := by omega
 have hul : us.length ≤ 1000000 := by omega
 have hlt3 := (B20).lt
 refine c_skip (hK7 _ _ (c_seq fun K21 hK21 => (c_region (t_loadN (vs := [.slice ab bs.length cb, .slice ah hs.length ch]) Try.isAgg25 Try.sizeOf25 rfl rfl rfl (B20.at.sub 0 2) rfl (t_call own12 rfl rfl rfl rfl (own_c bs ab bb ob cb hs ah bh oh ch _ (hbs.keep E13 (fun _ h => h)) (hhs.keep E13 (fun _ h => h)) hbl hhl) (fun v22 w23 r25 => ?_))))))
 obtain ⟨aoB, gB, cB, aoH, gH, cH, rfl, hkB, hkH, _, _, u24⟩ := r25
 have zu24 := u24.size
 have E26 := E13.nx u24
 refine t_move rfl rfl rfl (t_call own13 rfl rfl rfl rfl (events_c us ae be oe ce _ (hu.keep E26 (fun _ h => h)) hul) (fun v27 w28 r30 => ?_))
 obtain ⟨aoE, gE, cE, rfl, hkE, _, u29⟩ := r30
 have zu29 := u29.size
 refine t_alloc (cs := [.slice none 0 0, .slice none 0 0]) Try.zeroValue25 rfl rfl rfl (fun bk32 w33 ebk32 sbk32 B34 u35 => ?_)
 have zu35 := u35.size
 refine t_store (vs := [.slice aoB bs.length cB, .slice aoH hs.length cH]) Try.sizeOf25 rfl rfl rfl B34 rfl rfl (Nat.le_of_ble_eq_true rfl) (by simp [Value.oneCell']) (fun w37 sw37 B39 u38 => ?_)
 have zu38 := u38.size
 have B39 : Blk w37 bk32 25 [.slice aoB bs.length cB, .slice aoH hs.length cH] := B39
 refine t_assign rfl rfl rfl (t_nil' (hK21 _ _ (c_seq fun K41 hK41 => (c_region (t_loadN (vs := [.slice aoB bs.length cB, .slice aoH hs.length cH]) Try.isAgg25 Try.sizeOf25 rfl rfl rfl (B39.at.sub 0 2) rfl ?_)))))
 have D42 := (((hkB.keep u29 (fun _ h => h)).keep u35 (fun _ h => h)).keep u38 (fun hp => by have h9 := hkB.lt hp; show ¬ (gB = bk32); omega))
 have D43 := (((hkH.keep u29 (fun _ h => h)).keep u35 (fun _ h => h)).keep u38 (fun hp => by have h9 := hkH.lt hp; show ¬ (gH = bk32); omega))
 refine t_call own14 rfl rfl rfl rfl (Check_c bs aoB gB 0 cB hs aoH gH 0 cH _ D42 D43 hbl hhl) (fun v44 w45 r47 => ?_)
 obtain ⟨rfl, u46⟩ := r47
 have zu46 := u46.size
 refine t_assign rfl rfl rfl (t_nil' (hK41 _ _ (c_seq fun K49 hK49 => (c_region ?_))))
 have B50 := (B39.kx u46)
 refine t_loadN (vs := [.slice aoB bs.length cB, .slice aoH hs.length cH]) Try.isAgg25 Try.sizeOf25 rfl rfl rfl (B50.at.sub 0 2) rfl (t_move rfl rfl rfl ?_)
 have D51 := (D42.keep u46 (fun _ h => h))
 have D52 := (D43.keep u46 (fun _ h => h))
 have D53 := (((hkE.keep u35 (fun _ h => h)).keep u38 (fun hp => by have h9 := hkE.lt hp; show ¬ (gE = bk32); omega)).keep u46 (fun _ h => h))
 refine t_call own15 rfl rfl rfl rfl (ReplayU_c bs aoB gB 0 cB hs aoH gH 0 cH us aoE gE 0 cE _ D51 D52 hbl hhl D53 hul (by omega)) (fun v54 w55 r57 => ?_)
 obtain ⟨⟨aoP, gP, cP, rows, rfl, hro, hrl, hr1, hr2⟩, u56⟩ := r57
 have zu56 := u56.size
 refine t_move rfl rfl rfl (t_extract rfl rfl rfl rfl (t_extract rfl rfl rfl rfl (t_extract rfl rfl rfl rfl (t_assign rfl rfl rfl (t_assign rfl rfl rfl (t_assign rfl rfl rfl (t_nil' (hK49 _ _ (c_seq fun K59 hK59 => (c_region ?_))))))))))
 have B60 := (B50.kx u56)
 refine t_loadN (vs := [.slice aoB bs.length cB, .slice aoH hs.length cH]) Try.isAgg25 Try.sizeOf25 rfl rfl rfl (B60.at.sub 0 2) rfl (t_move rfl rfl rfl (t_move rfl rfl rfl ?_))
 have D61 := (D51.keep u56 (fun _ h => h))
 have D62 := (D52.keep u56 (fun _ h => h))
 have D63 := (D53.keep u56 (fun _ h => h))
 refine t_call own16 rfl rfl rfl rfl (LandedU_c bs aoB gB 0 cB hs aoH gH 0 cH us aoE gE 0 cE event _ D61 D62 hbl hhl D63 hul (by omega)) (fun v64 w65 r67 => ?_)
 obtain ⟨⟨aoL, gL, cL, xsL, eL, rfl, hpl, hL1, hL2⟩, u66⟩ := r67
 have zu66 := u66.size
 refine t_move rfl rfl rfl (t_extract rfl rfl rfl rfl (t_extract rfl rfl rfl rfl (t_extract rfl rfl rfl rfl (t_assign rfl rfl rfl (t_assign rfl rfl rfl (t_assign rfl rfl rfl (t_nil' (hK59 _ _ (c_seq fun K69 hK69 => (c_seq fun K70 hK70 => (c_region (t_assign rfl rfl rfl (t_nil' (hK70 _ _ (c_block (c_loop (γ := Nat) (fun k => [(1, .slice ae us.length ce), (2, .int .i64 event), (3, .pointer (some ⟨bk2, 0, none⟩)), (8, .slice aoE us.length cE), (9, .int .i64 (chkM bs hs)), (10, .slice aoP rows.length cP), (11, .int .i64 (sAt bs hs us)), (12, .int .i64 (sEr bs hs us)), (13, .slice aoL xsL.length cL), (14, .int .i64 (sAt bs hs us)), (15, .int .i64 eL), (16, .int .i64 (k : Int))]) (fun k w => Upd (fun _ => False) w65 w ∧ (k ≤ us.length)) (fun k => us.length - k) 0 ⟨rfl, rfl, rfl, rfl, rfl, rfl, rfl, rfl, rfl, rfl, rfl, rfl, trivial⟩ ⟨Upd.refl _ _, (Nat.zero_le _)⟩ ?_))))))))))))))))
 intro k w72 hW K71 hK71
 obtain ⟨u73, I74⟩ := hW
 have zu73 := u73.size
 have E75 := ((((((E26.nx u29).nx u35).next u38 (fun i hi (h : i = bk32) => show False by first | omega | assumption)).nx u46).nx u56).nx u66).nx u73
 have hk0 := I74; clear I74
 refine c_seq fun K76 hK76 => (c_seq fun K77 hK77 => (c_region (t_move rfl rfl rfl (t_move rfl rfl rfl (t_len Try.underlying26 rfl rfl rfl rfl (t_cmp rfl rfl rfl rfl rfl (t_nil' (hK77 _ _ (c_condp rfl (fun g49 => ?_) (fun g49 => ?_))))))))))
 ·
  refine c_skip (hK76 _ _ (c_seq fun K78 hK78 => (c_block (c_seq fun K79 hK79 => (c_drawnQ follows (by kernel_rfl) (p_move rfl rfl rfl (p_move rfl rfl rfl ?_)))))))
  have D83 := ((D63.keep u66 (fun _ h => h)).keep u73 (fun _ h => h))
  have i84 : k < us.length := (by omega)
  refine p_index (j := k) Try.underlying26 Try.sizeOf41 rfl rfl rfl rfl (D83.addr (by omega)) rfl i84 (p_loadN (vs := [.int .i64 ((nth us k).kind), .int .i64 ((nth us k).minute), .int .i64 ((nth us k).bill), .int .i64 ((nth us k).frm), .int .i64 ((nth us k).to), .int .i64 ((nth us k).tons), .int .i64 ((nth us k).port), .int .i64 ((nth us k).sn)]) Try.isAgg41 Try.sizeOf41 rfl rfl rfl ((D83.at_ k (by omega)).sub 0 8) rfl (p_move rfl rfl rfl (p_move rfl rfl rfl ?_)))
  have i85 : k < us.length := (by omega)
  refine p_index (j := k) Try.underlying26 Try.sizeOf41 rfl rfl rfl rfl ((hu.keep E75 (fun _ h => h)).addr (by omega)) rfl i85 (p_loadN (vs := [.int .i64 ((nth us k).kind), .int .i64 ((nth us k).minute), .int .i64 ((nth us k).bill), .int .i64 ((nth us k).frm), .int .i64 ((nth us k).to), .int .i64 ((nth us k).tons), .int .i64 ((nth us k).port), .int .i64 ((nth us k).sn)]) Try.isAgg41 Try.sizeOf41 rfl rfl rfl (((hu.keep E75 (fun _ h => h)).at_ k (by omega)).sub 0 8) rfl (p_neS (xs := [.int .i64 ((nth us k).kind), .int .i64 ((nth us k).minute), .int .i64 ((nth us k).bill), .int .i64 ((nth us k).frm), .int .i64 ((nth us k).to), .int .i64 ((nth us k).tons), .int .i64 ((nth us k).port), .int .i64 ((nth us k).sn)]) (ys := [.int .i64 ((nth us k).kind), .int .i64 ((nth us k).minute), .int .i64 ((nth us k).bill), .int .i64 ((nth us k).frm), .int .i64 ((nth us k).to), .int .i64 ((nth us k).tons), .int .i64 ((nth us k).port), .int .i64 ((nth us k).sn)]) (by kernel_rfl) (eqIn41 9998 ((nth us k).kind) ((nth us k).minute) ((nth us k).bill) ((nth us k).frm) ((nth us k).to) ((nth us k).tons) ((nth us k).port) ((nth us k).sn) ((nth us k).kind) ((nth us k).minute) ((nth us k).bill) ((nth us k).frm) ((nth us k).to) ((nth us k).tons) ((nth us k).port) ((nth us k).sn)) rfl rfl rfl rfl (p_samehd (v := .bool false) (by simp) (p_nil fun w86 u87 => ?_))))
  have zu87 := u87.size
  refine t_nil' (hK79 _ _ (c_cond_f rfl (c_skip (hK78 _ _ (c_region (t_move rfl rfl rfl (t_ari rfl rfl rfl rfl rfl (by omega) (t_assign rfl rfl rfl (t_nil' ?_)))))))))
  exact hK71 (k + 1) _ _ (by omega) ⟨rfl, rfl, rfl, rfl, rfl, rfl, rfl, rfl, rfl, rfl, rfl, rfl, trivial⟩ ⟨(u73.next u87 (fun _ _ h => h.elim)), (by omega)⟩
 refine c_exit (hK69 _ _ (c_seq fun K89 hK89 => (c_cut (γ := Bool) (fun q73 => [(1, .slice ae us.length ce), (2, .int .i64 event), (3, .pointer (some ⟨bk2, 0, none⟩)), (10, .slice aoP rows.length cP), (11, .int .i64 (sAt bs hs us)), (12, .int .i64 (sEr bs hs us)), (13, .slice aoL xsL.length cL), (14, .int .i64 (sAt bs hs us)), (15, .int .i64 eL), (73, .bool q73)]) (fun q73 w => Upd (fun _ => False) w72 w ∧ (q73 = false)) (fun K91 hK91 => ?_) ?_)))
 ·
  refine c_region (t_move rfl rfl rfl (t_cmp rfl rfl rfl rfl rfl ?_))
  have B94 := ((((((((B20.kx u24).kx u29).kx u35).keep u38 (by omega)).kx u46).kx u56).kx u66).kx u73)
  refine t_loadN (vs := [.slice ab bs.length cb, .slice ah hs.length ch]) Try.isAgg25 Try.sizeOf25 rfl rfl rfl (B94.at.sub 0 2) rfl (t_call own17 rfl rfl rfl rfl (rManifest_c bs ab bb ob cb hs ah bh oh ch _ (hbs.keep E75 (fun _ h => h)) (hhs.keep E75 (fun _ h => h)) hbl hhl) (fun v95 w96 r98 => ?_))
  obtain ⟨rfl, u97⟩ := r98
  have zu97 := u97.size
  refine t_neB Try.underlying4 rfl rfl rfl rfl (t_samehd (v := .bool false) (by simp) (t_move rfl rfl rfl (t_move rfl rfl rfl (t_cmp rfl rfl rfl rfl rfl (t_move rfl rfl rfl (t_splitp 69 rfl (fun g69 => ?_) (fun g69 => ?_)))))))
  ·
   refine t_move rfl rfl rfl (t_cmp rfl rfl rfl rfl rfl (t_pick_t rfl rfl rfl rfl (t_pick_f rfl rfl rfl rfl (t_nil' ?_))))
   exact hK91 (decide ((chkM bs hs) ≠ 2)) _ _ ⟨rfl, rfl, rfl, rfl, rfl, rfl, rfl, rfl, rfl, rfl, trivial⟩ ⟨((Upd.refl _ _).next u97 (fun _ _ h => h.elim)), (decide_eq_false (by have h9 := chkM_two (bs := bs) (hs := hs); omega))⟩
  refine t_skip rfl rfl rfl (t_skip rfl rfl rfl (t_pick_f rfl rfl rfl rfl (t_pick_f rfl rfl rfl rfl (t_nil' ?_))))
  exact hK91 false _ _ ⟨rfl, rfl, rfl, rfl, rfl, rfl, rfl, rfl, rfl, rfl, trivial⟩ ⟨((Upd.refl _ _).next u97 (fun _ _ h => h.elim)), rfl⟩
 intro q73 w92 hW
 obtain ⟨u93, I100⟩ := hW
 have zu93 := u93.size
 have E101 := E75.nx u93
 have hq73 := I100; clear I100
 refine c_cond rfl (fun g73 => ?_) (fun g73 => ?_)
 ·
  rw [hq73] at g73; cases g73
 refine c_skip (hK89 _ _ (c_seq fun K102 hK102 => (c_region ?_)))
 have B103 := (((((((((B20.kx u24).kx u29).kx u35).keep u38 (by omega)).kx u46).kx u56).kx u66).kx u73).kx u93)
 refine t_loadN (vs := [.slice ab bs.length cb, .slice ah hs.length ch]) Try.isAgg25 Try.sizeOf25 rfl rfl rfl (B103.at.sub 0 2) rfl (t_move rfl rfl rfl (t_call own18 rfl rfl rfl rfl (rReplayU_c bs ab bb ob cb hs ah bh oh ch us ae be oe ce _ (hbs.keep E101 (fun _ h => h)) (hhs.keep E101 (fun _ h => h)) hbl hhl (hu.keep E101 (fun _ h => h)) hul (by omega)) (fun v104 w105 r107 => ?_)))
 obtain ⟨⟨R, rfl, hRM0, hR1⟩, u106⟩ := r107
 have zu106 := u106.size
 have hRB0 := hRM0.below
 refine t_move rfl rfl rfl (t_extract rfl rfl rfl rfl (t_extract rfl rfl rfl rfl (t_extract rfl rfl rfl rfl (t_alloc (cs := [.slice none 0 0, .slice none 0 0, .slice none 0 0, .slice none 0 0, .slice none 0 0]) Try.zeroValue47 rfl rfl rfl (fun bk109 w110 ebk109 sbk109 B111 u112 => ?_)))))
 have zu112 := u112.size
 refine t_store (vs := [.slice R.ha R.hl.length R.hc, .slice R.sa R.sl.length R.sc, .slice R.la R.ld.length R.lc, .slice R.da R.lo.length R.dc, .slice R.ea R.se.length R.ec]) Try.sizeOf47 rfl rfl rfl B111 rfl rfl (Nat.le_of_ble_eq_true rfl) (by simp [Value.oneCell']) (fun w114 sw114 B116 u115 => ?_)
 have zu115 := u115.size
 have E117 := ((E101.nx u106).nx u112).next u115 (fun i hi (h : i = bk109) => show False by first | omega | assumption)
 have B116 : Blk w114 bk109 47 [.slice R.ha R.hl.length R.hc, .slice R.sa R.sl.length R.sc, .slice R.la R.ld.length R.lc, .slice R.da R.lo.length R.dc, .slice R.ea R.se.length R.ec] := B116
 refine t_assign rfl rfl rfl (t_assign rfl rfl rfl (t_nil' (hK102 _ _ (c_seq fun K118 hK118 => (c_seq fun K119 hK119 => (c_region (t_move rfl rfl rfl (t_cmp rfl rfl rfl rfl rfl (t_nil' (hK119 _ _ (c_condp rfl (fun g82 => ?_) (fun g82 => ?_))))))))))))
 ·
  obtain ⟨hL3, hL4⟩ := hL1 g82
  have hr3 := hr1 g82
  refine c_same 15 (v := .int .i64 (sEr bs hs us)) rfl (congrArg (Value.int .i64) hL3) (c_same 13 (v := .slice aoL 0 cL) rfl (by rw [hL4]; rfl) (c_same 10 (v := .slice aoP 0 cP) rfl (by rw [hr3]; rfl) (c_seq fun K120 hK120 => (c_region (t_move rfl rfl rfl (t_move rfl rfl rfl (t_cmp rfl rfl rfl rfl rfl (t_samehd (v := .bool true) (by simp) (t_move rfl rfl rfl (t_move rfl rfl rfl (t_move rfl rfl rfl (t_cmp rfl rfl rfl rfl rfl (t_samehd (v := .bool true) (by simp) (t_pick_t rfl rfl rfl rfl (t_move rfl rfl rfl (t_move rfl rfl rfl (t_move rfl rfl rfl (t_cmp rfl rfl rfl rfl rfl (t_samehd (v := .bool true) (by simp) (t_pick_t rfl rfl rfl rfl (t_move rfl rfl rfl (t_move rfl rfl rfl (t_move rfl rfl rfl ?_)))))))))))))))))))))))
  refine t_cmp rfl rfl rfl rfl rfl (t_samehd (v := .bool true) (by simp) (t_pick_t rfl rfl rfl rfl (t_move rfl rfl rfl (t_move rfl rfl rfl (t_len Try.underlying33 rfl rfl rfl rfl (t_move rfl rfl rfl (t_len Try.underlying36 rfl rfl rfl rfl (t_ari rfl rfl rfl rfl rfl (by omega) (t_samehd (v := .int .i64 0) rfl (t_cmp rfl rfl rfl rfl rfl (t_samehd (v := .bool true) rfl (t_pick_t rfl rfl rfl rfl (t_move rfl rfl rfl (t_call own11 rfl rfl rfl rfl (known_c _) (fun v121 w122 r124 => ?_)))))))))))))))
  obtain ⟨rfl, u123⟩ := r124
  have zu123 := u123.size
  refine t_pick_t rfl rfl rfl rfl (t_assign rfl rfl rfl (t_nil' (hK120 _ _ (c_ret (f_ret1 (v := .bool true) Try.results3 rfl ?_)))))
  exact ⟨rfl, (E117.nx u123)⟩
 have hz : sEr bs hs us = 0 := Decidable.not_not.1 g82
 obtain ⟨hz2, hr4⟩ := hr2 hz
 obtain ⟨hRs, hRok, hn9⟩ := hR1 hz
 have hrows : rows.map rowV = R.hl.map rowV := by rw [hr4, hRs]; rfl
 have hL5 := hL2 hz
 rw [hRs] at hL5
 have hld : R.ld.length ≤ us.length := by have h := hRok.ldn; rwa [show R.st.landed.length = R.ld.length from List.length_map _] at h
 refine c_same 12 (v := .int .i64 0) rfl (congrArg (Value.int .i64) hz) (c_same 11 (v := .int .i64 0) rfl (congrArg (Value.int .i64) hz2) (c_same 14 (v := .int .i64 0) rfl (congrArg (Value.int .i64) hz2) (c_skip (hK118 _ _ (c_seq fun K126 hK126 => (c_seq fun K127 hK127 => (c_region (t_move rfl rfl rfl (t_cmp rfl rfl rfl rfl rfl (t_samehd (v := .bool false) rfl (t_move rfl rfl rfl (t_move rfl rfl rfl (t_cmp rfl rfl rfl rfl rfl (t_samehd (v := .bool false) rfl (t_pick_f rfl rfl rfl rfl (t_move rfl rfl rfl (t_move rfl rfl rfl (t_cmp rfl rfl rfl rfl rfl (t_samehd (v := .bool false) rfl (t_pick_f rfl rfl rfl rfl (t_move rfl rfl rfl (t_move rfl rfl rfl (t_field Try.underlying47 rfl Try.sizeOf33 (0) rfl rfl rfl rfl ?_)))))))))))))))))))))))
 refine t_load Try.isAgg33 rfl rfl rfl (B116.get rfl) ?_
 obtain ⟨hrf, hrp⟩ := rows_few hRok hn9 hrows
 have D128 := ((((((hro.keep u66 (fun _ h => h)).keep u73 (fun _ h => h)).keep u93 (fun _ h => h)).keep u106 (fun _ h => h)).keep u112 (fun _ h => h)).keep u115 (fun hp => by have h9 := hro.lt hp; show ¬ (gP = bk109); omega))
 have D129 := (RM.keepB (RM.ext hRM0 u112) (RB.mono hRB0 (fun k hk => by have hk : k < _ := hk; show ¬ (k = bk109); omega)) u115)
 have D130 := (fun r hr => ((fun r hr => ((fun r hr => ((fun r hr => ((fun r hr => ((fun r hr => (hrl r hr).keep u66 (fun _ _ h => h)) r hr).keep u73 (fun _ _ h => h)) r hr).keep u93 (fun _ _ h => h)) r hr).keep u106 (fun _ _ h => h)) r hr).keep u112 (fun _ _ h => h)) r hr).keepB ((hrl r hr).below.mono (fun k hk => by have hk : k < _ := hk; show ¬ (k = bk109); omega)) u115)
 refine t_call own19 rfl rfl rfl rfl (holds_c rows R.hl aoP R.ha gP R.hg cP R.hc _ D128 (D129).hold D130 (D129).lays hrf hrp) (fun v131 w132 r134 => ?_)
 obtain ⟨rfl, u133⟩ := r134
 have zu133 := u133.size
 refine t_notp rfl rfl rfl (t_pick_f rfl rfl rfl rfl (t_nil' (hK127 _ _ (c_condp rfl (fun g128 => ?_) (fun g128 => ?_)))))
 ·
  exact absurd hrows g128
 refine c_skip (hK126 _ _ (c_seq fun K136 hK136 => (c_seq fun K137 hK137 => (c_region (t_assign rfl rfl rfl (t_nil' (hK137 _ _ (c_block (c_loop (γ := Nat) (fun k => [(2, .int .i64 event), (13, .slice aoL xsL.length cL), (15, .int .i64 eL), (17, .pointer (some ⟨bk109, 0, none⟩)), (20, .int .i64 (k : Int))]) (fun k w => Upd (fun _ => False) w132 w ∧ (k ≤ R.ld.length) ∧ ((R.ld.take k).any (fun x => decide (x.ev = event)) = false)) (fun k => R.ld.length - k) 0 ⟨rfl, rfl, rfl, rfl, rfl, trivial⟩ ⟨Upd.refl _ _, (Nat.zero_le _), rfl⟩ ?_)))))))))
 intro k w139 hW K138 hK138
 obtain ⟨u140, I141, I142⟩ := hW
 have zu140 := u140.size
 have E143 := (E117.nx u133).nx u140
 have hk := I141; clear I141
 have hany := I142; clear I142
 refine c_seq fun K144 hK144 => (c_seq fun K145 hK145 => (c_region (t_move rfl rfl rfl (t_field Try.underlying47 rfl Try.sizeOf44 (2) rfl rfl rfl rfl ?_))))
 have B146 := ((B116.kx u133).kx u140)
 refine t_load Try.isAgg44 rfl rfl rfl (B146.get rfl) (t_len Try.underlying44 rfl rfl rfl rfl (t_cmp rfl rfl rfl rfl rfl (t_nil' (hK145 _ _ (c_condp rfl (fun g133 => ?_) (fun g133 => ?_))))))
 ·
  refine c_skip (hK144 _ _ (c_seq fun K147 hK147 => (c_block (c_seq fun K148 hK148 => (c_region (t_field Try.underlying47 rfl Try.sizeOf44 (2) rfl rfl rfl rfl (t_load Try.isAgg44 rfl rfl rfl (B146.get rfl) (t_move rfl rfl rfl ?_))))))))
  have D149 := (RM.ext (RM.ext D129 u133) u140)
  have i150 : k < R.ld.length := (by omega)
  refine t_index (j := k) Try.underlying44 Try.sizeOf52 rfl rfl rfl rfl ((D149).land.addr (by omega)) rfl i150 (t_field Try.underlying52 rfl Try.sizeOf3 (0 + k * 3 + 0) rfl rfl rfl rfl (t_load Try.isAgg3 rfl rfl rfl (((D149).land.at_ k (by omega)) 0 _ rfl) (t_move rfl rfl rfl (t_cmp rfl rfl rfl rfl rfl (t_nil' (hK148 _ _ (c_condp rfl (fun g143 => ?_) (fun g143 => ?_))))))))
  ·
   have hfd := find_take (by omega) hany (decide_eq_true g143)
   have hpe : xsL.map HLay.v = (nth R.ld k).xs.map HLay.v ∧ eL = 0 := by
     rcases hL5 with ⟨a, _⟩ | ⟨a, b⟩
     · exact absurd (a.symm.trans hfd) (by simp)
     · exact ⟨Option.some.inj (a.symm.trans hfd), b⟩
   obtain ⟨hpar, hpe⟩ := hpe
   refine c_same 15 (v := .int .i64 0) rfl (congrArg (Value.int .i64) hpe) (c_seq fun K151 hK151 => (c_region (t_move rfl rfl rfl (t_cmp rfl rfl rfl rfl rfl (t_samehd (v := .bool true) rfl (t_move rfl rfl rfl (t_move rfl rfl rfl (t_field Try.underlying47 rfl Try.sizeOf44 (2) rfl rfl rfl rfl (t_load Try.isAgg44 rfl rfl rfl (B146.get rfl) (t_move rfl rfl rfl ?_))))))))))
   have i152 : k < R.ld.length := (by omega)
   refine t_index (j := k) Try.underlying44 Try.sizeOf52 rfl rfl rfl rfl ((D149).land.addr (by omega)) rfl i152 (t_field Try.underlying52 rfl Try.sizeOf36 (0 + k * 3 + 2) rfl rfl rfl rfl (t_load Try.isAgg36 rfl rfl rfl (((D149).land.at_ k (by omega)) 2 _ rfl) ?_))
   obtain ⟨hpf, hpp⟩ := parts_few hRok hn9 (show k < R.ld.length by omega) hpar
   have D153 := (LaysR.keep (LaysR.keep (LaysR.keepB (LaysR.keep (LaysR.keep (LaysR.keep (LaysR.keep hpl u73 (fun _ _ h => h)) u93 (fun _ _ h => h)) u106 (fun _ _ h => h)) u112 (fun _ _ h => h)) (hpl.below.mono (fun k hk => by have hk : k < _ := hk; show ¬ (k = bk109); omega)) u115) u133 (fun _ _ h => h)) u140 (fun _ _ h => h))
   refine t_call own20 rfl rfl rfl rfl (layers_c xsL (nth R.ld k).xs aoL (nth R.ld k).ao gL (nth R.ld k).g cL (nth R.ld k).cp _ D153 ((D149).parts _ (nth_mem (by omega))) hpf hpp) (fun v154 w155 r157 => ?_)
   obtain ⟨rfl, u156⟩ := r157
   have zu156 := u156.size
   refine t_pick_t rfl rfl rfl rfl (t_move rfl rfl rfl (t_splitp 156 rfl (fun g156 => ?_) (fun g156 => ?_)))
   ·
    refine t_call own11 rfl rfl rfl rfl (known_c _) (fun v159 w160 r162 => ?_)
    obtain ⟨rfl, u161⟩ := r162
    have zu161 := u161.size
    refine t_pick_t rfl rfl rfl rfl (t_assign rfl rfl rfl (t_nil' (hK151 _ _ (c_ret (f_ret1 (v := .bool true) Try.results3 rfl ?_)))))
    exact ⟨rfl, ((E143.nx u156).nx u161)⟩
   exact absurd hpar g156
  refine c_skip (hK147 _ _ (c_region (t_move rfl rfl rfl (t_ari rfl rfl rfl rfl rfl (by omega) (t_assign rfl rfl rfl (t_nil' ?_))))))
  exact hK138 (k + 1) _ _ (by omega) ⟨rfl, rfl, rfl, rfl, rfl, trivial⟩ ⟨u140, (by omega), (any_snoc (by omega) hany (decide_eq_false g143))⟩
 have hfd := find_no (show R.ld.any (fun x => decide (x.ev = event)) = false by rw [List.take_of_length_le (by omega)] at hany; exact hany)
 have hpe : eL = 7 ∧ xsL = [] := by
   rcases hL5 with ⟨_, a, b⟩ | ⟨a, _⟩
   · exact ⟨a, b⟩
   · exact absurd (a.symm.trans hfd) (by simp)
 obtain ⟨hpe, hL4⟩ := hpe
 refine c_same 15 (v := .int .i64 7) rfl (congrArg (Value.int .i64) hpe) (c_same 13 (v := .slice aoL 0 cL) rfl (by rw [hL4]; rfl) (c_exit (hK136 _ _ (c_seq fun K164 hK164 => (c_region (t_move rfl rfl rfl (t_cmp rfl rfl rfl rfl rfl (t_samehd (v := .bool true) rfl (t_move rfl rfl rfl (t_move rfl rfl rfl (t_len Try.underlying36 rfl rfl rfl rfl (t_cmp rfl rfl rfl rfl rfl (t_samehd (v := .bool true) rfl (t_pick_t rfl rfl rfl rfl (t_move rfl rfl rfl (t_call own11 rfl rfl rfl rfl (known_c _) (fun v165 w166 r168 => ?_)))))))))))))))))
 obtain ⟨rfl, u167⟩ := r168
 have zu167 := u167.size
 refine t_pick_t rfl rfl rfl rfl (t_assign rfl rfl rfl (t_nil' (hK164 _ _ (c_ret (f_ret1 (v := .bool true) Try.results3 rfl ?_)))))
 exact ⟨rfl, (E143.nx u167)⟩

end Go.Proofs.Ytgkkgpenmppjcaa
