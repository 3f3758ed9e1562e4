/-
  The reference's Replay. Conditions: none.
-/
import Derived.Test.YtgkkgpenmppjcaaVB9
namespace Go.Proofs.Ytgkkgpenmppjcaa
open Go Go.RowKit

/-- What the reference's Replay returns. -/
def RRepPost (bs : List Bil) (hs : List Hld) (us : List Ev) (v : Value) (w' : World) : Prop :=
  (∃ at_ e : Int, v = .tuple #[.agg #[.slice none 0 0, .slice none 0 0, .slice none 0 0, .slice none 0 0, .slice none 0 0], .int .i64 at_, .int .i64 e] ∧ e ≠ 0 ∧ (sailP bs hs us).2 = (at_, e)) ∨
  (∃ R : RG, v = .tuple #[.agg #[.slice R.ha R.hl.length R.hc, .slice R.sa R.sl.length R.sc, .slice R.la R.ld.length R.lc, .slice R.da R.lo.length R.dc, .slice R.ea R.se.length R.ec], .int .i64 0, .int .i64 0] ∧ sailP bs hs us = (R.st, 0, 0) ∧ RM w' R ∧ StOk bs (hs.map Hld.cap) us.length R.st ∧ us.length ≤ 100)
theorem own18 : Own Try.prog 18 := ⟨Try.f18, Try.func18, by kernel_rfl, by kernel_rfl⟩

theorem LB.and {T T' : Nat → Prop} {g : Nat} {xs : List HLay} (h : LB T g xs) (h' : LB T' g xs) : LB (fun k => T k ∧ T' k) g xs := ⟨fun p => ⟨h.1 p, h'.1 p⟩, fun x hx p => ⟨h.2 x hx p, h'.2 x hx p⟩⟩
theorem RB.and {T T' : Nat → Prop} {R : RG} (h : RB T R) (h' : RB T' R) : RB (fun k => T k ∧ T' k) R :=
  ⟨fun p => ⟨h.hold p, h'.hold p⟩, fun r hr => (h.lays r hr).and (h'.lays r hr), fun p => ⟨h.shut p, h'.shut p⟩, fun p => ⟨h.land p, h'.land p⟩, fun q hq => (h.parts q hq).and (h'.parts q hq), fun p => ⟨h.load p, h'.load p⟩, fun p => ⟨h.seals p, h'.seals p⟩⟩

set_option maxHeartbeats 2000000 in
theorem rReplay_c (bs : List Bil) (ab : Option Addr) (bb ob cb : Nat) (hs : List Hld) (ah : Option Addr) (bh oh ch : Nat)  (us : List Ev) (ae : Option Addr) (be oe ce : Nat) (w0 : World) (hbs : Sl encBil 3 w0 ab bb ob bs) (hhs : Sl encHld 2 w0 ah bh oh hs) (hbl : bs.length ≤ 1000000) (hhl : hs.length ≤ 1000000)  (hu : Sl encEv 8 w0 ae be oe us) (hul : us.length ≤ 1000000) (hpos : 0 < w0.heap.size) :
    CallsV Try.prog 18 [.agg #[.slice ab bs.length cb, .slice ah hs.length ch], .slice ae us.length ce] w0 (fun v w' => RRepPost bs hs us v w' ∧ Ext w0 w') := by
 refine f_enter (N := 67) Try.func18 rfl rfl rfl (c_seq fun K1 hK1 => (c_region (t_box (cs := [.slice ab bs.length cb, .slice ah hs.length ch]) rfl rfl rfl rfl (fun bk2 w3 ebk2 sbk2 B4 u5 => ?_))))
 have zu5 := u5.size
 refine t_alloc (cs := [.slice none 0 0, .slice none 0 0, .slice none 0 0, .slice none 0 0, .slice none 0 0]) Try.zeroValue47 rfl rfl rfl (fun bk7 w8 ebk7 sbk7 B9 u10 => ?_)
 have zu10 := u10.size
 have E11 := ((Upd.refl (fun _ => False) w0).nx u5).nx u10
 refine t_assign rfl rfl rfl (t_assign rfl rfl rfl (t_nil' (hK1 _ _ (c_seq fun K12 hK12 => (c_seq fun K13 hK13 => (c_region ?_))))))
 have B14 := (B4.kx u10)
 refine t_loadN (vs := [.slice ab bs.length cb, .slice ah hs.length ch]) Try.isAgg25 Try.sizeOf25 rfl rfl rfl (B14.at.sub 0 2) rfl (t_call own17 rfl rfl rfl rfl (rManifest_c bs ab bb ob cb hs ah bh oh ch _ (hbs.keep E11 (fun _ h => h)) (hhs.keep E11 (fun _ h => h)) hbl hhl) (fun v15 w16 r18 => ?_))
 obtain ⟨rfl, u17⟩ := r18
 have zu17 := u17.size
 have E19 := E11.nx u17
 refine t_notp rfl rfl rfl (t_nil' (hK13 _ _ (c_condp rfl (fun g14 => ?_) (fun g14 => ?_))))
 ·
  refine c_seq fun K20 hK20 => (c_region (t_build (ps := []) (v := .agg #[.slice none 0 0, .slice none 0 0, .slice none 0 0, .slice none 0 0, .slice none 0 0]) rfl rfl ⟨rfl, rfl⟩ (fun w => by kernel_rfl) ?_))
  have B21 := (B9.kx u17)
  refine t_st (vs := [.slice none 0 0, .slice none 0 0, .slice none 0 0, .slice none 0 0, .slice none 0 0]) Try.sizeOf47 rfl rfl rfl B21 rfl rfl rfl rfl (fun w22 sw22 B24 u23 => ?_)
  have zu23 := u23.size
  have B24 : Blk w22 bk7 47 [.slice none 0 0, .slice none 0 0, .slice none 0 0, .slice none 0 0, .slice none 0 0] := B24
  refine t_assign rfl rfl rfl (t_assign rfl rfl rfl (t_nil' (hK20 _ _ (c_ret (f_ret3 (v1 := .agg #[.slice none 0 0, .slice none 0 0, .slice none 0 0, .slice none 0 0, .slice none 0 0]) (v2 := .int .i64 0) (v3 := .int .i64 2) Try.results18 ⟨_, _, rfl, run_loadVarN (vs := [.slice none 0 0, .slice none 0 0, .slice none 0 0, .slice none 0 0, .slice none 0 0]) Try.isAgg47 Try.sizeOf47 rfl (B24.at.sub 0 5)⟩ rfl rfl ?_)))))
  exact ⟨.inl ⟨_, _, rfl, by decide, by unfold sailP; rw [if_pos g14]⟩, (E19.next u23 (fun i hi h => by omega))⟩
 have hchk : ¬ (chkM bs hs ≠ 0) := g14
 refine c_skip (hK12 _ _ (c_seq fun K26 hK26 => (c_seq fun K27 hK27 => (c_region (t_move rfl rfl rfl (t_len Try.underlying26 rfl rfl rfl rfl (t_cmp rfl rfl rfl rfl rfl (t_nil' (hK27 _ _ (c_condp rfl (fun g18 => ?_) (fun g18 => ?_)))))))))))
 ·
  refine c_seq fun K28 hK28 => (c_region (t_build (ps := []) (v := .agg #[.slice none 0 0, .slice none 0 0, .slice none 0 0, .slice none 0 0, .slice none 0 0]) rfl rfl ⟨rfl, rfl⟩ (fun w => by kernel_rfl) ?_))
  have B29 := (B9.kx u17)
  refine t_st (vs := [.slice none 0 0, .slice none 0 0, .slice none 0 0, .slice none 0 0, .slice none 0 0]) Try.sizeOf47 rfl rfl rfl B29 rfl rfl rfl rfl (fun w30 sw30 B32 u31 => ?_)
  have zu31 := u31.size
  have B32 : Blk w30 bk7 47 [.slice none 0 0, .slice none 0 0, .slice none 0 0, .slice none 0 0, .slice none 0 0] := B32
  refine t_assign rfl rfl rfl (t_assign rfl rfl rfl (t_nil' (hK28 _ _ (c_ret (f_ret3 (v1 := .agg #[.slice none 0 0, .slice none 0 0, .slice none 0 0, .slice none 0 0, .slice none 0 0]) (v2 := .int .i64 0) (v3 := .int .i64 5) Try.results18 ⟨_, _, rfl, run_loadVarN (vs := [.slice none 0 0, .slice none 0 0, .slice none 0 0, .slice none 0 0, .slice none 0 0]) Try.isAgg47 Try.sizeOf47 rfl (B32.at.sub 0 5)⟩ rfl rfl ?_)))))
  exact ⟨.inl ⟨_, _, rfl, by decide, by unfold sailP; rw [if_neg hchk, if_pos (by omega)]⟩, (E19.next u31 (fun i hi h => by omega))⟩
 refine c_skip (hK26 _ _ (c_seq fun K34 hK34 => (c_seq fun K35 hK35 => (c_region (t_assign rfl rfl rfl (t_nil' (hK35 _ _ (c_block (c_loop (γ := Nat) (fun k => [(1, .slice ae us.length ce), (2, .pointer (some ⟨bk2, 0, none⟩)), (4, .pointer (some ⟨bk7, 0, none⟩)), (7, .int .i64 (k : Int))]) (fun k w => Upd (fun _ => False) w16 w ∧ (k ≤ us.length) ∧ ((us.take k).any (fun x => !okEv x) = false)) (fun k => us.length - k) 0 ⟨rfl, rfl, rfl, rfl, trivial⟩ ⟨Upd.refl _ _, (Nat.zero_le _), rfl⟩ ?_)))))))))
 intro k w37 hW K36 hK36
 obtain ⟨u38, I39, I40⟩ := hW
 have zu38 := u38.size
 have E41 := E19.nx u38
 have hk := I39; clear I39
 have hall := I40; clear I40
 refine c_seq fun K42 hK42 => (c_seq fun K43 hK43 => (c_region (t_move rfl rfl rfl (t_move rfl rfl rfl (t_len Try.underlying26 rfl rfl rfl rfl (t_cmp rfl rfl rfl rfl rfl (t_nil' (hK43 _ _ (c_condp rfl (fun g23 => ?_) (fun g23 => ?_))))))))))
 ·
  refine c_skip (hK42 _ _ (c_seq fun K44 hK44 => (c_block (c_seq fun K45 hK45 => (c_region (t_move rfl rfl rfl (t_move rfl rfl rfl ?_)))))))
  have i46 : k < us.length := (by omega)
  refine t_index (j := k) Try.underlying26 Try.sizeOf41 rfl rfl rfl rfl ((hu.keep E41 (fun _ h => h)).addr (by omega)) rfl i46 (t_loadN (vs := [.int .i64 ((nth us k).kind), .int .i64 ((nth us k).minute), .int .i64 ((nth us k).bill), .int .i64 ((nth us k).frm), .int .i64 ((nth us k).to), .int .i64 ((nth us k).tons), .int .i64 ((nth us k).port), .int .i64 ((nth us k).sn)]) Try.isAgg41 Try.sizeOf41 rfl rfl rfl (((hu.keep E41 (fun _ h => h)).at_ k (by omega)).sub 0 8) rfl (t_call own47 rfl rfl rfl rfl (rEvent_c (nth us k) _) (fun v47 w48 r50 => ?_)))
  obtain ⟨rfl, u49⟩ := r50
  have zu49 := u49.size
  refine t_not rfl rfl rfl (t_nil' (hK45 _ _ (c_cond rfl (fun g31 => ?_) (fun g31 => ?_))))
  ·
   refine c_seq fun K52 hK52 => (c_region (t_build (ps := []) (v := .agg #[.slice none 0 0, .slice none 0 0, .slice none 0 0, .slice none 0 0, .slice none 0 0]) rfl rfl ⟨rfl, rfl⟩ (fun w => by kernel_rfl) ?_))
   have B53 := (((B9.kx u17).kx u38).kx u49)
   refine t_st (vs := [.slice none 0 0, .slice none 0 0, .slice none 0 0, .slice none 0 0, .slice none 0 0]) Try.sizeOf47 rfl rfl rfl B53 rfl rfl rfl rfl (fun w54 sw54 B56 u55 => ?_)
   have zu55 := u55.size
   have B56 : Blk w54 bk7 47 [.slice none 0 0, .slice none 0 0, .slice none 0 0, .slice none 0 0, .slice none 0 0] := B56
   refine t_assign rfl rfl rfl (t_assign rfl rfl rfl (t_nil' (hK52 _ _ (c_ret (f_ret3 (v1 := .agg #[.slice none 0 0, .slice none 0 0, .slice none 0 0, .slice none 0 0, .slice none 0 0]) (v2 := .int .i64 0) (v3 := .int .i64 2) Try.results18 ⟨_, _, rfl, run_loadVarN (vs := [.slice none 0 0, .slice none 0 0, .slice none 0 0, .slice none 0 0, .slice none 0 0]) Try.isAgg47 Try.sizeOf47 rfl (B56.at.sub 0 5)⟩ rfl rfl ?_)))))
   exact ⟨.inl ⟨_, _, rfl, by decide, by unfold sailP; rw [if_neg hchk, if_neg (by omega), if_pos (List.any_eq_true.2 ⟨_, nth_mem (xs := us) (i := k) (by omega), g31⟩)]⟩, ((E41.nx u49).next u55 (fun i hi h => by omega))⟩
  refine c_skip (hK44 _ _ (c_region (t_move rfl rfl rfl (t_ari rfl rfl rfl rfl rfl (by omega) (t_assign rfl rfl rfl (t_nil' ?_))))))
  exact hK36 (k + 1) _ _ (by omega) ⟨rfl, rfl, rfl, rfl, trivial⟩ ⟨(u38.next u49 (fun _ _ h => h.elim)), (by omega), (any_snoc (by omega) hall (by simpa using g31))⟩
 have hany : (us.any fun x => !okEv x) = false := by rw [List.take_of_length_le (by omega)] at hall; exact hall
 refine c_exit (hK34 _ _ (c_seq fun K58 hK58 => (c_region ?_)))
 have B59 := ((B14.kx u17).kx u38)
 refine t_loadN (vs := [.slice ab bs.length cb, .slice ah hs.length ch]) Try.isAgg25 Try.sizeOf25 rfl rfl rfl (B59.at.sub 0 2) rfl (t_call own48 rfl rfl rfl rfl (Empty_c bs ab bb ob cb hs ah bh oh ch _ (hbs.keep E41 (fun _ h => h)) (hhs.keep E41 (fun _ h => h)) hbl hhl) (fun v60 w61 r63 => ?_))
 obtain ⟨R0, rfl, hRst, hRM0, hRse, hRB2, u62⟩ := r63
 have zu62 := u62.size
 have B65 := (((B9.kx u17).kx u38).kx u62)
 change WL _ _ _ _ _ _ _ ((34, .agg #[.slice R0.ha R0.hl.length R0.hc, .slice R0.sa R0.sl.length R0.sc, .slice R0.la R0.ld.length R0.lc, .slice R0.da R0.lo.length R0.dc, .slice R0.ea R0.se.length R0.ec]) :: _) _
 have hlt4 := B65.lt
 have hRB1 := hRM0.below
 refine t_alloc (cs := [.slice none 0 0, .slice none 0 0, .slice none 0 0, .slice none 0 0, .slice none 0 0]) Try.zeroValue47 rfl rfl rfl (fun bk66 w67 ebk66 sbk66 B68 u69 => ?_)
 have zu69 := u69.size
 have hRB0 : RB (fun k => k ≠ bk66 ∧ k ≠ bk7) R0 := (RB.and hRB1 hRB2).mono (fun k hk => by obtain ⟨h1, h2⟩ := hk; have h1 : k < _ := h1; show k ≠ bk66 ∧ k ≠ bk7; omega)
 refine t_st (vs := [.slice R0.ha R0.hl.length R0.hc, .slice R0.sa R0.sl.length R0.sc, .slice R0.la R0.ld.length R0.lc, .slice R0.da R0.lo.length R0.dc, .slice R0.ea R0.se.length R0.ec]) Try.sizeOf47 rfl rfl rfl B68 rfl rfl rfl rfl (fun w71 sw71 B73 u72 => ?_)
 have zu72 := u72.size
 have B73 : Blk w71 bk66 47 [.slice R0.ha R0.hl.length R0.hc, .slice R0.sa R0.sl.length R0.sc, .slice R0.la R0.ld.length R0.lc, .slice R0.da R0.lo.length R0.dc, .slice R0.ea R0.se.length R0.ec] := B73
 refine t_assign rfl rfl rfl (t_nil' (hK58 _ _ (c_seq fun K75 hK75 => (c_seq fun K76 hK76 => (c_region (t_assign rfl rfl rfl (t_nil' (hK76 _ _ (c_block ?_)))))))))
 have D77 := (RM.keepB (RM.ext hRM0 u69) (RB.mono hRB0 (fun k hk => by show ¬ (k = bk66); omega)) u72)
 refine c_loop (γ := Nat × RG × Int) (fun gg => [(1, .slice ae us.length ce), (2, .pointer (some ⟨bk2, 0, none⟩)), (4, .pointer (some ⟨bk7, 0, none⟩)), (8, .pointer (some ⟨bk66, 0, none⟩)), (9, .int .i64 gg.2.2), (10, .int .i64 (gg.1 : Int))]) (fun gg w => Upd (fun i => i = bk66) w71 w ∧ Blk w bk66 47 [.slice gg.2.1.ha gg.2.1.hl.length gg.2.1.hc, .slice gg.2.1.sa gg.2.1.sl.length gg.2.1.sc, .slice gg.2.1.la gg.2.1.ld.length gg.2.1.lc, .slice gg.2.1.da gg.2.1.lo.length gg.2.1.dc, .slice gg.2.1.ea gg.2.1.se.length gg.2.1.ec] ∧ (gg.1 ≤ us.length) ∧ (RM w gg.2.1) ∧ (StOk bs (hs.map Hld.cap) gg.1 gg.2.1.st) ∧ (runE bs (hs.map Hld.cap) us 0 (emptyS bs.length hs.length) 0 = runE bs (hs.map Hld.cap) (us.drop gg.1) gg.1 gg.2.1.st gg.2.2) ∧ (gg.2.1.se.length ≤ gg.1) ∧ (0 ≤ gg.2.2 ∧ gg.2.2 ≤ 1000000) ∧ (RB (fun k => k ≠ bk66 ∧ k ≠ bk7) gg.2.1)) (fun gg => us.length - gg.1) (0, R0, 0) ⟨rfl, rfl, rfl, rfl, rfl, rfl, trivial⟩ ⟨Upd.refl _ _, B73, (Nat.zero_le _), D77, (by show StOk _ _ _ R0.st; rw [hRst]; exact emptyS_ok hchk), (by show _ = runE _ _ _ _ R0.st _; rw [hRst]; rfl), (by show R0.se.length ≤ 0; rw [hRse]; exact Nat.le_refl 0), (show (0 : Int) ≤ 0 ∧ (0 : Int) ≤ 1000000 from by decide), hRB0⟩ ?_
 intro gg w79 hW K78 hK78
 obtain ⟨kk, R, mi⟩ := gg
 change WC _ _ _ _ _ _ [(1, .slice ae us.length ce), (2, .pointer (some ⟨bk2, 0, none⟩)), (4, .pointer (some ⟨bk7, 0, none⟩)), (8, .pointer (some ⟨bk66, 0, none⟩)), (9, .int .i64 mi), (10, .int .i64 (kk : Int))] _
 change Upd (fun i => i = bk66) w71 w79 ∧ Blk w79 bk66 47 [.slice R.ha R.hl.length R.hc, .slice R.sa R.sl.length R.sc, .slice R.la R.ld.length R.lc, .slice R.da R.lo.length R.dc, .slice R.ea R.se.length R.ec] ∧ (kk ≤ us.length) ∧ (RM w79 R) ∧ (StOk bs (hs.map Hld.cap) kk R.st) ∧ (runE bs (hs.map Hld.cap) us 0 (emptyS bs.length hs.length) 0 = runE bs (hs.map Hld.cap) (us.drop kk) kk R.st mi) ∧ (R.se.length ≤ kk) ∧ (0 ≤ mi ∧ mi ≤ 1000000) ∧ (RB (fun k => k ≠ bk66 ∧ k ≠ bk7) R) at hW
 obtain ⟨u80, I81, I82, I83, I84, I85, I86, I87, I88⟩ := hW
 have zu80 := u80.size
 have E89 := (((E41.nx u62).nx u69).next u72 (fun i hi h => by omega)).next u80 (fun i hi h => by omega)
 have hkk := I82; clear I82
 have hRM := I83; clear I83
 have hst := I84; clear I84
 have hrun := I85; clear I85
 have hse := I86; clear I86
 have hmi := I87; clear I87
 have hRB := I88; clear I88
 have B90 := (((B65.kx u69).keep u72 (by omega)).keep u80 (by omega))
 have hlt8 := (I81).lt
 have hlt49 := (B90).lt
 refine c_seq fun K91 hK91 => (c_seq fun K92 hK92 => (c_region (t_move rfl rfl rfl (t_move rfl rfl rfl (t_len Try.underlying26 rfl rfl rfl rfl (t_cmp rfl rfl rfl rfl rfl (t_nil' (hK92 _ _ (c_condp rfl (fun g38 => ?_) (fun g38 => ?_))))))))))
 ·
  have hxv : okEv (nth us kk) = true := by have h := List.any_eq_false.1 hany _ (nth_mem (xs := us) (i := kk) (by omega)); simpa using h
  refine c_skip (hK91 _ _ (c_seq fun K93 hK93 => (c_block (c_seq fun K94 hK94 => (c_seq fun K95 hK95 => (c_drawnQ follows (by kernel_rfl) ?_))))))
  have B101 := ((((B59.kx u62).kx u69).keep u72 (by omega)).keep u80 (by omega))
  refine p_loadN (vs := [.slice ab bs.length cb, .slice ah hs.length ch]) Try.isAgg25 Try.sizeOf25 rfl rfl rfl (B101.at.sub 0 2) rfl (p_loadN (vs := [.slice R.ha R.hl.length R.hc, .slice R.sa R.sl.length R.sc, .slice R.la R.ld.length R.lc, .slice R.da R.lo.length R.dc, .slice R.ea R.se.length R.ec]) Try.isAgg47 Try.sizeOf47 rfl rfl rfl (I81.at.sub 0 5) rfl (p_move rfl rfl rfl (p_move rfl rfl rfl ?_)))
  have i102 : kk < us.length := (by omega)
  refine p_index (j := kk) Try.underlying26 Try.sizeOf41 rfl rfl rfl rfl ((hu.keep E89 (fun _ h => h)).addr (by omega)) rfl i102 (p_loadN (vs := [.int .i64 ((nth us kk).kind), .int .i64 ((nth us kk).minute), .int .i64 ((nth us kk).bill), .int .i64 ((nth us kk).frm), .int .i64 ((nth us kk).to), .int .i64 ((nth us kk).tons), .int .i64 ((nth us kk).port), .int .i64 ((nth us kk).sn)]) Try.isAgg41 Try.sizeOf41 rfl rfl rfl (((hu.keep E89 (fun _ h => h)).at_ kk (by omega)).sub 0 8) rfl (p_move rfl rfl rfl (p_call (v := .int .i64 (chkP bs (hs.map Hld.cap) R.st mi (nth us kk))) own49 rfl rfl rfl rfl (fun _ u103 => (by have zu103 := u103.size; have D105 := (RM.ext hRM u103); exact (Cannot_c bs ab bb ob cb hs ah bh oh ch mi R kk (nth us kk) _ (hbs.keep (E89.nx u103) (fun _ h => h)) (hhs.keep (E89.nx u103) (fun _ h => h)) hbl hhl D105 hst hxv (by omega) hmi))) (p_assign rfl rfl rfl (p_nil fun w106 u107 => ?_)))))
  have zu107 := u107.size
  have E108 := E89.nx u107
  refine t_nil' (hK95 _ _ (c_seq fun K109 hK109 => (c_region (t_move rfl rfl rfl (t_cmp rfl rfl rfl rfl rfl (t_nil' (hK109 _ _ (c_condp rfl (fun g50 => ?_) (fun g50 => ?_)))))))))
  ·
   refine c_seq fun K110 hK110 => (c_region (t_build (ps := []) (v := .agg #[.slice none 0 0, .slice none 0 0, .slice none 0 0, .slice none 0 0, .slice none 0 0]) rfl rfl ⟨rfl, rfl⟩ (fun w => by kernel_rfl) (t_move rfl rfl rfl (t_move rfl rfl rfl ?_))))
   have B111 := (B90.kx u107)
   refine t_st (vs := [.slice none 0 0, .slice none 0 0, .slice none 0 0, .slice none 0 0, .slice none 0 0]) Try.sizeOf47 rfl rfl rfl B111 rfl rfl rfl rfl (fun w112 sw112 B114 u113 => ?_)
   have zu113 := u113.size
   have B114 : Blk w112 bk7 47 [.slice none 0 0, .slice none 0 0, .slice none 0 0, .slice none 0 0, .slice none 0 0] := B114
   refine t_assign rfl rfl rfl (t_assign rfl rfl rfl (t_nil' (hK110 _ _ (c_ret (f_ret3 (v1 := .agg #[.slice none 0 0, .slice none 0 0, .slice none 0 0, .slice none 0 0, .slice none 0 0]) (v2 := .int .i64 (kk : Int)) (v3 := .int .i64 (chkP bs (hs.map Hld.cap) R.st mi (nth us kk))) Try.results18 ⟨_, _, rfl, run_loadVarN (vs := [.slice none 0 0, .slice none 0 0, .slice none 0 0, .slice none 0 0, .slice none 0 0]) Try.isAgg47 Try.sizeOf47 rfl (B114.at.sub 0 5)⟩ rfl rfl ?_)))))
   exact ⟨.inl ⟨_, _, rfl, g50, by unfold sailP; rw [if_neg hchk, if_neg (by omega), if_neg (by rw [hany]; decide), hrun, drop_nth (show kk < us.length by omega), runE, if_pos g50]⟩, (E108.next u113 (fun i hi h => by omega))⟩
  have hevo : EvOk bs (hs.map Hld.cap) R.st mi (nth us kk) := EvOk.of hxv (Decidable.not_not.1 g50)
  refine c_skip (hK94 _ _ ?_)
  have B116 := (I81.kx u107)
  refine c_drawnS follows 14 13 [some (54, some (.agg #[.slice R.ha R.hl.length R.hc, .slice R.sa R.sl.length R.sc, .slice R.la R.ld.length R.lc, .slice R.da R.lo.length R.dc, .slice R.ea R.se.length R.ec])), some (55, some (.slice ae us.length ce)), some (56, some (.int .i64 (kk : Int))), some (57, some (.pointer (some ⟨be, oe + kk * 8, none⟩))), some (58, some (.agg #[.int .i64 ((nth us kk).kind), .int .i64 ((nth us kk).minute), .int .i64 ((nth us kk).bill), .int .i64 ((nth us kk).frm), .int .i64 ((nth us kk).to), .int .i64 ((nth us kk).tons), .int .i64 ((nth us kk).port), .int .i64 ((nth us kk).sn)])), some (59, some (.int .i64 (kk : Int))), some (60, none), some (61, some (.slice ae us.length ce)), some (62, some (.int .i64 (kk : Int))), some (63, some (.pointer (some ⟨be, oe + kk * 8, none⟩))), some (64, some (.pointer (some ⟨be, oe + kk * 8 + 1, none⟩))), some (65, some (.int .i64 ((nth us kk).minute))), none] [[],[],[],[1,2],[3],[],[0,4,5],[],[],[7,8],[9],[10],[6,6,0,1,2,3,4,5,6],[11,12,0,1,2,3,4,5,6,7,8,9,10,11,12]] (fun D ρ w => Upd (fun i => i = bk66) w106 w ∧ (D 6 = false → Blk w bk66 47 [.slice R.ha R.hl.length R.hc, .slice R.sa R.sl.length R.sc, .slice R.la R.ld.length R.lc, .slice R.da R.lo.length R.dc, .slice R.ea R.se.length R.ec]) ∧ (D 6 = true → ∃ R2, ρ 6 = .agg #[.slice R2.ha R2.hl.length R2.hc, .slice R2.sa R2.sl.length R2.sc, .slice R2.la R2.ld.length R2.lc, .slice R2.da R2.lo.length R2.dc, .slice R2.ea R2.se.length R2.ec] ∧ ((R2.st = stepF R.st (nth us kk) kk ∧ RM w R2 ∧ R2.se.length ≤ R.se.length + 1 ∧ (∀ T : Nat → Prop, RB T R → (∀ q, w106.heap.size ≤ q → T q) → RB T R2)) ∧ Blk w bk66 47 (bif D 12 then [.slice R2.ha R2.hl.length R2.hc, .slice R2.sa R2.sl.length R2.sc, .slice R2.la R2.ld.length R2.lc, .slice R2.da R2.lo.length R2.dc, .slice R2.ea R2.se.length R2.ec] else [.slice R.ha R.hl.length R.hc, .slice R.sa R.sl.length R.sc, .slice R.la R.ld.length R.lc, .slice R.da R.lo.length R.dc, .slice R.ea R.se.length R.ec])))) rfl rfl rfl rfl (by kernel_rfl) (by kernel_rfl) (by kernel_rfl) ⟨(Upd.drew _).to, (fun _ => B116.kx (Upd.drew _)), (fun h => by cases h)⟩ ⟨?_, ?_, ?_, ?_, ?_, ?_, ?_, ?_, ?_, ?_, ?_, ?_, ?_, trivial⟩ ?_
  ·
   intro D ρ w125 hcD hnD hdD hW
   obtain ⟨u126, N128, F127⟩ := hW
   have zu126 := u126.size
   have C130 := N128 (hcD.late 6 hnD rfl)
   refine ⟨_, kf_fr [8], fun Lr => ?_⟩
   refine t_loadN (vs := [.slice R.ha R.hl.length R.hc, .slice R.sa R.sl.length R.sc, .slice R.la R.ld.length R.lc, .slice R.da R.lo.length R.dc, .slice R.ea R.se.length R.ec]) Try.isAgg47 Try.sizeOf47 rfl rfl rfl (C130.at.sub 0 5) rfl ?_
   exact dz rfl ⟨u126, N128, F127⟩
  · exact pz rfl rfl rfl rfl fun _ _ _ h => h
  · exact pz rfl rfl rfl rfl fun _ _ _ h => h
  ·
   intro D ρ w131 hcD hnD hdD hW
   obtain ⟨u132, N134, F133⟩ := hW
   have zu132 := u132.size
   have C136 := N134 (hcD.late 6 (hcD.late 4 hnD rfl) rfl)
   refine ⟨_, kf_fr [55, 56], fun Lr => ?_⟩
   have i137 : kk < us.length := (by omega)
   refine t_index (j := kk) Try.underlying26 Try.sizeOf41 rfl rfl rfl rfl ((hu.keep (E108.next u132 (fun i hi h => by omega)) (fun _ h => h)).addr (by omega)) rfl i137 ?_
   exact dz rfl ⟨u132, N134, F133⟩
  ·
   intro D ρ w138 hcD hnD hdD hW
   obtain ⟨u139, N141, F140⟩ := hW
   have zu139 := u139.size
   have C143 := N141 (hcD.late 6 hnD rfl)
   refine ⟨_, kf_fr [57], fun Lr => ?_⟩
   refine t_loadN (vs := [.int .i64 ((nth us kk).kind), .int .i64 ((nth us kk).minute), .int .i64 ((nth us kk).bill), .int .i64 ((nth us kk).frm), .int .i64 ((nth us kk).to), .int .i64 ((nth us kk).tons), .int .i64 ((nth us kk).port), .int .i64 ((nth us kk).sn)]) Try.isAgg41 Try.sizeOf41 rfl rfl rfl (((hu.keep (E108.next u139 (fun i hi h => by omega)) (fun _ h => h)).at_ kk (by omega)).sub 0 8) rfl ?_
   exact dz rfl ⟨u139, N141, F140⟩
  · exact pz rfl rfl rfl rfl fun _ _ _ h => h
  ·
   intro D ρ w144 hcD hnD hdD hW
   obtain ⟨u145, N147, F146⟩ := hW
   have zu145 := u145.size
   have C149 := N147 hnD
   refine ⟨_, kf_fr [54, 58, 59], fun Lr => ?_⟩
   have D150 := (RM.keepB (RM.ext hRM u107) (RB.mono hRB (fun k hk => by show ¬ (k = bk66); omega)) u145)
   refine t_call own50 rfl rfl rfl rfl (Step_c bs (hs.map Hld.cap) mi R kk (nth us kk) (kk : Int) _ D150 hst hxv hevo (by omega) (by omega)) (fun v151 w152 r154 => ?_)
   obtain ⟨R2, rfl, hs2, hR2, hse2, hB2, u153⟩ := r154
   have zu153 := u153.size
   have dN := (hcD.late 12 hnD rfl)
   have B156 := (C149.kx u153)
   exact dzn rfl ⟨(u145.next u153 (fun _ _ h => h.elim)), (fun h => by cases h), (fun _ => ⟨R2, rfl, ⟨⟨hs2, hR2, hse2, fun T a b => hB2 T a (fun q hq => b q (by omega))⟩, (by show Blk w152 bk66 47 (bif D 12 then [.slice R2.ha R2.hl.length R2.hc, .slice R2.sa R2.sl.length R2.sc, .slice R2.la R2.ld.length R2.lc, .slice R2.da R2.lo.length R2.dc, .slice R2.ea R2.se.length R2.ec] else [.slice R.ha R.hl.length R.hc, .slice R.sa R.sl.length R.sc, .slice R.la R.ld.length R.lc, .slice R.da R.lo.length R.dc, .slice R.ea R.se.length R.ec]); simpa only [dN, cond_false] using B156)⟩⟩)⟩
  · exact pz rfl rfl rfl rfl fun _ _ _ h => h
  · exact pz rfl rfl rfl rfl fun _ _ _ h => h
  ·
   intro D ρ w157 hcD hnD hdD hW
   obtain ⟨u158, N160, F159⟩ := hW
   have zu158 := u158.size
   refine ⟨_, kf_fr [61, 62], fun Lr => ?_⟩
   have i163 : kk < us.length := (by omega)
   refine t_index (j := kk) Try.underlying26 Try.sizeOf41 rfl rfl rfl rfl ((hu.keep (E108.next u158 (fun i hi h => by omega)) (fun _ h => h)).addr (by omega)) rfl i163 ?_
   exact dz rfl ⟨u158, N160, F159⟩
  · exact pzf Try.underlying41 rfl Try.sizeOf3 (oe + kk * 8 + 1) rfl rfl rfl rfl rfl fun _ _ _ h => h
  ·
   intro D ρ w164 hcD hnD hdD hW
   obtain ⟨u165, N167, F166⟩ := hW
   have zu165 := u165.size
   refine ⟨_, kf_fr [64], fun Lr => ?_⟩
   refine t_load Try.isAgg3 rfl rfl rfl (((hu.keep (E108.next u165 (fun i hi h => by omega)) (fun _ h => h)).at_ kk (by omega)) 1 _ rfl) ?_
   exact dz rfl ⟨u165, N167, F166⟩
  ·
   intro D ρ w170 hcD hnD hdD hW
   obtain ⟨u171, N173, F172⟩ := hW
   have zu171 := u171.size
   obtain ⟨R2, e176, H177⟩ := F172 (hdD 6 rfl)
   obtain ⟨hs2, hR2, hse2, hB2⟩ := id H177.1
   have hRBn : RB (fun k => k ≠ bk66 ∧ k ≠ bk7) R2 := hB2 _ hRB (fun q hq => by show q ≠ bk66 ∧ q ≠ bk7; omega)
   have dN := hnD
   have C175 : Blk w170 bk66 47 [.slice R.ha R.hl.length R.hc, .slice R.sa R.sl.length R.sc, .slice R.la R.ld.length R.lc, .slice R.da R.lo.length R.dc, .slice R.ea R.se.length R.ec] := by have h := H177.2; simpa only [dN, cond_false] using h
   refine ⟨[(8, .pointer (some ⟨bk66, 0, none⟩)), (60, .agg #[.slice R2.ha R2.hl.length R2.hc, .slice R2.sa R2.sl.length R2.sc, .slice R2.la R2.ld.length R2.lc, .slice R2.da R2.lo.length R2.dc, .slice R2.ea R2.se.length R2.ec])], ⟨fo rfl rfl, fi 6 rfl rfl e176.symm, trivial⟩, fun Lr => ?_⟩
   refine t_st (vs := [.slice R2.ha R2.hl.length R2.hc, .slice R2.sa R2.sl.length R2.sc, .slice R2.la R2.ld.length R2.lc, .slice R2.da R2.lo.length R2.dc, .slice R2.ea R2.se.length R2.ec]) Try.sizeOf47 rfl rfl rfl C175 rfl rfl rfl rfl (fun w178 sw178 B180 u179 => ?_)
   have zu179 := u179.size
   have B180 : Blk w178 bk66 47 [.slice R2.ha R2.hl.length R2.hc, .slice R2.sa R2.sl.length R2.sc, .slice R2.la R2.ld.length R2.lc, .slice R2.da R2.lo.length R2.dc, .slice R2.ea R2.se.length R2.ec] := B180
   exact dz0 rfl ⟨(u171.next u179 (fun i hi h => by omega)), (fun h => absurd ((hdD 6 rfl).symm.trans h) (by decide)), (fun _ => ⟨R2, e176, ⟨⟨H177.1.1, (RM.keepB H177.1.2.1 (RB.mono hRBn (fun k hk => by show ¬ (k = bk66); exact fun e => hk.1 e)) u179), H177.1.2.2⟩, B180⟩⟩)⟩
  intro ρ w182 hW
  obtain ⟨u183, _, F184⟩ := hW
  have zu183 := u183.size
  obtain ⟨R2, e186, H187⟩ := F184 rfl
  obtain ⟨hs2, hR2, hse2, hB2⟩ := id H187.1
  have hRBn : RB (fun k => k ≠ bk66 ∧ k ≠ bk7) R2 := hB2 _ hRB (fun q hq => by show q ≠ bk66 ∧ q ≠ bk7; omega)
  have B188 : Blk w182 bk66 47 [.slice R2.ha R2.hl.length R2.hc, .slice R2.sa R2.sl.length R2.sc, .slice R2.la R2.ld.length R2.lc, .slice R2.da R2.lo.length R2.dc, .slice R2.ea R2.se.length R2.ec] := H187.2
  refine t_weak [(1, .slice ae us.length ce), (2, .pointer (some ⟨bk2, 0, none⟩)), (4, .pointer (some ⟨bk7, 0, none⟩)), (8, .pointer (some ⟨bk66, 0, none⟩)), (10, .int .i64 (kk : Int)), (65, .int .i64 ((nth us kk).minute))] ⟨rfl, rfl, rfl, rfl, rfl, rfl, trivial⟩ (t_assign rfl rfl rfl (t_nil' (hK93 _ _ (c_region (t_move rfl rfl rfl (t_ari rfl rfl rfl rfl rfl (by omega) (t_assign rfl rfl rfl (t_nil' ?_))))))))
  exact hK78 (kk + 1, R2, (nth us kk).minute) _ _ (by show us.length - (kk + 1) < us.length - kk; omega) ⟨rfl, rfl, rfl, rfl, rfl, rfl, trivial⟩ ⟨((u80.next u107 (fun _ _ h => h.elim)).next u183 (fun i hi h => by omega)), B188, (by omega), hR2, (by rw [hs2]; exact hst.step hxv hevo), (by rw [hrun, drop_nth (show kk < us.length by omega), runE, if_neg g50, hs2]), (by show R2.se.length ≤ kk + 1; omega), (by have h := (okEv_rng hxv).1; exact h), hRBn⟩
 have hkk2 : kk = us.length := by omega
 refine c_exit (hK75 _ _ (c_seq fun K189 hK189 => (c_region (t_loadN (vs := [.slice R.ha R.hl.length R.hc, .slice R.sa R.sl.length R.sc, .slice R.la R.ld.length R.lc, .slice R.da R.lo.length R.dc, .slice R.ea R.se.length R.ec]) Try.isAgg47 Try.sizeOf47 rfl rfl rfl (I81.at.sub 0 5) rfl (t_st (vs := [.slice R.ha R.hl.length R.hc, .slice R.sa R.sl.length R.sc, .slice R.la R.ld.length R.lc, .slice R.da R.lo.length R.dc, .slice R.ea R.se.length R.ec]) Try.sizeOf47 rfl rfl rfl B90 rfl rfl rfl rfl (fun w190 sw190 B192 u191 => ?_))))))
 have zu191 := u191.size
 have B192 : Blk w190 bk7 47 [.slice R.ha R.hl.length R.hc, .slice R.sa R.sl.length R.sc, .slice R.la R.ld.length R.lc, .slice R.da R.lo.length R.dc, .slice R.ea R.se.length R.ec] := B192
 refine t_assign rfl rfl rfl (t_assign rfl rfl rfl (t_nil' (hK189 _ _ (c_ret (f_ret3 (v1 := .agg #[.slice R.ha R.hl.length R.hc, .slice R.sa R.sl.length R.sc, .slice R.la R.ld.length R.lc, .slice R.da R.lo.length R.dc, .slice R.ea R.se.length R.ec]) (v2 := .int .i64 0) (v3 := .int .i64 0) Try.results18 ⟨_, _, rfl, run_loadVarN (vs := [.slice R.ha R.hl.length R.hc, .slice R.sa R.sl.length R.sc, .slice R.la R.ld.length R.lc, .slice R.da R.lo.length R.dc, .slice R.ea R.se.length R.ec]) Try.isAgg47 Try.sizeOf47 rfl (B192.at.sub 0 5)⟩ rfl rfl ?_)))))
 have D194 := (RM.keepB hRM (RB.mono hRB (fun k hk => by show ¬ (k = bk7); omega)) u191)
 exact ⟨.inr ⟨R, rfl, by unfold sailP; rw [if_neg hchk, if_neg (by omega), if_neg (by rw [hany]; decide), hrun, List.drop_eq_nil_of_le (by omega)]; rfl, D194, by rw [← hkk2]; exact hst, by omega⟩, (E89.next u191 (fun i hi h => by omega))⟩

end Go.Proofs.Ytgkkgpenmppjcaa
