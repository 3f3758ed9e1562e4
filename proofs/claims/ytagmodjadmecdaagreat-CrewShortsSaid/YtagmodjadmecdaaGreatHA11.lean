/-
  safe, Plan. Conditions: none.
-/
import Derived.Test.YtagmodjadmecdaaGreatHA10
namespace Go.Proofs.YtagmodjadmecdaaGreat
open Go Go.RowKit Tryz

theorem assign_c : ∀ xs, AsgQ Tryz.prog xs
  | [] => fun r pb c am mb cm n sb ax bx ox cx ms rows ap gp cp up w0 h => assign_s r pb c am mb cm n sb [] ax bx ox cx ms rows ap gp cp up w0 h (fun _ _ e => by cases e)
  | x :: xs => fun r pb c am mb cm n sb ax bx ox cx ms rows ap gp cp up w0 h => assign_s r pb c am mb cm n sb (x :: xs) ax bx ox cx ms rows ap gp cp up w0 h (fun x0 xs0 e => by injection e with _ e; subst e; exact assign_c xs)
theorem Acc.geN {α : Type} {enc : α → List Value} {k : Nat} {e : TypeId} {base : Nat} {w : World} {ao : Option Addr} {g cap : Nat} {xs : List α} (h : Acc enc k e base w ao g cap xs) (hn : xs ≠ []) : base ≤ g := h.at_.elim (fun q => absurd q.2.1 hn) (fun q => q.2.1)
structure CrewM (r : Rul) (pb c : Nat) (am : Option Addr) (mb cm n B : Nat) (ms : List HM) (w : World) : Prop where
  hr : okRul r = true
  row : RowC F0 pb c r am mb cm n ms w
  hn : n ≤ 6
  hB : ∀ m ∈ ms, m.ts.length ≤ B
  hpb : 0 < pb ∧ pb ≤ w.heap.size
  hc : pb ≤ c
theorem CrewM.ext {r : Rul} {pb c : Nat} {am : Option Addr} {mb cm n B : Nat} {ms : List HM} {w w' : World} (h : CrewM r pb c am mb cm n B ms w) (u : Ext w w') : CrewM r pb c am mb cm n B ms w' := ⟨h.hr, h.row.ext u, h.hn, h.hB, ⟨h.hpb.1, Nat.le_trans h.hpb.2 u.size⟩, h.hc⟩
theorem RowC.toFA {pb c : Nat} {r : Rul} {am : Option Addr} {mb cm n sb : Nat} {ms : List HM} {w w' : World} (h : RowC F0 pb c r am mb cm n ms w) (u : Ext w w') (hs : w.heap.size ≤ sb) : RowC (FA mb pb sb) pb c r am mb cm n ms w' :=
  (h.mono (G := FA mb pb sb) fun m hm hb hf => hf.elim (fun q => (h.row.mem m hm).ht.neAcc h.row.acc (by decide) hb (q.1 ▸ q.2) q.1) (fun e => by have := (h.row.mem m hm).ht.lt; omega)).ext u
theorem CrewM.asg {r : Rul} {pb c : Nat} {am : Option Addr} {mb cm n B sb : Nat} {ms : List HM} {w w' : World} {xs : List Leg} {ax : Option Addr} {bx ox cx : Nat} (h : CrewM r pb c am mb cm n B ms w) (u : Ext w w') (hs : w.heap.size ≤ sb) (hxs : ∀ x ∈ xs, okLeg x = true) (hB : B + 3 * xs.length ≤ 90) (hl : xs.length ≤ 30) (legs : Sl encLeg 7 w ax bx ox xs) (hcx : xs.length ≤ cx) (hbx : 0 < xs.length → pb ≤ bx → bx ≠ mb ∧ ∃ t cs, t ≠ 60 ∧ Blk w bx t cs) (hsb : Blk w' sb 122 [.slice none 0 0, .int .i64 0]) :
    AsgH r pb c am mb cm n sb xs ax bx ox cx ms [] none 0 0 0 w' :=
  have hm := h.row.row.acc.lt
  have hc := h.row.blk.lt
  ⟨h.hr, hxs, fun m hm => by have := h.hB m hm; omega, legs.keep u (fun _ q => q), hcx, fun hp => ⟨fun q => q.elim (fun q => (hbx hp q.2).1 q.1) (fun e => by have := legs.lt hp; omega), fun hb => by
    obtain ⟨_, t, cs, ht, hB⟩ := hbx hp hb
    exact ⟨t, cs, ht, hB.kx u⟩⟩, hsb, ⟨Acc.nil _ _ _ _ _ h.hpb.1 (Nat.le_trans h.hpb.2 u.size), fun hb => by have := h.hpb.1; omega, fun _ q => (by cases q), fun _ q => (by cases q)⟩, h.row.toFA u hs, fun hb e => h.row.row.acc.neBlk h.row.blk (by decide) hb e.symm, by omega, Nat.le_trans h.hpb.2 hs, fun _ => by omega, h.hn, by simpa using hl, ⟨h.hpb.1, Nat.le_trans h.hpb.2 u.size⟩⟩
theorem FA.mb {mb pb sb : Nat} {w w' : World} (u : Upd (TP (FA mb pb sb) pb w) w w') {w0 : World} (u0 : Ext w0 w) (hs : w0.heap.size ≤ sb) : Upd (TP (MB mb pb) pb w0) w0 w' := (u0.to (S := TP (MB mb pb) pb w0)).next u (fun i hi q => by
  have q2 := TP.backE u0 hi q
  exact q2.elim (fun q => q.elim .inl (fun e => by omega)) .inr)
def PlanR (r : Rul) (ss : List Slr) (xs : List Leg) (plan : List (List Int)) (at_ e : Int) : Prop :=
  (openE r ss xs ≠ 0 ∧ e = openE r ss xs ∧ at_ = 0 ∧ plan = []) ∨ (openE r ss xs = 0 ∧ (asgP r xs (ss.map boardP) 0 0).1 = some plan ∧ at_ = 0 ∧ e = 0) ∨
  (openE r ss xs = 0 ∧ (asgP r xs (ss.map boardP) 0 0).1 = none ∧ at_ = ((asgP r xs (ss.map boardP) 0 0).2 : Int) ∧ e = 7 ∧ plan = [])
theorem CrewM.open {r : Rul} {c : Nat} {am : Option Addr} {mb cm : Nat} {ms : List HM} {hs : List HS} {xs : List Leg} {w0 w' : World} (h0 : openE r (hs.map HS.slr) xs = 0) (hp : 0 < w0.heap.size) (u : Ext w0 w') (hc : w0.heap.size ≤ c) (hb : Blk w' c 144 [.int .i64 r.rest, .int .i64 r.span, .int .i64 r.work, .int .i64 r.week, .int .i64 r.ww, .slice am (List.length ms) cm]) (hrow : RowM F0 w0.heap.size w' am mb cm ms) (hm : ms.map HM.mb = hs.map (fun h => boardP h.slr)) : CrewM r w0.heap.size c am mb cm ms.length 20 ms w' := by
  obtain ⟨h1, h2, h3, h4, h5⟩ := openE_ok h0
  have hl := congrArg List.length hm
  rw [List.length_map, List.length_map] at hl
  rw [List.length_map] at h2
  refine ⟨h1, ⟨hrow, hb, rfl⟩, by omega, fun m hm2 => ?_, ⟨hp, u.size⟩, hc⟩
  have q : m.mb ∈ ms.map HM.mb := List.mem_map.2 ⟨m, hm2, rfl⟩
  rw [hm] at q
  obtain ⟨h, hh, e⟩ := List.mem_map.1 q
  have h8 := (okSlr_ok (h3 _ (List.mem_map.2 ⟨h, hh, rfl⟩))).2.2.1
  have h9 := congrArg (fun m => m.ts.length) e
  simp only [boardP, HM.mb, srt_len, List.length_map] at h9
  omega
theorem own70 : Own Tryz.prog 70 := ⟨Tryz.f70, func70, by kernel_rfl, by kernel_rfl⟩
theorem own27 : Own Tryz.prog 27 := ⟨Tryz.f27, func27, by kernel_rfl, by kernel_rfl⟩

theorem safe_c (r : Rul) (pb c : Nat) (am : Option Addr) (mb cm n B : Nat) (ms : List HM) (xs : List Leg) (ax : Option Addr) (bx ox cx : Nat) (w0 : World) (hc : CrewM r pb c am mb cm n B ms w0) (hxs : ∀ x ∈ xs, okLeg x = true) (hB : B + 3 * xs.length ≤ 90) (hl : xs.length ≤ 30) (legs : Sl encLeg 7 w0 ax bx ox xs) (hcx : xs.length ≤ cx) (hbx : 0 < xs.length → pb ≤ bx → bx ≠ mb ∧ ∃ t cs, t ≠ 60 ∧ Blk w0 bx t cs) :
    CallsV Tryz.prog 70 [.pointer (some ⟨c, 0, none⟩), .slice ax xs.length cx] w0 (fun v w' => v = .bool (asgP r xs (ms.map HM.mb) 0 0).1.isSome ∧ RowC F0 pb c r am mb cm n ms w' ∧ Upd (TP (MB mb pb) pb w0) w0 w') := by
 have hpb9 := hc.hpb
 refine f_enter (N := 10) func70 rfl rfl rfl (c_seq fun K1 hK1 => (c_region (t_assign rfl rfl rfl (t_nil' (hK1 _ _ (c_seq fun K2 hK2 => (c_region (t_move rfl rfl rfl (t_build (ps := []) (v := .agg #[.slice none 0 0, .int .i64 0]) rfl rfl ⟨rfl, rfl⟩ (fun w => by kernel_rfl) (t_box (cs := [.slice none 0 0, .int .i64 0]) rfl rfl rfl rfl (fun bk3 w4 ebk3 sbk3 B5 u6 => ?_)))))))))))
 have zu6 := u6.size
 refine t_move rfl rfl rfl ?_
 have E9x : Ext w0 w4 := ((Upd.refl (fun _ => False) w0).nx u6)
 refine t_call own58 rfl rfl rfl rfl (assign_c xs r pb c am mb cm n bk3 ax bx ox cx ms [] none 0 0 0 _ (hc.asg E9x (by omega) hxs hB hl legs hcx hbx B5)) (fun v8 w9 r11 => ?_)
 obtain ⟨rfl, _, hrow2, u10⟩ := r11
 have zu10 := u10.size
 have hPq := FA.mb u10 E9x (by omega)
 refine t_assign rfl rfl rfl (t_nil' (hK2 _ _ (c_ret (f_ret1 (v := .bool ((asgP r xs (ms.map HM.mb) 0 0).1.isSome)) results70 rfl ?_))))
 exact ⟨rfl, hrow2.f0, hPq⟩

theorem Plan_c (r : Rul) (hs : List HS) (al : Option Addr) (bl ol cl : Nat) (xs : List Leg) (ax : Option Addr) (bx ox cx : Nat) (w0 : World) (hl : Sl encHS 4 w0 al bl ol hs) (hll : hs.length ≤ 1000000) (hsm : ∀ h ∈ hs, SlrM w0 h) (hxs : Sl encLeg 7 w0 ax bx ox xs) (hxl : xs.length ≤ 1000000) (hcx : xs.length ≤ cx) (hpos : 0 < w0.heap.size) :
    CallsV Tryz.prog 27 [.agg #[.int .i64 r.rest, .int .i64 r.span, .int .i64 r.work, .int .i64 r.week, .int .i64 r.ww], .slice al hs.length cl, .slice ax xs.length cx] w0 (fun v w' => (∃ ap gp cp rows at_ e, v = .tuple #[.slice ap (List.length rows) cp, .int .i64 at_, .int .i64 e] ∧ Sl encHR 1 w' ap gp 0 rows ∧ (∀ h ∈ rows, Sl encI 1 w' h.ao h.g 0 h.xs) ∧ ((rows ≠ [] → w0.heap.size ≤ gp) ∧ ∀ h ∈ rows, h.xs ≠ [] → w0.heap.size ≤ h.g) ∧ PlanR r (hs.map HS.slr) xs (rows.map HR.xs) at_ e) ∧ Ext w0 w') := by
 refine f_enter (N := 36) func27 rfl rfl rfl (c_seq fun K1 hK1 => (c_region (t_box (cs := [.int .i64 r.rest, .int .i64 r.span, .int .i64 r.work, .int .i64 r.week, .int .i64 r.ww]) rfl rfl rfl rfl (fun bk2 w3 ebk2 sbk2 B4 u5 => ?_))))
 have zu5 := u5.size
 have E6 := (Upd.refl (fun _ => False) w0).nx u5
 refine t_assign rfl rfl rfl (t_assign rfl rfl rfl (t_assign rfl rfl rfl (t_nil' (hK1 _ _ (c_seq fun K7 hK7 => (c_region (t_loadN (vs := [.int .i64 r.rest, .int .i64 r.span, .int .i64 r.work, .int .i64 r.week, .int .i64 r.ww]) isAgg23 sizeOf23 rfl rfl rfl (B4.at.sub 0 5) rfl (t_move rfl rfl rfl (t_move rfl rfl rfl (t_call own57 rfl rfl rfl rfl (open_c r hs al bl ol cl xs ax bx ox cx _ (hl.keep E6 (fun _ h => h)) hll (fun h hh => (hsm h hh).ext E6) (hxs.keep E6 (fun _ h => h)) hxl (by omega)) (fun v8 w9 r11 => ?_)))))))))))
 obtain ⟨⟨po, _, rfl, rfl, hpo⟩, u10⟩ := r11
 have zu10 := u10.size
 have E12 := E6.nx u10
 have hopw : Ext w0 w9 := E12
 have hopu : Ext w3 w9 := u10
 refine t_move rfl rfl rfl (t_extract rfl rfl rfl rfl (t_extract rfl rfl rfl rfl (t_assign rfl rfl rfl (t_assign rfl rfl rfl (t_nil' (hK7 _ _ (c_seq fun K13 hK13 => (c_seq fun K14 hK14 => (c_region (t_move rfl rfl rfl (t_cmp rfl rfl rfl rfl rfl (t_nil' (hK14 _ _ (c_condp rfl (fun g19 => ?_) (fun g19 => ?_)))))))))))))))
 ·
  refine c_seq fun K15 hK15 => (c_region (t_move rfl rfl rfl (t_assign rfl rfl rfl (t_assign rfl rfl rfl (t_assign rfl rfl rfl (t_nil' (hK15 _ _ (c_ret (f_ret3 (v1 := .slice none 0 0) (v2 := .int .i64 0) (v3 := .int .i64 (openE r (hs.map HS.slr) xs)) results27 rfl rfl rfl ?_)))))))))
  exact ⟨⟨none, 0, 0, [], _, _, rfl, Sl.nil _ _ _ _ _ _, fun _ h => (by cases h), ⟨fun h => absurd rfl h, fun _ h => (by cases h)⟩, .inl ⟨g19, rfl, rfl, rfl⟩⟩, E12⟩
 have h0 : openE r (hs.map HS.slr) xs = 0 := Decidable.not_not.1 g19
 obtain ⟨cO, am, mb, cm, ms, hpe, hcg, hcb, hrow, hmm⟩ := hpo h0
 refine c_same 9 (v := .pointer (some ⟨cO, 0, none⟩)) rfl (by rw [hpe]) ?_
 have hcr := CrewM.open h0 (by omega) hopu hcg hcb hrow hmm
 obtain ⟨_, h6, _, h8, h9⟩ := openE_ok h0
 refine c_skip (hK13 _ _ (c_seq fun K16 hK16 => (c_region (t_build (ps := []) (v := .agg #[.slice none 0 0, .int .i64 0]) rfl rfl ⟨rfl, rfl⟩ (fun w => by kernel_rfl) (t_box (cs := [.slice none 0 0, .int .i64 0]) rfl rfl rfl rfl (fun bk17 w18 ebk17 sbk17 B19 u20 => ?_))))))
 have zu20 := u20.size
 refine t_assign rfl rfl rfl (t_nil' (hK16 _ _ (c_seq fun K22 hK22 => (c_seq fun K23 hK23 => (c_region (t_move rfl rfl rfl (t_move rfl rfl rfl (t_move rfl rfl rfl ?_))))))))
 have E9x : Ext w9 w18 := ((Upd.refl (fun _ => False) w9).nx u20)
 refine t_call own58 rfl rfl rfl rfl (assign_c xs r w3.heap.size cO am mb cm ms.length bk17 ax bx ox cx ms [] none 0 0 0 _ (hcr.asg E9x (by omega) h9 (by omega) (by omega) (hxs.keep hopw (fun _ h => h)) hcx (fun hp hb => by have h7 := hxs.lt hp; omega) B19)) (fun v24 w25 r27 => ?_)
 obtain ⟨rfl, ⟨rows2, ap2, gp2, cp2, hsb2, hpl2, hno2, hso2⟩, hrow2, u26⟩ := r27
 have zu26 := u26.size
 have E28 := (E12.nx u20).next u26 (fun i hi (h : TP (FA mb w3.heap.size bk17) w3.heap.size w18 i) => show False by first | omega | assumption | exact h.elim (fun h => h.elim (fun h => by have := h.2; omega) (fun h => by omega)) (fun h => by have := h.1; omega))
 refine t_not rfl rfl rfl (t_nil' (hK23 _ _ (c_cond rfl (fun g27 => ?_) (fun g27 => ?_))))
 ·
  have hma : ms.map HM.mb = (hs.map HS.slr).map boardP := by rw [hmm, List.map_map]; rfl
  refine c_seq fun K29 hK29 => (c_drawnM follows (fun _ => False) (.look 0 (.look 1 (.look 2 (.look 3 (.look 4 (.look 5 (.look 6 .done))))))) (by kernel_rfl) fun w30 u31 => ?_)
  have zu31 := u31.size
  refine y_move rfl rfl rfl (y_nilchk rfl rfl rfl (y_field underlying122 rfl sizeOf3 (1) rfl rfl rfl rfl ?_))
  have B33 := (hsb2.kx u31)
  refine y_load isAgg3 rfl rfl rfl (B33.get rfl) (fun h => h) (y_assign rfl rfl rfl (y_assign rfl rfl rfl (y_assign rfl rfl rfl (s_nil (hK29 _ _ (c_ret (f_ret3 (v1 := .slice none 0 0) (v2 := .int .i64 ((asgP r xs (ms.map HM.mb) 0 0).2 : Int)) (v3 := .int .i64 7) results27 rfl rfl rfl ?_)))))))
  exact ⟨⟨none, 0, 0, [], _, _, rfl, Sl.nil _ _ _ _ _ _, fun _ h => (by cases h), ⟨fun h => absurd rfl h, fun _ h => (by cases h)⟩, .inr (.inr ⟨h0, by rw [← hma]; exact Option.not_isSome_iff_eq_none.1 (fun h => absurd h (by
    have h2 : (asgP r xs (ms.map HM.mb) 0 0).1.isSome = false := by simpa using g27
    intro h; rw [h] at h2; cases h2)), by rw [← hma], rfl, rfl⟩)⟩, (E28.nx u31)⟩
 have hma : ms.map HM.mb = (hs.map HS.slr).map boardP := by rw [hmm, List.map_map]; rfl
 refine c_skip (hK22 _ _ (c_seq fun K34 hK34 => (c_region (t_move rfl rfl rfl (t_nilchk rfl rfl rfl (t_field underlying122 rfl sizeOf56 (0) rfl rfl rfl rfl (t_load isAgg56 rfl rfl rfl (hsb2.get rfl) (t_assign rfl rfl rfl (t_assign rfl rfl rfl (t_assign rfl rfl rfl (t_nil' (hK34 _ _ (c_ret (f_ret3 (v1 := .slice ap2 rows2.length cp2) (v2 := .int .i64 0) (v3 := .int .i64 0) results27 rfl rfl rfl ?_))))))))))))))
 obtain ⟨p9, hp9⟩ := Option.isSome_iff_exists.1 (show (asgP r xs (ms.map HM.mb) 0 0).1.isSome = true by simpa using g27)
 have hr9 := hso2 p9 hp9
 exact ⟨⟨ap2, gp2, cp2, rows2, _, _, rfl, hpl2.acc.sl (fun _ => rfl), fun h hh => (hpl2.mem h hh).sl (fun _ => rfl), ⟨fun h => by have := hpl2.acc.geN h; omega, fun h hh hn => by have := (hpl2.mem h hh).geN hn; omega⟩, .inr (.inl ⟨h0, by rw [← hma, hp9, hr9]; rfl, rfl, rfl⟩)⟩, E28⟩

end Go.Proofs.YtagmodjadmecdaaGreat
