/-
  Part 10 of the proof: contracts and plain laws. Conditions: none.
-/
import Derived.Test.YtagmodjadmecdaaGreatJK9
namespace Go.Proofs.YtagmodjadmecdaaGreat
open Go Go.RowKit Tryz

theorem assign_c : ∀ xs, AsgQ Tryz.prog xs
  | [] => fun r pb c am mb cm n sb ax bx ox cx ms rows ap gp cp up w0 h => assign_s r pb c am mb cm n sb [] ax bx ox cx ms rows ap gp cp up w0 h (fun _ _ e => by cases e)
  | x :: xs => fun r pb c am mb cm n sb ax bx ox cx ms rows ap gp cp up w0 h => assign_s r pb c am mb cm n sb (x :: xs) ax bx ox cx ms rows ap gp cp up w0 h (fun x0 xs0 e => by injection e with _ e; subst e; exact assign_c xs)
theorem Acc.geN {α : Type} {enc : α → List Value} {k : Nat} {e : TypeId} {base : Nat} {w : World} {ao : Option Addr} {g cap : Nat} {xs : List α} (h : Acc enc k e base w ao g cap xs) (hn : xs ≠ []) : base ≤ g := h.at_.elim (fun q => absurd q.2.1 hn) (fun q => q.2.1)
structure CrewM (r : Rul) (pb c : Nat) (am : Option Addr) (mb cm n B : Nat) (ms : List HM) (w : World) : Prop where
  hr : okRul r = true
  row : RowC F0 pb c r am mb cm n ms w
  hn : n ≤ 6
  hB : ∀ m ∈ ms, m.ts.length ≤ B
  hpb : 0 < pb ∧ pb ≤ w.heap.size
  hc : pb ≤ c
theorem CrewM.ext {r : Rul} {pb c : Nat} {am : Option Addr} {mb cm n B : Nat} {ms : List HM} {w w' : World} (h : CrewM r pb c am mb cm n B ms w) (u : Ext w w') : CrewM r pb c am mb cm n B ms w' := ⟨h.hr, h.row.ext u, h.hn, h.hB, ⟨h.hpb.1, Nat.le_trans h.hpb.2 u.size⟩, h.hc⟩
theorem RowC.toFA {pb c : Nat} {r : Rul} {am : Option Addr} {mb cm n sb : Nat} {ms : List HM} {w w' : World} (h : RowC F0 pb c r am mb cm n ms w) (u : Ext w w') (hs : w.heap.size ≤ sb) : RowC (FA mb pb sb) pb c r am mb cm n ms w' :=
  (h.mono (G := FA mb pb sb) fun m hm hb hf => hf.elim (fun q => (h.row.mem m hm).ht.neAcc h.row.acc (by decide) hb (q.1 ▸ q.2) q.1) (fun e => by have := (h.row.mem m hm).ht.lt; omega)).ext u
theorem CrewM.asg {r : Rul} {pb c : Nat} {am : Option Addr} {mb cm n B sb : Nat} {ms : List HM} {w w' : World} {xs : List Leg} {ax : Option Addr} {bx ox cx : Nat} (h : CrewM r pb c am mb cm n B ms w) (u : Ext w w') (hs : w.heap.size ≤ sb) (hxs : ∀ x ∈ xs, okLeg x = true) (hB : B + 3 * xs.length ≤ 90) (hl : xs.length ≤ 30) (legs : Sl encLeg 7 w ax bx ox xs) (hcx : xs.length ≤ cx) (hbx : 0 < xs.length → pb ≤ bx → bx ≠ mb ∧ ∃ t cs, t ≠ 60 ∧ Blk w bx t cs) (hsb : Blk w' sb 122 [.slice none 0 0, .int .i64 0]) :
    AsgH r pb c am mb cm n sb xs ax bx ox cx ms [] none 0 0 0 w' :=
  have hm := h.row.row.acc.lt
  have hc := h.row.blk.lt
  ⟨h.hr, hxs, fun m hm => by have := h.hB m hm; omega, legs.keep u (fun _ q => q), hcx, fun hp => ⟨fun q => q.elim (fun q => (hbx hp q.2).1 q.1) (fun e => by have := legs.lt hp; omega), fun hb => by
    obtain ⟨_, t, cs, ht, hB⟩ := hbx hp hb
    exact ⟨t, cs, ht, hB.kx u⟩⟩, hsb, ⟨Acc.nil _ _ _ _ _ h.hpb.1 (Nat.le_trans h.hpb.2 u.size), fun hb => by have := h.hpb.1; omega, fun _ q => (by cases q), fun _ q => (by cases q)⟩, h.row.toFA u hs, fun hb e => h.row.row.acc.neBlk h.row.blk (by decide) hb e.symm, by omega, Nat.le_trans h.hpb.2 hs, fun _ => by omega, h.hn, by simpa using hl, ⟨h.hpb.1, Nat.le_trans h.hpb.2 u.size⟩⟩
theorem FA.mb {mb pb sb : Nat} {w w' : World} (u : Upd (TP (FA mb pb sb) pb w) w w') {w0 : World} (u0 : Ext w0 w) (hs : w0.heap.size ≤ sb) : Upd (TP (MB mb pb) pb w0) w0 w' := (u0.to (S := TP (MB mb pb) pb w0)).next u (fun i hi q => by
  have q2 := TP.backE u0 hi q
  exact q2.elim (fun q => q.elim .inl (fun e => by omega)) .inr)
def PlanR (r : Rul) (ss : List Slr) (xs : List Leg) (plan : List (List Int)) (at_ e : Int) : Prop :=
  (openE r ss xs ≠ 0 ∧ e = openE r ss xs ∧ at_ = 0 ∧ plan = []) ∨ (openE r ss xs = 0 ∧ (asgP r xs (ss.map boardP) 0 0).1 = some plan ∧ at_ = 0 ∧ e = 0) ∨
  (openE r ss xs = 0 ∧ (asgP r xs (ss.map boardP) 0 0).1 = none ∧ at_ = ((asgP r xs (ss.map boardP) 0 0).2 : Int) ∧ e = 7 ∧ plan = [])
theorem CrewM.open {r : Rul} {c : Nat} {am : Option Addr} {mb cm : Nat} {ms : List HM} {hs : List HS} {xs : List Leg} {w0 w' : World} (h0 : openE r (hs.map HS.slr) xs = 0) (hp : 0 < w0.heap.size) (u : Ext w0 w') (hc : w0.heap.size ≤ c) (hb : Blk w' c 144 [.int .i64 r.rest, .int .i64 r.span, .int .i64 r.work, .int .i64 r.week, .int .i64 r.ww, .slice am (List.length ms) cm]) (hrow : RowM F0 w0.heap.size w' am mb cm ms) (hm : ms.map HM.mb = hs.map (fun h => boardP h.slr)) : CrewM r w0.heap.size c am mb cm ms.length 20 ms w' := by
  obtain ⟨h1, h2, h3, h4, h5⟩ := openE_ok h0
  have hl := congrArg List.length hm
  rw [List.length_map, List.length_map] at hl
  rw [List.length_map] at h2
  refine ⟨h1, ⟨hrow, hb, rfl⟩, by omega, fun m hm2 => ?_, ⟨hp, u.size⟩, hc⟩
  have q : m.mb ∈ ms.map HM.mb := List.mem_map.2 ⟨m, hm2, rfl⟩
  rw [hm] at q
  obtain ⟨h, hh, e⟩ := List.mem_map.1 q
  have h8 := (okSlr_ok (h3 _ (List.mem_map.2 ⟨h, hh, rfl⟩))).2.2.1
  have h9 := congrArg (fun m => m.ts.length) e
  simp only [boardP, HM.mb, srt_len, List.length_map] at h9
  omega
theorem own70 : Own Tryz.prog 70 := ⟨Tryz.f70, func70, by kernel_rfl, by kernel_rfl⟩
theorem own27 : Own Tryz.prog 27 := ⟨Tryz.f27, func27, by kernel_rfl, by kernel_rfl⟩

theorem safe_c (r : Rul) (pb c : Nat) (am : Option Addr) (mb cm n B : Nat) (ms : List HM) (xs : List Leg) (ax : Option Addr) (bx ox cx : Nat) (w0 : World) (hc : CrewM r pb c am mb cm n B ms w0) (hxs : ∀ x ∈ xs, okLeg x = true) (hB : B + 3 * xs.length ≤ 90) (hl : xs.length ≤ 30) (legs : Sl encLeg 7 w0 ax bx ox xs) (hcx : xs.length ≤ cx) (hbx : 0 < xs.length → pb ≤ bx → bx ≠ mb ∧ ∃ t cs, t ≠ 60 ∧ Blk w0 bx t cs) :
    CallsV Tryz.prog 70 [.pointer (some ⟨c, 0, none⟩), .slice ax xs.length cx] w0 (fun v w' => v = .bool (asgP r xs (ms.map HM.mb) 0 0).1.isSome ∧ RowC F0 pb c r am mb cm n ms w' ∧ Upd (TP (MB mb pb) pb w0) w0 w') := by
 have hpb9 := hc.hpb
 refine f_enter (N := 10) func70 rfl rfl rfl (c_seq fun K1 hK1 => (c_region (t_assign rfl rfl rfl (t_nil' (hK1 _ _ (c_seq fun K2 hK2 => (c_region (t_move rfl rfl rfl (t_build (ps := []) (v := .agg #[.slice none 0 0, .int .i64 0]) rfl rfl ⟨rfl, rfl⟩ (fun w => by kernel_rfl) (t_box (cs := [.slice none 0 0, .int .i64 0]) rfl rfl rfl rfl (fun bk3 w4 ebk3 sbk3 B5 u6 => ?_)))))))))))
 have zu6 := u6.size
 refine t_move rfl rfl rfl ?_
 have E9x : Ext w0 w4 := ((Upd.refl (fun _ => False) w0).nx u6)
 refine t_call own58 rfl rfl rfl rfl (assign_c xs r pb c am mb cm n bk3 ax bx ox cx ms [] none 0 0 0 _ (hc.asg E9x (by omega) hxs hB hl legs hcx hbx B5)) (fun v8 w9 r11 => ?_)
 obtain ⟨rfl, _, hrow2, u10⟩ := r11
 have zu10 := u10.size
 have hPq := FA.mb u10 E9x (by omega)
 refine t_assign rfl rfl rfl (t_nil' (hK2 _ _ (c_ret (f_ret1 (v := .bool ((asgP r xs (ms.map HM.mb) 0 0).1.isSome)) results70 rfl ?_))))
 exact ⟨rfl, hrow2.f0, hPq⟩

theorem Plan_c (r : Rul) (hs : List HS) (al : Option Addr) (bl ol cl : Nat) (xs : List Leg) (ax : Option Addr) (bx ox cx : Nat) (w0 : World) (hl : Sl encHS 4 w0 al bl ol hs) (hll : hs.length ≤ 1000000) (hsm : ∀ h ∈ hs, SlrM w0 h) (hxs : Sl encLeg 7 w0 ax bx ox xs) (hxl : xs.length ≤ 1000000) (hcx : xs.length ≤ cx) (hpos : 0 < w0.heap.size) :
    CallsV Tryz.prog 27 [.agg #[.int .i64 r.rest, .int .i64 r.span, .int .i64 r.work, .int .i64 r.week, .int .i64 r.ww], .slice al hs.length cl, .slice ax xs.length cx] w0 (fun v w' => (∃ ap gp cp rows at_ e, v = .tuple #[.slice ap (List.length rows) cp, .int .i64 at_, .int .i64 e] ∧ Sl encHR 1 w' ap gp 0 rows ∧ (∀ h ∈ rows, Sl encI 1 w' h.ao h.g 0 h.xs) ∧ ((rows ≠ [] → w0.heap.size ≤ gp) ∧ ∀ h ∈ rows, h.xs ≠ [] → w0.heap.size ≤ h.g) ∧ PlanR r (hs.map HS.slr) xs (rows.map HR.xs) at_ e) ∧ Ext w0 w') := by
 refine f_enter (N := 36) func27 rfl rfl rfl (c_seq fun K1 hK1 => (c_region (t_box (cs := [.int .i64 r.rest, .int .i64 r.span, .int .i64 r.work, .int .i64 r.week, .int .i64 r.ww]) rfl rfl rfl rfl (fun bk2 w3 ebk2 sbk2 B4 u5 => ?_))))
 have zu5 := u5.size
 have E6 := (Upd.refl (fun _ => False) w0).nx u5
 refine t_assign rfl rfl rfl (t_assign rfl rfl rfl (t_assign rfl rfl rfl (t_nil' (hK1 _ _ (c_seq fun K7 hK7 => (c_region (t_loadN (vs := [.int .i64 r.rest, .int .i64 r.span, .int .i64 r.work, .int .i64 r.week, .int .i64 r.ww]) isAgg23 sizeOf23 rfl rfl rfl (B4.at.sub 0 5) rfl (t_move rfl rfl rfl (t_move rfl rfl rfl (t_call own57 rfl rfl rfl rfl (open_c r hs al bl ol cl xs ax bx ox cx _ (hl.keep E6 (fun _ h => h)) hll (fun h hh => (hsm h hh).ext E6) (hxs.keep E6 (fun _ h => h)) hxl (by omega)) (fun v8 w9 r11 => ?_)))))))))))
 obtain ⟨⟨po, _, rfl, rfl, hpo⟩, u10⟩ := r11
 have zu10 := u10.size
 have E12 := E6.nx u10
 have hopw : Ext w0 w9 := E12
 have hopu : Ext w3 w9 := u10
 refine t_move rfl rfl rfl (t_extract rfl rfl rfl rfl (t_extract rfl rfl rfl rfl (t_assign rfl rfl rfl (t_assign rfl rfl rfl (t_nil' (hK7 _ _ (c_seq fun K13 hK13 => (c_seq fun K14 hK14 => (c_region (t_move rfl rfl rfl (t_cmp rfl rfl rfl rfl rfl (t_nil' (hK14 _ _ (c_condp rfl (fun g19 => ?_) (fun g19 => ?_)))))))))))))))
 ·
  refine c_seq fun K15 hK15 => (c_region (t_move rfl rfl rfl (t_assign rfl rfl rfl (t_assign rfl rfl rfl (t_assign rfl rfl rfl (t_nil' (hK15 _ _ (c_ret (f_ret3 (v1 := .slice none 0 0) (v2 := .int .i64 0) (v3 := .int .i64 (openE r (hs.map HS.slr) xs)) results27 rfl rfl rfl ?_)))))))))
  exact ⟨⟨none, 0, 0, [], _, _, rfl, Sl.nil _ _ _ _ _ _, fun _ h => (by cases h), ⟨fun h => absurd rfl h, fun _ h => (by cases h)⟩, .inl ⟨g19, rfl, rfl, rfl⟩⟩, E12⟩
 have h0 : openE r (hs.map HS.slr) xs = 0 := Decidable.not_not.1 g19
 obtain ⟨cO, am, mb, cm, ms, hpe, hcg, hcb, hrow, hmm⟩ := hpo h0
 refine c_same 9 (v := .pointer (some ⟨cO, 0, none⟩)) rfl (by rw [hpe]) ?_
 have hcr := CrewM.open h0 (by omega) hopu hcg hcb hrow hmm
 obtain ⟨_, h6, _, h8, h9⟩ := openE_ok h0
 refine c_skip (hK13 _ _ (c_seq fun K16 hK16 => (c_region (t_build (ps := []) (v := .agg #[.slice none 0 0, .int .i64 0]) rfl rfl ⟨rfl, rfl⟩ (fun w => by kernel_rfl) (t_box (cs := [.slice none 0 0, .int .i64 0]) rfl rfl rfl rfl (fun bk17 w18 ebk17 sbk17 B19 u20 => ?_))))))
 have zu20 := u20.size
 refine t_assign rfl rfl rfl (t_nil' (hK16 _ _ (c_seq fun K22 hK22 => (c_seq fun K23 hK23 => (c_region (t_move rfl rfl rfl (t_move rfl rfl rfl (t_move rfl rfl rfl ?_))))))))
 have E9x : Ext w9 w18 := ((Upd.refl (fun _ => False) w9).nx u20)
 refine t_call own58 rfl rfl rfl rfl (assign_c xs r w3.heap.size cO am mb cm ms.length bk17 ax bx ox cx ms [] none 0 0 0 _ (hcr.asg E9x (by omega) h9 (by omega) (by omega) (hxs.keep hopw (fun _ h => h)) hcx (fun hp hb => by have h7 := hxs.lt hp; omega) B19)) (fun v24 w25 r27 => ?_)
 obtain ⟨rfl, ⟨rows2, ap2, gp2, cp2, hsb2, hpl2, hno2, hso2⟩, hrow2, u26⟩ := r27
 have zu26 := u26.size
 have E28 := (E12.nx u20).next u26 (fun i hi (h : TP (FA mb w3.heap.size bk17) w3.heap.size w18 i) => show False by first | omega | assumption | exact h.elim (fun h => h.elim (fun h => by have := h.2; omega) (fun h => by omega)) (fun h => by have := h.1; omega))
 refine t_not rfl rfl rfl (t_nil' (hK23 _ _ (c_cond rfl (fun g27 => ?_) (fun g27 => ?_))))
 ·
  have hma : ms.map HM.mb = (hs.map HS.slr).map boardP := by rw [hmm, List.map_map]; rfl
  refine c_seq fun K29 hK29 => (c_drawnM follows (fun _ => False) (.look 0 (.look 1 (.look 2 (.look 3 (.look 4 (.look 5 (.look 6 .done))))))) (by kernel_rfl) fun w30 u31 => ?_)
  have zu31 := u31.size
  refine y_move rfl rfl rfl (y_nilchk rfl rfl rfl (y_field underlying122 rfl sizeOf3 (1) rfl rfl rfl rfl ?_))
  have B33 := (hsb2.kx u31)
  refine y_load isAgg3 rfl rfl rfl (B33.get rfl) (fun h => h) (y_assign rfl rfl rfl (y_assign rfl rfl rfl (y_assign rfl rfl rfl (s_nil (hK29 _ _ (c_ret (f_ret3 (v1 := .slice none 0 0) (v2 := .int .i64 ((asgP r xs (ms.map HM.mb) 0 0).2 : Int)) (v3 := .int .i64 7) results27 rfl rfl rfl ?_)))))))
  exact ⟨⟨none, 0, 0, [], _, _, rfl, Sl.nil _ _ _ _ _ _, fun _ h => (by cases h), ⟨fun h => absurd rfl h, fun _ h => (by cases h)⟩, .inr (.inr ⟨h0, by rw [← hma]; exact Option.not_isSome_iff_eq_none.1 (fun h => absurd h (by
    have h2 : (asgP r xs (ms.map HM.mb) 0 0).1.isSome = false := by simpa using g27
    intro h; rw [h] at h2; cases h2)), by rw [← hma], rfl, rfl⟩)⟩, (E28.nx u31)⟩
 have hma : ms.map HM.mb = (hs.map HS.slr).map boardP := by rw [hmm, List.map_map]; rfl
 refine c_skip (hK22 _ _ (c_seq fun K34 hK34 => (c_region (t_move rfl rfl rfl (t_nilchk rfl rfl rfl (t_field underlying122 rfl sizeOf56 (0) rfl rfl rfl rfl (t_load isAgg56 rfl rfl rfl (hsb2.get rfl) (t_assign rfl rfl rfl (t_assign rfl rfl rfl (t_assign rfl rfl rfl (t_nil' (hK34 _ _ (c_ret (f_ret3 (v1 := .slice ap2 rows2.length cp2) (v2 := .int .i64 0) (v3 := .int .i64 0) results27 rfl rfl rfl ?_))))))))))))))
 obtain ⟨p9, hp9⟩ := Option.isSome_iff_exists.1 (show (asgP r xs (ms.map HM.mb) 0 0).1.isSome = true by simpa using g27)
 have hr9 := hso2 p9 hp9
 exact ⟨⟨ap2, gp2, cp2, rows2, _, _, rfl, hpl2.acc.sl (fun _ => rfl), fun h hh => (hpl2.mem h hh).sl (fun _ => rfl), ⟨fun h => by have := hpl2.acc.geN h; omega, fun h hh hn => by have := (hpl2.mem h hh).geN hn; omega⟩, .inr (.inl ⟨h0, by rw [← hma, hp9, hr9]; rfl, rfl, rfl⟩)⟩, E28⟩

end Go.Proofs.YtagmodjadmecdaaGreat
namespace Go.Proofs.YtagmodjadmecdaaGreat
open Go Go.RowKit
def SetI (ks : List Int) (w : World) (r : Nat) : Prop := ∃ es c, w.heap[r]? = some (.map es c) ∧ es.toList.map (fun e => (e.key, e.val)) = ks.map (fun k => (Value.int .i64 k, Value.bool true))
theorem SetI.lt {ks : List Int} {w : World} {r : Nat} (h : SetI ks w r) : r < w.heap.size := by obtain ⟨es, c, h, _⟩ := h; exact lt_of_block h
theorem SetI.keep {ks : List Int} {w : World} {r : Nat} {w' : World} {S : Nat → Prop} (h : SetI ks w r) (u : Upd S w w') (hn : ¬ S r) : SetI ks w' r := by
  obtain ⟨es, c, h1, h2⟩ := h
  exact ⟨es, c, (u.block r (lt_of_block h1) hn).trans h1, h2⟩
theorem SetI.ofMemo {w : World} {r : Nat} (h : ∀ F, Memo F w r) : SetI [] w r := by
  obtain ⟨es, c, h1, h2⟩ := h (fun _ _ _ => False)
  refine ⟨es, c, h1, ?_⟩
  cases he : es.toList with
  | nil => rfl
  | cons e l => obtain ⟨_, _, _, hf⟩ := h2 e (by rw [he]; simp); exact hf.elim
theorem SetI.notBlk {ks : List Int} {w : World} {r b : Nat} {t : TypeId} {cs : List Value} (h : SetI ks w r) (hb : Blk w b t cs) : b ≠ r := fun e => by
  obtain ⟨es, c, h1, _⟩ := h
  subst e
  have h2 : w.heap[b]? = _ := hb
  rw [h1] at h2; cases h2
theorem findNowI {a : Int} : ∀ (ks : List Int) (es : List MapEntry) (i : Nat), es.map (fun e => (e.key, e.val)) = ks.map (fun k => (Value.int .i64 k, Value.bool true)) →
    (a ∈ ks → ∃ j, Instr.findNow (.int .i64) (.int .i64 a) es i = some (some (j, .bool true))) ∧ (a ∉ ks → Instr.findNow (.int .i64) (.int .i64 a) es i = some none)
  | [], [], i, _ => ⟨fun h => by simp at h, fun _ => rfl⟩
  | [], _ :: _, _, h => by simp at h
  | _ :: _, [], _, h => by simp at h
  | k :: ks, e :: es, i, h => by
    simp only [List.map_cons, List.cons.injEq, Prod.mk.injEq] at h
    obtain ⟨⟨hk, hv⟩, h⟩ := h
    obtain ⟨h1, h2⟩ := findNowI ks es (i + 1) h
    by_cases q : a = k
    · subst q
      refine ⟨fun _ => ⟨i, ?_⟩, fun hn => absurd (by simp) hn⟩
      simp [Instr.findNow, hk, hv, Instr.sameNow]
    · have hb : (a == k) = false := by simpa using q
      have hs : Instr.sameNow (.int .i64) (.int .i64 a) e.key = some false := by rw [hk]; simp [Instr.sameNow, q]
      refine ⟨fun hm => ?_, fun hn => ?_⟩
      · obtain ⟨j, hj⟩ := h1 (by simpa [q] using hm)
        exact ⟨j, by rw [Instr.findNow, hs]; exact hj⟩
      · have := h2 (fun hm => hn (by simp [hm]))
        rw [Instr.findNow, hs]; exact this
section steps
variable {rd : Option Nat} {P : Program} {ops : Array Oper} {Q : Exit → Act → World → Prop} {N : Nat} {ds : List Deferred} {rest : List Oper} {L : Slots} {w : World}
variable {d : Nat} {ty : TypeId} {pos : String} {aft : Array Edge} {g : Option (Nat × Bool)}
theorem findKeyI {K : TypeId} {ks : List Int} {es : List MapEntry} (hK : P.underlying K = some (.int .i64)) (h : es.map (fun e => (e.key, e.val)) = ks.map (fun k => (Value.int .i64 k, Value.bool true))) (a : Int) :
    (a ∈ ks → ∃ j, ∀ w, (Instr.findKey K (.int .i64 a) es).run P w = .ok (some (j, .bool true)) w) ∧ (a ∉ ks → ∀ w, (Instr.findKey K (.int .i64 a) es).run P w = .ok none w) := by
  obtain ⟨h1, h2⟩ := findNowI (a := a) ks es 0 h
  refine ⟨fun hm => ?_, fun hn w => ?_⟩
  · obtain ⟨j, hj⟩ := h1 hm
    exact ⟨j, fun w => by simp [Instr.findKey, run_underlying hK, hj]⟩
  · simp [Instr.findKey, run_underlying hK, h2 hn]
theorem checkKeyInI {K : TypeId} (hK : P.underlying K = some (.int .i64)) (em : Bool) (n : Nat) (a : Int) (w : World) : (Instr.checkKey em (n + 1) K (.int .i64 a)).run P w = .ok () w := by
  simp [Instr.checkKey, run_underlying hK]
theorem checkKeyI {K : TypeId} (hK : P.underlying K = some (.int .i64)) (em : Bool) (a : Int) (w : World) : (Instr.checkKey em 10000 K (.int .i64 a)).run P w = .ok () w :=
  checkKeyInI hK em 9999 a w
theorem t_lookupI {T K E : TypeId} {x i : Operand} {r : Nat} {a : Int} {ks : List Int} (hK : P.underlying K = some (.int .i64)) (hu : P.underlying T = some (.map K E)) (hz : ∀ w, (zeroValue E).run P w = .ok (.bool false) w)
    (hg : grd ops L g = true) (hN : Nat.blt d N = true) (hx : ev L x = some (.map (some r))) (hi : ev L i = some (.int .i64 a)) (hm : SetI ks w r)
    (h : WL rd P ops Q N ds rest ((d, .bool (decide (a ∈ ks))) :: L) w) : WL rd P ops Q N ds (⟨some d, .lookup T x i false, ty, pos, aft, g⟩ :: rest) L w := by
  obtain ⟨es, c, h1, h2⟩ := hm
  have hgo : (getObj r).run P w = .ok (.map es c) w := by simp [getObj, Sem.run, h1]
  obtain ⟨q1, q2⟩ := findKeyI hK h2 a
  by_cases hq : a ∈ ks
  · obtain ⟨j, hj⟩ := q1 hq
    rw [decide_eq_true hq] at h
    refine WL.value hg rfl hN (fun a hk => ?_) h
    simp only [execOp, hk.ev hx, hk.ev hi]
    simp [Instr.lookup, run_underlying hu, hgo, checkKeyI hK, hj]
  · have hj := q2 hq
    rw [decide_eq_false hq] at h
    refine WL.value hg rfl hN (fun a hk => ?_) h
    simp only [execOp, hk.ev hx, hk.ev hi]
    simp [Instr.lookup, run_underlying hu, hgo, checkKeyI hK, hj, hz]
theorem t_mapnewI {T K E : TypeId} {x i y : Operand} {r : Nat} {a : Int} {ks : List Int} (hK : P.underlying K = some (.int .i64)) (hu : P.underlying T = some (.map K E))
    (hg : grd ops L g = true) (hx : ev L x = some (.map (some r))) (hi : ev L i = some (.int .i64 a)) (hy : ev L y = some (.bool true)) (hm : SetI ks w r) (hn : a ∉ ks)
    (h : ∀ w', w'.heap.size = w.heap.size → SetI (ks ++ [a]) w' r → Upd (· = r) w w' → WL rd P ops Q N ds rest L w') : WL rd P ops Q N ds (⟨none, .mapUpdate T x i y, ty, pos, aft, g⟩ :: rest) L w := by
  obtain ⟨es, c, h1, h2⟩ := hm
  have hlt := lt_of_block h1
  have hgo : (getObj r).run P w = .ok (.map es c) w := by simp [getObj, Sem.run, h1]
  have hset : ∀ o, (setObj r o).run P w = .ok () { w with heap := w.heap.setIfInBounds r o } := fun o => by simp [setObj, Sem.run, h1]
  have hq := (findKeyI hK h2 a).2 hn
  refine WL.effect (w' := { w with heap := w.heap.setIfInBounds r (.map (es.push { key := .int .i64 a, val := .bool true, born := c }) (c + 1)) }) hg rfl (fun ac hk => ?_) (h _ (by simp) ⟨_, _, by simp [hlt]; exact ⟨rfl, rfl⟩, ?_⟩ ⟨rfl, rfl, rfl, by simp, fun k hk hn => by simp [Array.getElem?_setIfInBounds_ne (show r ≠ k from fun e => hn e.symm)]⟩)
  · simp only [execOp, hk.ev hx, hk.ev hi, hk.ev hy]
    simp [Instr.mapUpdate, run_underlying hu, hgo, checkKeyI hK, hq, hset]
  · rw [Array.toList_push, List.map_append, h2, List.map_append]; rfl
end steps
end Go.Proofs.YtagmodjadmecdaaGreat
namespace Go.Proofs.YtagmodjadmecdaaGreat
open Go Go.RowKit Tryz

def giveGo (r : Rul) (x : Leg) : List Int → List Mb → List Int → Int → Option (List Mb × Int)
  | [], ms, _, pl => some (ms, pl)
  | i :: l, ms, seen, pl => if canM r x (nth ms i.toNat) = true ∧ i ∉ seen then giveGo r x l (ms.set i.toNat (aftM x (nth ms i.toNat))) (seen ++ [i]) (pl + pltI (nth ms i.toNat) x) else none
def giveP (r : Rul) (x : Leg) (l : List Int) (ms : List Mb) : Option (List Mb) := match giveGo r x l ms [] 0 with
  | some (ms', pl) => if (l.length : Int) = x.h ∧ x.p ≤ pl then some ms' else none
  | none => none
theorem nth_set' {α : Type} [Inhabited α] {l : List α} {i j : Nat} {a : α} (h : i < l.length) : nth (l.set i a) j = if j = i then a else nth l j := by
  unfold nth
  rw [List.getD_eq_getElem?_getD, List.getD_eq_getElem?_getD, List.getElem?_set]
  by_cases e : j = i
  · rw [if_pos e, if_pos e.symm, if_pos h]; rfl
  · rw [if_neg e, if_neg (fun q => e q.symm)]
theorem SetI.notAcc {ks : List Int} {w : World} {r : Nat} (h : SetI ks w r) {α : Type} {enc : α → List Value} {k : Nat} {e : TypeId} {base : Nat} {ao : Option Addr} {g cap : Nat} {xs : List α} (ha : Acc enc k e base w ao g cap xs) (hb : base ≤ g) : g ≠ r := by
  obtain ⟨cs, hB⟩ := ha.blkT hb
  exact h.notBlk hB
theorem len_mem {ms : List HM} {n B k : Nat} {nums : List Int} (hn : ms.length = n) (h : ∀ j, j < n → (nth ms j).ts.length ≤ B ∨ ((j : Int) ∈ nums.take k ∧ (nth ms j).ts.length ≤ B + 1)) : ∀ m ∈ ms, m.ts.length ≤ B + 1 := fun m hm => by
  obtain ⟨j, hj, e⟩ := List.mem_iff_getElem.1 hm
  have h1 := h j (by omega)
  rw [nth_eq hj, e] at h1
  exact h1.elim (fun h => by omega) (fun h => h.2)
theorem RowC.put {pb c : Nat} {r : Rul} {am : Option Addr} {mb cm n i : Nat} {ms : List HM} {m : HM} {w w' : World} (h : RowC F0 pb c r am mb cm n ms w) (u : Upd (MB mb pb) w w') (ha : Acc encHM 5 131 pb w' am mb cm (ms.set i m)) (hn : MbM F0 pb w m) : RowC F0 pb c r am mb cm n (ms.set i m) w' :=
  ⟨⟨ha, fun x hx => (List.mem_or_eq_of_mem_set hx).elim (fun q => (h.row.mem x q).rowT h.row.acc u) (fun q => q ▸ hn.rowT h.row.acc u)⟩, h.blk.keep u (fun q => h.row.acc.neBlk h.blk (by decide) (q.1 ▸ q.2) q.1.symm), by rw [List.length_set]; exact h.len⟩
theorem own61 : Own Tryz.prog 61 := ⟨Tryz.f61, func61, by kernel_rfl, by kernel_rfl⟩
theorem own28 : Own Tryz.prog 28 := ⟨Tryz.f28, func28, by kernel_rfl, by kernel_rfl⟩
theorem own60 : Own Tryz.prog 60 := ⟨Tryz.f60, func60, by kernel_rfl, by kernel_rfl⟩

set_option maxHeartbeats 1000000 in
theorem give_c (r : Rul) (pb c : Nat) (am : Option Addr) (mb cm n B : Nat) (ms0 : List HM) (x : Leg) (nums : List Int) (an : Option Addr) (bn on cn : Nat) (w0 : World) (hc : CrewM r pb c am mb cm n B ms0 w0) (hB9 : B ≤ 80) (hx : okLeg x = true) (hnums : Sl encI 1 w0 an bn on nums) (hnl : nums.length ≤ 1000000) (hbn : 0 < nums.length → bn < pb) (hin : ∀ i ∈ nums, 0 ≤ i ∧ i < (n : Int)) :
    CallsV Tryz.prog 61 [.pointer (some ⟨c, 0, none⟩), .agg #[.int .i64 x.r, .int .i64 x.t.bl, .int .i64 x.t.bh, .int .i64 x.t.el, .int .i64 x.t.eh, .int .i64 x.h, .int .i64 x.p], .slice an nums.length cn] w0 (fun v w' => (∃ b ms, v = .bool b ∧ RowC F0 pb c r am mb cm n ms w' ∧ (∀ m ∈ ms, m.ts.length ≤ B + 1) ∧ (b = true → giveP r x nums (ms0.map HM.mb) = some (ms.map HM.mb)) ∧ (b = false → giveP r x nums (ms0.map HM.mb) = none)) ∧ Upd (MB mb pb) w0 w') := by
 have hpb9 := hc.hpb
 have hcl := hc.row.blk.lt
 have hmb0 := hc.row.row.acc.lt
 refine f_enter (N := 69) func61 rfl rfl rfl (c_seq fun K1 hK1 => (c_region (t_box (cs := [.int .i64 x.r, .int .i64 x.t.bl, .int .i64 x.t.bh, .int .i64 x.t.el, .int .i64 x.t.eh, .int .i64 x.h, .int .i64 x.p]) rfl rfl rfl rfl (fun bk2 w3 ebk2 sbk2 B4 u5 => ?_))))
 have zu5 := u5.size
 refine t_assign rfl rfl rfl (t_nil' (hK1 _ _ (c_seq fun K7 hK7 => (c_region (t_makemap rfl rfl (fun bk8 w9 ebk8 sbk8 M10 u11 => ?_))))))
 have zu11 := u11.size
 refine t_assign rfl rfl rfl (t_assign rfl rfl rfl (t_nil' (hK7 _ _ (c_seq fun K13 hK13 => (c_seq fun K14 hK14 => (c_region (t_move rfl rfl rfl (t_len underlying60 rfl rfl rfl rfl (t_move rfl rfl rfl (t_nil' (hK14 _ _ (c_block ?_))))))))))))
 have hE0 : Ext w0 w9 := (((Upd.refl (fun _ => False) w0).nx u5).nx u11)
 refine c_loop (γ := Nat × List HM × Int) (fun gg => [(0, .pointer (some ⟨c, 0, none⟩)), (2, .slice an nums.length cn), (4, .pointer (some ⟨bk2, 0, none⟩)), (7, .int .i64 gg.2.2), (8, .map (some bk8)), (14, .slice an nums.length cn), (15, .int .i64 (nums.length : Int)), (16, .int .i64 (gg.1 : Int))]) (fun gg w => Upd (fun i => MB mb pb i ∨ i = bk8) w9 w ∧ (gg.1 ≤ nums.length) ∧ (giveGo r x nums (ms0.map HM.mb) [] 0 = giveGo r x (nums.drop gg.1) (gg.2.1.map HM.mb) (nums.take gg.1) gg.2.2) ∧ (SetI (nums.take gg.1) w bk8) ∧ (RowC F0 pb c r am mb cm n gg.2.1 w) ∧ (∀ j, j < n → (nth gg.2.1 j).ts.length ≤ B ∨ ((j : Int) ∈ nums.take gg.1 ∧ (nth gg.2.1 j).ts.length ≤ B + 1)) ∧ (0 ≤ gg.2.2 ∧ gg.2.2 ≤ gg.1)) (fun gg => nums.length - gg.1) (0, ms0, 0) ⟨rfl, rfl, rfl, rfl, rfl, rfl, rfl, rfl, trivial⟩ ⟨Upd.refl _ _, (Nat.zero_le _), rfl, (SetI.ofMemo M10), (hc.row.ext hE0), (fun j hj => .inl (hc.hB _ (nth_mem (by have := hc.row.len; omega)))), ⟨(by show (0 : Int) ≤ 0; omega), (by show (0 : Int) ≤ ((0 : Nat) : Int); omega)⟩⟩ ?_
 intro gg w16 hW K15 hK15
 obtain ⟨k, ms, pl⟩ := gg
 change WC _ _ _ _ _ _ [(0, .pointer (some ⟨c, 0, none⟩)), (2, .slice an nums.length cn), (4, .pointer (some ⟨bk2, 0, none⟩)), (7, .int .i64 pl), (8, .map (some bk8)), (14, .slice an nums.length cn), (15, .int .i64 (nums.length : Int)), (16, .int .i64 (k : Int))] _
 change Upd (fun i => MB mb pb i ∨ i = bk8) w9 w16 ∧ (k ≤ nums.length) ∧ (giveGo r x nums (ms0.map HM.mb) [] 0 = giveGo r x (nums.drop k) (ms.map HM.mb) (nums.take k) pl) ∧ (SetI (nums.take k) w16 bk8) ∧ (RowC F0 pb c r am mb cm n ms w16) ∧ (∀ j, j < n → (nth ms j).ts.length ≤ B ∨ ((j : Int) ∈ nums.take k ∧ (nth ms j).ts.length ≤ B + 1)) ∧ (0 ≤ pl ∧ pl ≤ k) at hW
 obtain ⟨u17, I18, I19, I20, I21, I22, I23⟩ := hW
 have zu17 := u17.size
 have E24 := (((Upd.refl (fun i => MB mb pb i) w0).nx u5).nx u11).next u17 (fun i hi (h : MB mb pb i ∨ i = bk8) => show MB mb pb i by first | omega | assumption)
 have hk := I18; clear I18
 have hgo := I19; clear I19
 have hset := I20; clear I20
 have hrowk := I21; clear I21
 have hlk := I22; clear I22
 have hplk := I23; clear I23
 have lt_mb := hrowk.row.acc.lt
 have hmn : ms.length = n := hrowk.len
 have hbml := hset.lt
 have hmbl := hrowk.row.acc.lt
 refine c_seq fun K25 hK25 => (c_region (t_cmp rfl rfl rfl rfl rfl (t_nil' (hK25 _ _ (c_seq fun K26 hK26 => (c_condp rfl (fun g17 => ?_) (fun g17 => ?_)))))))
 ·
  have hi9 := hin _ (nth_mem (xs := nums) (i := k) (by omega))
  have hi8 : (nth nums k).toNat < ms.length := by omega
  have hmmI : (nth ms (nth nums k).toNat) ∈ ms := nth_mem hi8
  have hmm := hrowk.row.mem _ hmmI
  have hl9 := hlk (nth nums k).toNat (by omega)
  have hl8 : (nth ms (nth nums k).toNat).ts.length ≤ B + 1 := hl9.elim (fun h => by omega) (fun h => h.2)
  have hpm := hrowk.row.pos (by omega)
  have hcm : c ≠ mb := fun e => hrowk.row.acc.neBlk hrowk.blk (by decide) hpm e.symm
  have hcI : (((nth nums k).toNat : Nat) : Int) = nth nums k := by omega
  have lt__nth_ms_nth_nums_k_toNat_gt := hmm.ht.lt
  refine c_skip (hK26 _ _ (c_seq fun K27 hK27 => (c_block (c_seq fun K28 hK28 => (c_region ?_)))))
  have D29 := (((hnums.kE u5).kE u11).keep u17 (fun h9 => by have h8 := hbn h9; have h7 := hnums.lt h9; show ¬ (MB mb pb bn ∨ bn = bk8); intro h6; omega))
  have i30 : k < nums.length := (by omega)
  refine t_index (j := k) underlying60 sizeOf3 rfl rfl rfl rfl (D29.addr (by omega)) rfl i30 (t_load isAgg3 rfl rfl rfl ((D29.at_ k (by omega)) 0 _ rfl) (t_assign rfl rfl rfl (t_nil' (hK28 _ _ (c_cut (γ := Nat × Option Addr × Nat × Nat) (fun gg => [(0, .pointer (some ⟨c, 0, none⟩)), (2, .slice an nums.length cn), (4, .pointer (some ⟨bk2, 0, none⟩)), (7, .int .i64 pl), (8, .map (some bk8)), (10, .int .i64 (nth nums k)), (11, .pointer (some ⟨gg.1, 0, none⟩)), (12, .bool (canB r (nth ms (nth nums k).toNat).f (nth ms (nth nums k).toNat).u (nth ms (nth nums k).toNat).ts x)), (14, .slice an nums.length cn), (15, .int .i64 (nums.length : Int)), (16, .int .i64 (k : Int))]) (fun gg w => Upd (fun _ => False) w16 w ∧ (Blk w gg.1 131 [.int .i64 ((nth ms (nth nums k).toNat).f), .int .i64 ((nth ms (nth nums k).toNat).u), .slice ((nth ms (nth nums k).toNat).ap) ((nth ms (nth nums k).toNat).ps.length) ((nth ms (nth nums k).toNat).cp), .slice ((nth ms (nth nums k).toNat).ad) ((nth ms (nth nums k).toNat).nd) ((nth ms (nth nums k).toNat).cd), .slice gg.2.1 ((canT (nth ms (nth nums k).toNat).f (nth ms (nth nums k).toNat).u (nth ms (nth nums k).toNat).ts x).length) gg.2.2.2]) ∧ (Acc encSp 2 109 pb w gg.2.1 gg.2.2.1 gg.2.2.2 (canT (nth ms (nth nums k).toNat).f (nth ms (nth nums k).toNat).u (nth ms (nth nums k).toNat).ts x)) ∧ (winM (nth ms (nth nums k).toNat).f (nth ms (nth nums k).toNat).u x = true → pb ≤ gg.2.2.1 → w16.heap.size ≤ gg.2.2.1) ∧ (w16.heap.size ≤ gg.1)) (fun K32 hK32 => ?_) ?_)))))
  ·
   refine c_drawnM follows (fun _ => False) (.look 0 (.look 1 (.look 2 (.look 3 (.look 4 (.look 5 (.look 6 (.look 7 (.look 8 (.look 9 (.look 10 (.look 11 (.act 12 (.look 13 (.look 14 (.look 15 (.act 16 (.act 17 (.look 18 .done) .stop) .stop)))) (.act 16 (.act 12 (.look 13 (.look 14 (.look 15 (.act 17 (.look 18 .done) .stop)))) .stop) .stop)))))))))))))) (by kernel_rfl) fun w35 u36 => ?_
   have zu36 := u36.size
   refine y_move rfl rfl rfl (y_nilchk rfl rfl rfl (y_field underlying144 rfl sizeOf100 (0) rfl rfl rfl rfl ?_))
   have B38 := (hrowk.blk.kx u36)
   refine y_loadN (vs := [.int .i64 r.rest, .int .i64 r.span, .int .i64 r.work, .int .i64 r.week, .int .i64 r.ww]) isAgg100 sizeOf100 rfl rfl rfl (B38.at.sub 0 5) rfl (fun h => h) (y_move rfl rfl rfl (y_nilchk rfl rfl rfl (y_field underlying144 rfl sizeOf142 (5) rfl rfl rfl rfl (y_load isAgg142 rfl rfl rfl (B38.get rfl) (fun h => h) (y_move rfl rfl rfl ?_)))))
   have D39 := (hrowk.row.acc.kE u36)
   have i40 : (nth nums k).toNat < ms.length := (by omega)
   refine y_index (j := (nth nums k).toNat) underlying142 sizeOf131 rfl rfl rfl rfl ((D39.sl (fun _ => rfl)).addr (by omega)) (by omega) (by omega) ?_
   have D41 := (hrowk.row.acc.kE u36)
   refine y_loadN (vs := [.int .i64 ((nth ms ((nth nums k).toNat)).f), .int .i64 ((nth ms ((nth nums k).toNat)).u), .slice ((nth ms ((nth nums k).toNat)).ap) ((nth ms ((nth nums k).toNat)).ps.length) ((nth ms ((nth nums k).toNat)).cp), .slice ((nth ms ((nth nums k).toNat)).ad) ((nth ms ((nth nums k).toNat)).nd) ((nth ms ((nth nums k).toNat)).cd), .slice ((nth ms ((nth nums k).toNat)).at_) ((nth ms ((nth nums k).toNat)).ts.length) ((nth ms ((nth nums k).toNat)).ct)]) isAgg131 sizeOf131 rfl rfl rfl (((D41.sl (fun _ => rfl)).at_ ((nth nums k).toNat) (by omega)).sub 0 5) rfl (fun h => h) ?_
   have B42 := (((B4.kx u11).keep u17 (show ¬ (MB mb pb bk2 ∨ bk2 = bk8) by first | omega | assumption)).kx u36)
   refine y_loadN (vs := [.int .i64 x.r, .int .i64 x.t.bl, .int .i64 x.t.bh, .int .i64 x.t.el, .int .i64 x.t.eh, .int .i64 x.h, .int .i64 x.p]) isAgg68 sizeOf68 rfl rfl rfl (B42.at.sub 0 7) rfl (fun h => h) (s_or ?_ ?_)
   ·
    refine s_do ?_
    have D43 := (hmm.ht.kE u36)
    refine t_call own67 rfl rfl rfl rfl (can_c r ((nth ms ((nth nums k).toNat)).f) ((nth ms ((nth nums k).toNat)).u) ((nth ms ((nth nums k).toNat)).ap) ((nth ms ((nth nums k).toNat)).ps.length) ((nth ms ((nth nums k).toNat)).cp) ((nth ms ((nth nums k).toNat)).ad) ((nth ms ((nth nums k).toNat)).nd) ((nth ms ((nth nums k).toNat)).cd) ((nth ms (nth nums k).toNat).ts) ((nth ms ((nth nums k).toNat)).at_) (nth ms (nth nums k).toNat).gt ((nth ms ((nth nums k).toNat)).ct) pb x _ D43 (by omega) hmm.srt hmm.ok hc.hr hx hpb9.1 (by omega)) (fun v45 w46 r48 => ?_)
    obtain ⟨⟨aoN44, gN44, cN44, _, rfl, rfl, haN44, hfrN44⟩, u47⟩ := r48
    have zu47 := u47.size
    have lt_gN44 := haN44.lt
    refine s_next ((Upd.refl _ _).nx u47) (y_move rfl rfl rfl (y_extract rfl rfl rfl rfl (y_extract rfl rfl rfl rfl (s_do (t_alloc (cs := [.int .i64 0, .int .i64 0, .slice none 0 0, .slice none 0 0, .slice none 0 0]) zeroValue131 rfl rfl rfl (fun bk50 w51 ebk50 sbk50 B52 u53 => ?_))))))
    have zu53 := u53.size
    refine s_next ((Upd.refl _ _).nx u53) (s_do (t_st (vs := [.int .i64 ((nth ms ((nth nums k).toNat)).f), .int .i64 ((nth ms ((nth nums k).toNat)).u), .slice ((nth ms ((nth nums k).toNat)).ap) ((nth ms ((nth nums k).toNat)).ps.length) ((nth ms ((nth nums k).toNat)).cp), .slice ((nth ms ((nth nums k).toNat)).ad) ((nth ms ((nth nums k).toNat)).nd) ((nth ms ((nth nums k).toNat)).cd), .slice aoN44 ((canT ((nth ms ((nth nums k).toNat)).f) ((nth ms ((nth nums k).toNat)).u) ((nth ms (nth nums k).toNat).ts) x).length) cN44]) sizeOf131 rfl rfl rfl B52 rfl rfl rfl rfl (fun w55 sw55 B57 u56 => ?_)))
    have zu56 := u56.size
    have B57 : Blk w55 bk50 131 [.int .i64 ((nth ms ((nth nums k).toNat)).f), .int .i64 ((nth ms ((nth nums k).toNat)).u), .slice ((nth ms ((nth nums k).toNat)).ap) ((nth ms ((nth nums k).toNat)).ps.length) ((nth ms ((nth nums k).toNat)).cp), .slice ((nth ms ((nth nums k).toNat)).ad) ((nth ms ((nth nums k).toNat)).nd) ((nth ms ((nth nums k).toNat)).cd), .slice aoN44 ((canT ((nth ms ((nth nums k).toNat)).f) ((nth ms ((nth nums k).toNat)).u) ((nth ms (nth nums k).toNat).ts) x).length) cN44] := B57
    refine s_next ((Upd.refl _ _).next u56 (fun i hi (h : i = bk50) => show w35.heap.size ≤ i ∨ (False) by first | omega | exact .inr h)) (y_assign rfl rfl rfl (s_nil ?_))
    have D59 := ((haN44.kE u53).keep u56 (fun hb => show ¬ (gN44 = bk50) by first | omega | assumption))
    exact hK32 (bk50, aoN44, gN44, cN44) _ _ ⟨rfl, rfl, rfl, rfl, rfl, rfl, rfl, rfl, rfl, rfl, rfl, trivial⟩ ⟨(((((Upd.refl _ _).nx u36).nx u47).nx u53).next u56 (fun i hi h => by omega)), B57, D59, (fun h9 h8 => by have := hfrN44 h9 h8; show w16.heap.size ≤ gN44; omega), (by show w16.heap.size ≤ bk50; omega)⟩
   refine s_do (t_alloc (cs := [.int .i64 0, .int .i64 0, .slice none 0 0, .slice none 0 0, .slice none 0 0]) zeroValue131 rfl rfl rfl (fun bk60 w61 ebk60 sbk60 B62 u63 => ?_))
   have zu63 := u63.size
   refine s_next ((Upd.refl _ _).nx u63) (s_do ?_)
   have D65 := ((hmm.ht.kE u36).kE u63)
   refine t_call own67 rfl rfl rfl rfl (can_c r ((nth ms ((nth nums k).toNat)).f) ((nth ms ((nth nums k).toNat)).u) ((nth ms ((nth nums k).toNat)).ap) ((nth ms ((nth nums k).toNat)).ps.length) ((nth ms ((nth nums k).toNat)).cp) ((nth ms ((nth nums k).toNat)).ad) ((nth ms ((nth nums k).toNat)).nd) ((nth ms ((nth nums k).toNat)).cd) ((nth ms (nth nums k).toNat).ts) ((nth ms ((nth nums k).toNat)).at_) (nth ms (nth nums k).toNat).gt ((nth ms ((nth nums k).toNat)).ct) pb x _ D65 (by omega) hmm.srt hmm.ok hc.hr hx hpb9.1 (by omega)) (fun v67 w68 r70 => ?_)
   obtain ⟨⟨aoN66, gN66, cN66, _, rfl, rfl, haN66, hfrN66⟩, u69⟩ := r70
   have zu69 := u69.size
   have lt_gN66 := haN66.lt
   have B72 := (B62.kx u69)
   have hne8 : pb ≤ gN66 → gN66 ≠ bk60 := (haN66).neBlk B72 (by decide)
   refine s_next ((Upd.refl _ _).nx u69) (y_move rfl rfl rfl (y_extract rfl rfl rfl rfl (y_extract rfl rfl rfl rfl (s_do (t_st (vs := [.int .i64 ((nth ms ((nth nums k).toNat)).f), .int .i64 ((nth ms ((nth nums k).toNat)).u), .slice ((nth ms ((nth nums k).toNat)).ap) ((nth ms ((nth nums k).toNat)).ps.length) ((nth ms ((nth nums k).toNat)).cp), .slice ((nth ms ((nth nums k).toNat)).ad) ((nth ms ((nth nums k).toNat)).nd) ((nth ms ((nth nums k).toNat)).cd), .slice aoN66 ((canT ((nth ms ((nth nums k).toNat)).f) ((nth ms ((nth nums k).toNat)).u) ((nth ms (nth nums k).toNat).ts) x).length) cN66]) sizeOf131 rfl rfl rfl B72 rfl rfl rfl rfl (fun w73 sw73 B75 u74 => ?_))))))
   have zu74 := u74.size
   have B75 : Blk w73 bk60 131 [.int .i64 ((nth ms ((nth nums k).toNat)).f), .int .i64 ((nth ms ((nth nums k).toNat)).u), .slice ((nth ms ((nth nums k).toNat)).ap) ((nth ms ((nth nums k).toNat)).ps.length) ((nth ms ((nth nums k).toNat)).cp), .slice ((nth ms ((nth nums k).toNat)).ad) ((nth ms ((nth nums k).toNat)).nd) ((nth ms ((nth nums k).toNat)).cd), .slice aoN66 ((canT ((nth ms ((nth nums k).toNat)).f) ((nth ms ((nth nums k).toNat)).u) ((nth ms (nth nums k).toNat).ts) x).length) cN66] := B75
   refine s_next ((Upd.refl _ _).next u74 (fun i hi (h : i = bk60) => show w35.heap.size ≤ i ∨ (False) by first | omega | exact .inr h)) (y_assign rfl rfl rfl (s_nil ?_))
   have D77 := (haN66.keep u74 (fun hb => show ¬ (gN66 = bk60) by first | omega | assumption))
   exact hK32 (bk60, aoN66, gN66, cN66) _ _ ⟨rfl, rfl, rfl, rfl, rfl, rfl, rfl, rfl, rfl, rfl, rfl, trivial⟩ ⟨(((((Upd.refl _ _).nx u36).nx u63).nx u69).next u74 (fun i hi h => by omega)), B75, D77, (fun h9 h8 => by have := hfrN66 h9 h8; show w16.heap.size ≤ gN66; omega), (by show w16.heap.size ≤ bk60; omega)⟩
  intro gg w33 hW
  obtain ⟨t8, ta, tg, tc⟩ := gg
  change WC _ _ _ _ _ _ [(0, .pointer (some ⟨c, 0, none⟩)), (2, .slice an nums.length cn), (4, .pointer (some ⟨bk2, 0, none⟩)), (7, .int .i64 pl), (8, .map (some bk8)), (10, .int .i64 (nth nums k)), (11, .pointer (some ⟨t8, 0, none⟩)), (12, .bool (canB r (nth ms (nth nums k).toNat).f (nth ms (nth nums k).toNat).u (nth ms (nth nums k).toNat).ts x)), (14, .slice an nums.length cn), (15, .int .i64 (nums.length : Int)), (16, .int .i64 (k : Int))] _
  change Upd (fun _ => False) w16 w33 ∧ (Blk w33 t8 131 [.int .i64 ((nth ms (nth nums k).toNat).f), .int .i64 ((nth ms (nth nums k).toNat).u), .slice ((nth ms (nth nums k).toNat).ap) ((nth ms (nth nums k).toNat).ps.length) ((nth ms (nth nums k).toNat).cp), .slice ((nth ms (nth nums k).toNat).ad) ((nth ms (nth nums k).toNat).nd) ((nth ms (nth nums k).toNat).cd), .slice ta ((canT (nth ms (nth nums k).toNat).f (nth ms (nth nums k).toNat).u (nth ms (nth nums k).toNat).ts x).length) tc]) ∧ (Acc encSp 2 109 pb w33 ta tg tc (canT (nth ms (nth nums k).toNat).f (nth ms (nth nums k).toNat).u (nth ms (nth nums k).toNat).ts x)) ∧ (winM (nth ms (nth nums k).toNat).f (nth ms (nth nums k).toNat).u x = true → pb ≤ tg → w16.heap.size ≤ tg) ∧ (w16.heap.size ≤ t8) at hW
  obtain ⟨u34, I78, I79, I80, I81⟩ := hW
  have zu34 := u34.size
  have E82 := E24.nx u34
  have ht8 := I78; clear I78
  have htn := I79; clear I79
  have hfrs0 := I80; clear I80
  have hg8 := I81; clear I81
  have lt_tg := htn.lt
  have lt8 := ht8.lt
  refine c_seq fun K83 hK83 => (c_seq fun K84 hK84 => (c_region (t_move rfl rfl rfl (t_not rfl rfl rfl (t_move rfl rfl rfl (t_split 38 rfl (fun g38 => ?_) (fun g38 => ?_)))))))
  ·
   have hmay : ¬ canM r x (nth ms (nth nums k).toNat).mb = true := by show ¬ canB r (nth ms (nth nums k).toNat).f (nth ms (nth nums k).toNat).u (nth ms (nth nums k).toNat).ts x = true; simpa using g38
   refine t_skip rfl rfl rfl (t_skip rfl rfl rfl (t_skip rfl rfl rfl (t_pick_t rfl rfl rfl rfl (t_nil' (hK84 _ _ (c_cond_t rfl (c_seq fun K85 hK85 => (c_region (t_assign rfl rfl rfl (t_nil' (hK85 _ _ (c_ret (f_ret1 (v := .bool false) results61 rfl ?_)))))))))))))
   have hgon : giveGo r x nums (ms0.map HM.mb) [] 0 = none := by rw [hgo, drop_nth (by omega), giveGo, if_neg (fun h => hmay (by rw [← nth_map' HM.mb hi8]; exact h.1))]
   exact ⟨⟨_, ms, rfl, hrowk.ext ((Upd.refl (fun _ => False) _).nx u34), len_mem hrowk.len hlk, fun h => (by cases h), fun _ => by unfold giveP; rw [hgon]⟩, E82⟩
  have hmay : canM r x (nth ms (nth nums k).toNat).mb = true := by show canB r (nth ms (nth nums k).toNat).f (nth ms (nth nums k).toNat).u (nth ms (nth nums k).toNat).ts x = true; simpa using g38
  refine t_move rfl rfl rfl (t_move rfl rfl rfl ?_)
  have D86 := (hset.keep u34 (fun h => h))
  refine t_lookupI (ks := (nums.take k)) underlying3 underlying168 zeroValue4 rfl rfl rfl rfl D86 (t_pick_f rfl rfl rfl rfl (t_nil' (hK84 _ _ (c_condp rfl (fun g42 => ?_) (fun g42 => ?_)))))
  ·
   refine c_seq fun K87 hK87 => (c_region (t_assign rfl rfl rfl (t_nil' (hK87 _ _ (c_ret (f_ret1 (v := .bool false) results61 rfl ?_))))))
   have hgon : giveGo r x nums (ms0.map HM.mb) [] 0 = none := by rw [hgo, drop_nth (by omega), giveGo, if_neg (fun h => h.2 g42)]
   exact ⟨⟨_, ms, rfl, hrowk.ext ((Upd.refl (fun _ => False) _).nx u34), len_mem hrowk.len hlk, fun h => (by cases h), fun _ => by unfold giveP; rw [hgon]⟩, E82⟩
  have hfr8 := hfrs0 (canB_win hmay)
  have hnin := g42
  have hl7 : (nth ms (nth nums k).toNat).ts.length ≤ B := hl9.resolve_right (fun h => hnin (hcI ▸ h.1))
  refine c_skip (hK83 _ _ (c_cut (γ := Int) (fun q => [(0, .pointer (some ⟨c, 0, none⟩)), (2, .slice an nums.length cn), (4, .pointer (some ⟨bk2, 0, none⟩)), (7, .int .i64 q), (8, .map (some bk8)), (10, .int .i64 (nth nums k)), (11, .pointer (some ⟨t8, 0, none⟩)), (14, .slice an nums.length cn), (15, .int .i64 (nums.length : Int)), (16, .int .i64 (k : Int))]) (fun q w => Upd (fun _ => False) w33 w ∧ (q = pl + pltI (nth ms (nth nums k).toNat).mb x)) (fun K89 hK89 => ?_) ?_))
  ·
   refine c_seq fun K92 hK92 => (c_region (t_loadN (vs := [.int .i64 ((nth ms (nth nums k).toNat).f), .int .i64 ((nth ms (nth nums k).toNat).u), .slice ((nth ms (nth nums k).toNat).ap) ((nth ms (nth nums k).toNat).ps.length) ((nth ms (nth nums k).toNat).cp), .slice ((nth ms (nth nums k).toNat).ad) ((nth ms (nth nums k).toNat).nd) ((nth ms (nth nums k).toNat).cd), .slice ta ((canT (nth ms (nth nums k).toNat).f (nth ms (nth nums k).toNat).u (nth ms (nth nums k).toNat).ts x).length) tc]) isAgg131 sizeOf131 rfl rfl rfl (ht8.at.sub 0 5) rfl ?_))
   have B93 := (((B4.kx u11).keep u17 (show ¬ (MB mb pb bk2 ∨ bk2 = bk8) by first | omega | assumption)).kx u34)
   refine t_loadN (vs := [.int .i64 x.r, .int .i64 x.t.bl, .int .i64 x.t.bh, .int .i64 x.t.el, .int .i64 x.t.eh, .int .i64 x.h, .int .i64 x.p]) isAgg68 sizeOf68 rfl rfl rfl (B93.at.sub 0 7) rfl ?_
   have D94 := (hmm.hp.kE u34)
   refine t_call own68 rfl rfl rfl rfl (pilots_c ((nth ms (nth nums k).toNat).f) ((nth ms (nth nums k).toNat).u) ((nth ms (nth nums k).toNat).ps) ((nth ms (nth nums k).toNat).ap) (nth ms (nth nums k).toNat).bp ((nth ms (nth nums k).toNat).op) ((nth ms (nth nums k).toNat).cp) ((nth ms (nth nums k).toNat).ad) ((nth ms (nth nums k).toNat).nd) ((nth ms (nth nums k).toNat).cd) ta ((canT (nth ms (nth nums k).toNat).f (nth ms (nth nums k).toNat).u (nth ms (nth nums k).toNat).ts x).length) tc x _ D94 (by have := hmm.hpl; omega)) (fun v95 w96 r98 => ?_)
   obtain ⟨rfl, u97⟩ := r98
   have zu97 := u97.size
   refine t_nil' (hK92 _ _ (c_cond rfl (fun g45 => ?_) (fun g45 => ?_)))
   ·
    refine c_region (t_move rfl rfl rfl (t_ari rfl rfl rfl rfl rfl (by omega) (t_assign rfl rfl rfl (t_nil' ?_))))
    exact hK89 (pl + 1) _ _ ⟨rfl, rfl, rfl, rfl, rfl, rfl, rfl, rfl, rfl, rfl, trivial⟩ ⟨((Upd.refl _ _).nx u97), (by show _ = pl + (if pltP (nth ms (nth nums k).toNat).ps x = true then 1 else 0); rw [if_pos g45])⟩
   refine c_skip ?_
   exact hK89 pl _ _ ⟨rfl, rfl, rfl, rfl, rfl, rfl, rfl, rfl, rfl, rfl, trivial⟩ ⟨((Upd.refl _ _).nx u97), (by show _ = pl + (if pltP (nth ms (nth nums k).toNat).ps x = true then 1 else 0); rw [if_neg (by simp [g45])]; omega)⟩
  intro q w90 hW
  obtain ⟨u91, I100⟩ := hW
  have zu91 := u91.size
  have hq := I100; clear I100
  refine c_drawnM follows (fun i => i = mb ∨ i = bk8) (.look 0 (.look 1 (.look 2 (.look 3 (.look 4 (.look 5 (.look 6 (.look 7 (.look 8 (.act 9 (.act 10 .done .stop) .stop)))))))))) (by kernel_rfl) fun w102 u103 => ?_
  have zu103 := u103.size
  refine y_move rfl rfl rfl (y_nilchk rfl rfl rfl (y_field underlying144 rfl sizeOf142 (5) rfl rfl rfl rfl ?_))
  have B105 := (((hrowk.blk.kx u34).kx u91).kx u103)
  refine y_load isAgg142 rfl rfl rfl (B105.get rfl) (by show ¬ (c = mb ∨ c = bk8); first | omega | assumption) (y_move rfl rfl rfl (y_move rfl rfl rfl (y_move rfl rfl rfl ?_)))
  have B106 := ((ht8.kx u91).kx u103)
  refine y_loadN (vs := [.int .i64 ((nth ms (nth nums k).toNat).f), .int .i64 ((nth ms (nth nums k).toNat).u), .slice ((nth ms (nth nums k).toNat).ap) ((nth ms (nth nums k).toNat).ps.length) ((nth ms (nth nums k).toNat).cp), .slice ((nth ms (nth nums k).toNat).ad) ((nth ms (nth nums k).toNat).nd) ((nth ms (nth nums k).toNat).cd), .slice ta ((canT (nth ms (nth nums k).toNat).f (nth ms (nth nums k).toNat).u (nth ms (nth nums k).toNat).ts x).length) tc]) isAgg131 sizeOf131 rfl rfl rfl (B106.at.sub 0 5) rfl (by show ¬ (t8 = mb ∨ t8 = bk8); first | omega | assumption) ?_
  have D107 := (((hrowk.row.acc.kE u34).kE u91).kE u103)
  have i108 : (nth nums k).toNat < ms.length := (by omega)
  refine y_index (j := (nth nums k).toNat) underlying142 sizeOf131 rfl rfl rfl rfl ((D107.sl (fun _ => rfl)).addr (by omega)) (by omega) (by omega) (s_do (t_storeA (vs := [.int .i64 ((nth ms (nth nums k).toNat).f), .int .i64 ((nth ms (nth nums k).toNat).u), .slice ((nth ms (nth nums k).toNat).ap) ((nth ms (nth nums k).toNat).ps.length) ((nth ms (nth nums k).toNat).cp), .slice ((nth ms (nth nums k).toNat).ad) ((nth ms (nth nums k).toNat).nd) ((nth ms (nth nums k).toNat).cd), .slice ta ((canT (nth ms (nth nums k).toNat).f (nth ms (nth nums k).toNat).u (nth ms (nth nums k).toNat).ts x).length) tc]) (j := (nth nums k).toNat) (o' := 0) (k := 5) ((nth ms (nth nums k).toNat).put x ta tg tc) (fun _ => rfl) sizeOf131 rfl rfl (by omega) rfl D107 (by first | omega | (simp only [List.length_set]; omega)) rfl rfl (by decide) (by simp [Value.oneCell']) rfl (fun w109 R111 u110 => ?_)))
  have zu110 := u110.size
  refine s_next ((Upd.refl _ _).next u110 (fun i hi (h : i = mb) => show w102.heap.size ≤ i ∨ (i = mb ∨ i = bk8) by first | omega | exact .inr h)) (s_do ?_)
  have D113 := (((D86.keep u91 (fun h => h)).keep u103 (fun h => h)).keep u110 (show ¬ (bk8 = mb) by omega))
  refine t_mapnewI (ks := (nums.take k)) underlying3 underlying168 rfl rfl rfl rfl D113 hnin (fun w114 ew114 M115 u116 => ?_)
  have zu116 := u116.size
  refine s_next ((Upd.refl _ _).next u116 (fun i hi (h : i = bk8) => show w102.heap.size ≤ i ∨ (i = mb ∨ i = bk8) by first | omega | exact .inr h)) (s_nil (hK27 _ _ (c_region (t_ari rfl rfl rfl rfl rfl (by omega) (t_move rfl rfl rfl (t_nil' ?_))))))
  have D118 := (R111.keep u116 (fun hb => show ¬ (mb = bk8) by first | omega | assumption))
  have B119 := (((((hrowk.blk.kx u34).kx u91).kx u103).keep u110 (by omega)).keep u116 (by omega))
  have uR : Upd (fun i => MB mb pb i ∨ i = bk8) w16 w114 := ((((((Upd.refl (fun i => MB mb pb i ∨ i = bk8) w16).nx u34).nx u91).nx u103).next u110 (fun i hi (h : i = mb) => show MB mb pb i ∨ i = bk8 by first | exact .inr h | exact .inl ⟨h, by omega⟩ | omega)).next u116 (fun i hi (h : i = bk8) => show MB mb pb i ∨ i = bk8 by first | exact .inr h | exact .inl ⟨h, by omega⟩ | omega))
  have hkp : ∀ m ∈ ms, MbM F0 pb w114 m := fun m hm => by
    have q := hrowk.row.mem m hm
    exact q.upd uR (fun hp h => by have h1 := q.hb hp; exact h.elim (fun h => by have h2 := h.1; have h3 := h.2; omega) (fun h => by omega)) (fun hb h => h.elim (fun h => q.ht.neAcc hrowk.row.acc (by decide) hb (h.1 ▸ h.2) h.1) (fun h => hset.notAcc q.ht hb h))
  have D120 := ((((htn.kE u91).kE u103).keep u110 (fun hb => show ¬ (tg = mb) by first | omega | assumption)).keep u116 (fun hb => show ¬ (tg = bk8) by first | omega | assumption))
  have hnewM : MbM F0 pb w114 ((nth ms (nth nums k).toNat).put x ta tg tc) := ⟨(hkp _ hmmI).hp, hmm.hb, hmm.hpl, D120, fun _ h => h, by show Srt (canT _ _ _ _); unfold canT; split <;> first | exact ins_srt hmm.srt | exact hmm.srt, by show ∀ s ∈ canT _ _ _ _, OkSp s; unfold canT; split <;> first | exact ins_ok (leg_sp hx) hmm.ok | exact hmm.ok⟩
  have hgo2 : giveGo r x nums (ms0.map HM.mb) [] 0 = giveGo r x (nums.drop (k + 1)) ((ms.set (nth nums k).toNat ((nth ms (nth nums k).toNat).put x ta tg tc)).map HM.mb) (nums.take (k + 1)) q := by rw [hgo, drop_nth (by omega), giveGo, if_pos ⟨by rw [nth_map' _ hi8]; exact hmay, hnin⟩, hq, map_put hi8, nth_map' _ hi8, take_nth (by omega)]
  have hlen2 : ∀ j, j < n → (nth (ms.set (nth nums k).toNat ((nth ms (nth nums k).toNat).put x ta tg tc)) j).ts.length ≤ B ∨ ((j : Int) ∈ nums.take (k + 1) ∧ (nth (ms.set (nth nums k).toNat ((nth ms (nth nums k).toNat).put x ta tg tc)) j).ts.length ≤ B + 1) := fun j hj => by
    rw [nth_set' hi8]
    by_cases e : j = (nth nums k).toNat
    · rw [if_pos e]; refine .inr ⟨by rw [e, hcI, take_nth (by omega)]; simp, ?_⟩
      show (canT _ _ _ _).length ≤ _; unfold canT; split <;> (try rw [ins_len]) <;> omega
    · rw [if_neg e]; exact (hlk j hj).imp id (fun h => ⟨by rw [take_nth (by omega)]; exact List.mem_append_left _ h.1, h.2⟩)
  exact hK15 (k + 1, ms.set (nth nums k).toNat ((nth ms (nth nums k).toNat).put x ta tg tc), q) _ _ (by show nums.length - (k + 1) < nums.length - k; omega) ⟨rfl, rfl, rfl, rfl, rfl, rfl, rfl, rfl, trivial⟩ ⟨(((((u17.nx u34).nx u91).nx u103).next u110 (fun i hi (h : i = mb) => show MB mb pb i ∨ i = bk8 by first | omega | assumption)).next u116 (fun i hi (h : i = bk8) => show MB mb pb i ∨ i = bk8 by first | omega | assumption)), (by omega), hgo2, (by rw [take_nth (by omega)]; exact M115), ⟨⟨D118, fun m hm => (List.mem_or_eq_of_mem_set hm).elim (hkp m) (fun q => q ▸ hnewM)⟩, B119, by rw [List.length_set]; exact hmn⟩, hlen2, (by have := pltI_rng (nth ms (nth nums k).toNat).mb x; show 0 ≤ q ∧ q ≤ ((k + 1 : Nat) : Int); omega)⟩
 refine c_exit (hK13 _ _ (c_seq fun K122 hK122 => (c_region (t_move rfl rfl rfl (t_len underlying60 rfl rfl rfl rfl (t_field underlying68 rfl sizeOf3 (5) rfl rfl rfl rfl ?_))))))
 have B123 := ((B4.kx u11).keep u17 (show ¬ (MB mb pb bk2 ∨ bk2 = bk8) by first | omega | assumption))
 refine t_load isAgg3 rfl rfl rfl (B123.get rfl) (t_cmp rfl rfl rfl rfl rfl (t_move rfl rfl rfl (t_splitp 63 rfl (fun g63 => ?_) (fun g63 => ?_))))
 ·
  refine t_move rfl rfl rfl (t_field underlying68 rfl sizeOf3 (6) rfl rfl rfl rfl (t_load isAgg3 rfl rfl rfl (B123.get rfl) (t_cmp rfl rfl rfl rfl rfl (t_pick_t rfl rfl rfl rfl (t_assign rfl rfl rfl (t_nil' (hK122 _ _ (c_ret (f_ret1 (v := .bool (decide (x.p ≤ pl))) results61 rfl ?_)))))))))
  have hgoe : giveGo r x nums (ms0.map HM.mb) [] 0 = some (ms.map HM.mb, pl) := by rw [hgo, List.drop_of_length_le (by omega), giveGo]
  exact ⟨⟨_, ms, rfl, hrowk.ext (Upd.refl (fun _ => False) _), len_mem hrowk.len hlk, fun h => by
    have h2 := of_decide_eq_true h
    unfold giveP; rw [hgoe]; exact if_pos ⟨by omega, by omega⟩, fun h => by
    have h2 := of_decide_eq_false h
    unfold giveP; rw [hgoe]; exact if_neg (fun h3 => h2 (by omega))⟩, E24⟩
 refine t_skip rfl rfl rfl (t_skip rfl rfl rfl (t_skip rfl rfl rfl (t_skip rfl rfl rfl (t_pick_f rfl rfl rfl rfl (t_assign rfl rfl rfl (t_nil' (hK122 _ _ (c_ret (f_ret1 (v := .bool false) results61 rfl ?_)))))))))
 have hgoe : giveGo r x nums (ms0.map HM.mb) [] 0 = some (ms.map HM.mb, pl) := by rw [hgo, List.drop_of_length_le (by omega), giveGo]
 exact ⟨⟨_, ms, rfl, hrowk.ext (Upd.refl (fun _ => False) _), len_mem hrowk.len hlk, fun h => (by cases h), fun _ => by unfold giveP; rw [hgoe]; exact if_neg (fun h3 => g63 (by omega))⟩, E24⟩


structure HL where
  xs : List Int
  ao : Option Addr
  b : Nat
  o : Nat
  cap : Nat
instance : Inhabited HL := ⟨⟨default, default, default, default, default⟩⟩
def encHL (h : HL) : List Value := [.slice h.ao h.xs.length h.cap]
def badRow (n : Nat) (l : List Int) : Bool := !decide (∀ i ∈ l, 0 ≤ i ∧ i ≤ (n : Int) - 1)
def verGo (r : Rul) : List Leg → List (List Int) → List Mb → Nat → Int
  | x :: xs, l :: ls, ms, k => match giveP r x l ms with
    | some ms' => verGo r xs ls ms' (k + 1)
    | none => k
  | _, _, _, _ => -1
def VerR (r : Rul) (ss : List Slr) (xs : List Leg) (plan : List (List Int)) (v e : Int) : Prop :=
  (openE r ss xs ≠ 0 ∧ e = openE r ss xs ∧ v = 0) ∨ (openE r ss xs = 0 ∧ plan.length ≠ xs.length ∧ v = 0 ∧ e = 4) ∨ (openE r ss xs = 0 ∧ plan.length = xs.length ∧ (plan.any (badRow ss.length)) = true ∧ v = 0 ∧ e = 2) ∨
  (openE r ss xs = 0 ∧ plan.length = xs.length ∧ (plan.any (badRow ss.length)) = false ∧ e = 0 ∧ v = verGo r xs plan (ss.map boardP) 0)
theorem any_hl {rows : List HL} {n : Nat} : (rows.any fun h => badRow n h.xs) = (rows.map HL.xs).any (badRow n) := by rw [List.any_map]; rfl

theorem own91 : Own Tryz.prog 91 := ⟨Tryz.f91, func91, by kernel_rfl, by kernel_rfl⟩
theorem own59 : Own Tryz.prog 59 := ⟨Tryz.f59, func59, by kernel_rfl, by kernel_rfl⟩

theorem indexR_c (p : HL → Bool) (fv : FuncId) (caps : List Value) (xs : List HL) (ao : Option Addr) (b o cap : Nat) (w0 : World) (ho : Own Tryz.prog fv) (hp : ∀ x ∈ xs, ∀ w, Ext w0 w → CallsV Tryz.prog fv ([.slice x.ao x.xs.length x.cap] ++ caps) w fun v w' => v = .bool (p x) ∧ Ext w w') (hs : Sl encHL 1 w0 ao b o xs) (hl : xs.length ≤ 1000000) :
    CallsV Tryz.prog 91 [.slice ao xs.length cap, .func (.func fv) #[] (caps).toArray] w0 (fun v w' => (∃ n : Int, v = .int .i64 n ∧ decide (0 ≤ n) = xs.any p) ∧ Ext w0 w') := by
 refine f_enter (N := 19) func91 rfl rfl rfl (c_seq fun K1 hK1 => (c_region (t_assign rfl rfl rfl (t_nil' (hK1 _ _ (c_seq fun K2 hK2 => (c_seq fun K3 hK3 => (c_region (t_move rfl rfl rfl (t_len underlying56 rfl rfl rfl rfl (t_move rfl rfl rfl (t_nil' (hK3 _ _ (c_block (c_loop (γ := Nat) (fun k => [(0, .slice ao xs.length cap), (1, .func (.func fv) #[] (caps).toArray), (7, .int .i64 (xs.length : Int)), (8, .int .i64 (k : Int))]) (fun k w => Upd (fun _ => False) w0 w ∧ (k ≤ xs.length) ∧ ((xs.take k).any p = false)) (fun k => xs.length - k) 0 ⟨rfl, rfl, rfl, rfl, trivial⟩ ⟨Upd.refl _ _, Nat.zero_le _, (by simp)⟩ ?_)))))))))))))))
 intro k w5 hW K4 hK4
 obtain ⟨u6, I7, I8⟩ := hW
 have zu6 := u6.size
 have E9 := (Upd.refl (fun _ => False) w0).nx u6
 have hle := I7; clear I7
 have hnot := I8; clear I8
 refine c_seq fun K10 hK10 => (c_region (t_cmp rfl rfl rfl rfl rfl (t_nil' (hK10 _ _ (c_seq fun K11 hK11 => (c_condp rfl (fun g9 => ?_) (fun g9 => ?_)))))))
 ·
  refine c_skip (hK11 _ _ (c_seq fun K12 hK12 => (c_block (c_seq fun K13 hK13 => (c_region (t_move rfl rfl rfl (t_assign rfl rfl rfl (t_nil' (hK13 _ _ (c_seq fun K14 hK14 => (c_region (t_move rfl rfl rfl (t_move rfl rfl rfl (t_move rfl rfl rfl ?_))))))))))))))
  have i15 : k < xs.length := (by omega)
  refine t_index (j := k) underlying56 sizeOf60 rfl rfl rfl rfl ((hs.keep E9 (fun _ h => h)).addr (by omega)) rfl i15 (t_load isAgg60 rfl rfl rfl (((hs.keep E9 (fun _ h => h)).at_ k (by omega)) 0 _ rfl) (t_call (fs := []) (cs := caps) ho rfl rfl rfl rfl (hp (nth xs k) (nth_mem (by omega)) _ E9) (fun v16 w17 r19 => ?_)))
  obtain ⟨rfl, u18⟩ := r19
  have zu18 := u18.size
  refine t_nil' (hK14 _ _ (c_cond rfl (fun g16 => ?_) (fun g16 => ?_)))
  ·
   refine c_seq fun K21 hK21 => (c_region (t_move rfl rfl rfl (t_assign rfl rfl rfl (t_nil' (hK21 _ _ (c_ret (f_ret1 (v := .int .i64 (k : Int)) results91 rfl ?_)))))))
   exact ⟨⟨_, rfl, any_hit (by omega) g16⟩, (E9.nx u18)⟩
  refine c_skip (hK12 _ _ (c_region (t_ari rfl rfl rfl rfl rfl (by omega) (t_move rfl rfl rfl (t_nil' ?_)))))
  exact hK4 (k + 1) _ _ (by omega) ⟨rfl, rfl, rfl, rfl, trivial⟩ ⟨(u6.nx u18), (by omega), (any_snoc (by omega) hnot g16)⟩
 refine c_exit (hK2 _ _ (c_seq fun K22 hK22 => (c_region (t_assign rfl rfl rfl (t_nil' (hK22 _ _ (c_ret (f_ret1 (v := .int .i64 (-1)) results91 rfl ?_))))))))
 exact ⟨⟨_, rfl, any_none (by omega) hnot⟩, E9⟩

theorem containsR_c (p : HL → Bool) (fv : FuncId) (caps : List Value) (xs : List HL) (ao : Option Addr) (b o cap : Nat) (w0 : World) (ho : Own Tryz.prog fv) (hp : ∀ x ∈ xs, ∀ w, Ext w0 w → CallsV Tryz.prog fv ([.slice x.ao x.xs.length x.cap] ++ caps) w fun v w' => v = .bool (p x) ∧ Ext w w') (hs : Sl encHL 1 w0 ao b o xs) (hl : xs.length ≤ 1000000) :
    CallsV Tryz.prog 59 [.slice ao xs.length cap, .func (.func fv) #[] (caps).toArray] w0 (fun v w' => v = .bool (xs.any p) ∧ Ext w0 w') := by
 refine f_enter (N := 9) func59 rfl rfl rfl (c_seq fun K1 hK1 => (c_region (t_assign rfl rfl rfl (t_nil' (hK1 _ _ (c_seq fun K2 hK2 => (c_region (t_move rfl rfl rfl (t_move rfl rfl rfl (t_call own91 rfl rfl rfl rfl (indexR_c p fv caps xs ao b o cap _ ho hp hs hl) (fun v3 w4 r6 => ?_)))))))))))
 obtain ⟨⟨n, rfl, hn⟩, u5⟩ := r6
 have zu5 := u5.size
 refine t_cmp rfl rfl rfl rfl rfl (t_assign rfl rfl rfl (t_nil' (hK2 _ _ (c_ret (f_ret1 (v := .bool (decide (0 ≤ n))) results59 rfl ?_)))))
 exact ⟨by rw [hn], ((Upd.refl (fun _ => False) w0).nx u5)⟩

theorem badRow_c (l : List Int) (ao : Option Addr) (b o cap : Nat) (as_ : Option Addr) (n cs bs : Nat) (w0 : World) (hs : Sl encI 1 w0 ao b o l) (hl : l.length ≤ 1000000) (hb : Blk w0 bs 54 [.slice as_ n cs]) (hn : n ≤ 1000000) :
    CallsV Tryz.prog 60 [.slice ao l.length cap, .pointer (some ⟨bs, 0, none⟩)] w0 (fun v w' => v = .bool (badRow n l) ∧ Ext w0 w') := by
 refine f_enter (N := 10) func60 rfl rfl rfl (c_seq fun K1 hK1 => (c_region (t_assign rfl rfl rfl (t_nil' (hK1 _ _ (c_seq fun K2 hK2 => (c_region (t_load isAgg54 rfl rfl rfl (hb.get rfl) (t_len underlying54 rfl rfl rfl rfl (t_ari rfl rfl rfl rfl rfl (by omega) (t_move rfl rfl rfl (t_call own43 rfl rfl rfl rfl (within_c 0 ((n : Int) - 1) l ao b o cap _ hs hl) (fun v3 w4 r6 => ?_)))))))))))))
 obtain ⟨rfl, u5⟩ := r6
 have zu5 := u5.size
 refine t_not rfl rfl rfl (t_assign rfl rfl rfl (t_nil' (hK2 _ _ (c_ret (f_ret1 (v := .bool (!(decide (∀ i ∈ l, 0 ≤ i ∧ i ≤ (n : Int) - 1)))) results60 rfl ?_)))))
 exact ⟨rfl, ((Upd.refl (fun _ => False) w0).nx u5)⟩

set_option maxHeartbeats 1000000 in
theorem Verify_c (r : Rul) (hs : List HS) (al : Option Addr) (bl ol cl : Nat) (xs : List Leg) (ax : Option Addr) (bx ox cx : Nat) (rows : List HL) (ar : Option Addr) (br or_ cr : Nat) (w0 : World) (hl : Sl encHS 4 w0 al bl ol hs) (hll : hs.length ≤ 1000000) (hsm : ∀ h ∈ hs, SlrM w0 h) (hxs : Sl encLeg 7 w0 ax bx ox xs) (hxl : xs.length ≤ 1000000) (hr9 : Sl encHL 1 w0 ar br or_ rows) (hrl9 : rows.length ≤ 1000000) (hrm : ∀ h ∈ rows, Sl encI 1 w0 h.ao h.b h.o h.xs ∧ h.xs.length ≤ 1000000) (hpos : 0 < w0.heap.size) :
    CallsV Tryz.prog 28 [.agg #[.int .i64 r.rest, .int .i64 r.span, .int .i64 r.work, .int .i64 r.week, .int .i64 r.ww], .slice al hs.length cl, .slice ax xs.length cx, .slice ar rows.length cr] w0 (fun v w' => (∃ v9 e, v = .tuple #[.int .i64 v9, .int .i64 e] ∧ VerR r (hs.map HS.slr) xs (rows.map HL.xs) v9 e) ∧ Ext w0 w') := by
 refine f_enter (N := 52) func28 rfl rfl rfl (c_seq fun K1 hK1 => (c_region (t_box (cs := [.int .i64 r.rest, .int .i64 r.span, .int .i64 r.work, .int .i64 r.week, .int .i64 r.ww]) rfl rfl rfl rfl (fun bk2 w3 ebk2 sbk2 B4 u5 => ?_))))
 have zu5 := u5.size
 refine t_box (cs := [.slice al hs.length cl]) rfl rfl rfl rfl (fun bk7 w8 ebk7 sbk7 B9 u10 => ?_)
 have zu10 := u10.size
 have E11 := ((Upd.refl (fun _ => False) w0).nx u5).nx u10
 refine t_assign rfl rfl rfl (t_assign rfl rfl rfl (t_nil' (hK1 _ _ (c_seq fun K12 hK12 => (c_region ?_)))))
 have B13 := (B4.kx u10)
 refine t_loadN (vs := [.int .i64 r.rest, .int .i64 r.span, .int .i64 r.work, .int .i64 r.week, .int .i64 r.ww]) isAgg23 sizeOf23 rfl rfl rfl (B13.at.sub 0 5) rfl (t_load isAgg54 rfl rfl rfl (B9.get rfl) (t_move rfl rfl rfl (t_call own57 rfl rfl rfl rfl (open_c r hs al bl ol cl xs ax bx ox cx _ (hl.keep E11 (fun _ h => h)) hll (fun h hh => (hsm h hh).ext E11) (hxs.keep E11 (fun _ h => h)) hxl (by omega)) (fun v14 w15 r17 => ?_))))
 obtain ⟨⟨po, _, rfl, rfl, hpo⟩, u16⟩ := r17
 have zu16 := u16.size
 have E18 := E11.nx u16
 have hopw : Ext w0 w15 := E18
 have hopu : Ext w8 w15 := u16
 refine t_move rfl rfl rfl (t_extract rfl rfl rfl rfl (t_extract rfl rfl rfl rfl (t_assign rfl rfl rfl (t_assign rfl rfl rfl (t_nil' (hK12 _ _ (c_seq fun K19 hK19 => (c_block (c_seq fun K20 hK20 => (c_region (t_move rfl rfl rfl (t_cmp rfl rfl rfl rfl rfl (t_assign rfl rfl rfl (t_nil' (hK20 _ _ (c_condp rfl (fun g21 => ?_) (fun g21 => ?_)))))))))))))))))
 ·
  refine c_seq fun K21 hK21 => (c_region (t_move rfl rfl rfl (t_assign rfl rfl rfl (t_assign rfl rfl rfl (t_nil' (hK21 _ _ (c_ret (f_ret2 (v1 := .int .i64 0) (v2 := .int .i64 (openE r (hs.map HS.slr) xs)) results28 rfl rfl ?_))))))))
  exact ⟨⟨0, _, rfl, .inl ⟨g21, rfl, rfl⟩⟩, E18⟩
 have h0 : openE r (hs.map HS.slr) xs = 0 := Decidable.not_not.1 g21
 obtain ⟨cO, am, mb, cm, ms0, hpe, hcg, hcb, hrow, hmm⟩ := hpo h0
 refine c_same 10 (v := .pointer (some ⟨cO, 0, none⟩)) rfl (by rw [hpe]) ?_
 have hcr := CrewM.open h0 (by omega) hopu hcg hcb hrow hmm
 obtain ⟨_, h6, _, h8, h9⟩ := openE_ok h0
 have hma : ms0.map HM.mb = (hs.map HS.slr).map boardP := by rw [hmm, List.map_map]; rfl
 have hnl : ms0.length = hs.length := by have := congrArg List.length hmm; simpa using this
 refine c_seq fun K22 hK22 => (c_region (t_move rfl rfl rfl (t_len underlying56 rfl rfl rfl rfl (t_move rfl rfl rfl (t_len underlying55 rfl rfl rfl rfl (t_cmp rfl rfl rfl rfl rfl (t_assign rfl rfl rfl (t_nil' (hK22 _ _ (c_condp rfl (fun g25 => ?_) (fun g25 => ?_)))))))))))
 ·
  refine c_seq fun K23 hK23 => (c_region (t_assign rfl rfl rfl (t_assign rfl rfl rfl (t_nil' (hK23 _ _ (c_ret (f_ret2 (v1 := .int .i64 0) (v2 := .int .i64 4) results28 rfl rfl ?_)))))))
  exact ⟨⟨0, 4, rfl, .inr (.inl ⟨h0, by rw [List.length_map]; omega, rfl, rfl⟩)⟩, E18⟩
 have hpl : rows.length = xs.length := by omega
 refine c_seq fun K24 hK24 => (c_region (t_move rfl rfl rfl (t_mkfunc (vs := []) (us := [.pointer (some ⟨bk7, 0, none⟩)]) rfl rfl rfl rfl ?_)))
 have B25 := (B9.kx u16)
 refine t_call own59 rfl rfl rfl rfl (containsR_c (fun h => badRow hs.length h.xs) 60 [.pointer (some ⟨bk7, 0, none⟩)] rows ar br or_ cr _ own60 (fun h hh w u => badRow_c h.xs h.ao h.b h.o h.cap al hs.length cl bk7 w ((hrm h hh).1.keep (E18.trans u) (fun _ h => h)) (hrm h hh).2 (B25.kx u) hll) (hr9.keep E18 (fun _ h => h)) hrl9) (fun v26 w27 r29 => ?_)
 obtain ⟨rfl, u28⟩ := r29
 have zu28 := u28.size
 have E30 := E18.nx u28
 refine t_assign rfl rfl rfl (t_nil' (hK24 _ _ (c_cond rfl (fun g31 => ?_) (fun g31 => ?_))))
 ·
  refine c_seq fun K31 hK31 => (c_region (t_assign rfl rfl rfl (t_assign rfl rfl rfl (t_nil' (hK31 _ _ (c_ret (f_ret2 (v1 := .int .i64 0) (v2 := .int .i64 2) results28 rfl rfl ?_)))))))
  exact ⟨⟨0, 2, rfl, .inr (.inr (.inl ⟨h0, by rw [List.length_map]; omega, by rw [← any_hl, List.length_map, g31], rfl, rfl⟩))⟩, E30⟩
 have hany : ((rows.map HL.xs).any (badRow hs.length)) = false := by rw [← any_hl, g31]
 refine c_skip (hK19 _ _ (c_seq fun K32 hK32 => (c_seq fun K33 hK33 => (c_region (t_move rfl rfl rfl (t_len underlying55 rfl rfl rfl rfl (t_move rfl rfl rfl (t_nil' (hK33 _ _ (c_block (c_loop (γ := Nat × List HM) (fun gg => [(3, .slice ar rows.length cr), (10, .pointer (some ⟨cO, 0, none⟩)), (35, .slice ax xs.length cx), (36, .int .i64 (xs.length : Int)), (37, .int .i64 (gg.1 : Int))]) (fun gg w => Upd (fun i => MB mb w8.heap.size i) w27 w ∧ (gg.1 ≤ xs.length) ∧ (CrewM r w8.heap.size cO am mb cm ms0.length (20 + gg.1) gg.2 w) ∧ (verGo r xs (rows.map HL.xs) (ms0.map HM.mb) 0 = verGo r (xs.drop gg.1) ((rows.map HL.xs).drop gg.1) (gg.2.map HM.mb) gg.1)) (fun gg => xs.length - gg.1) (0, ms0) ⟨rfl, rfl, rfl, rfl, rfl, trivial⟩ ⟨Upd.refl _ _, (Nat.zero_le _), (hcr.ext ((Upd.refl (fun _ => False) _).nx u28)), rfl⟩ ?_)))))))))))
 intro gg w35 hW K34 hK34
 obtain ⟨k, ms⟩ := gg
 change WC _ _ _ _ _ _ [(3, .slice ar rows.length cr), (10, .pointer (some ⟨cO, 0, none⟩)), (35, .slice ax xs.length cx), (36, .int .i64 (xs.length : Int)), (37, .int .i64 (k : Int))] _
 change Upd (fun i => MB mb w8.heap.size i) w27 w35 ∧ (k ≤ xs.length) ∧ (CrewM r w8.heap.size cO am mb cm ms0.length (20 + k) ms w35) ∧ (verGo r xs (rows.map HL.xs) (ms0.map HM.mb) 0 = verGo r (xs.drop k) ((rows.map HL.xs).drop k) (ms.map HM.mb) k) at hW
 obtain ⟨u36, I37, I38, I39⟩ := hW
 have zu36 := u36.size
 have E40 := E30.next u36 (fun i hi (h : MB mb w8.heap.size i) => show False by first | omega | assumption)
 have hk := I37; clear I37
 have hcw := I38; clear I38
 have hvg := I39; clear I39
 have lmb := hcw.row.row.acc.lt
 refine c_seq fun K41 hK41 => (c_region (t_cmp rfl rfl rfl rfl rfl (t_nil' (hK41 _ _ (c_seq fun K42 hK42 => (c_condp rfl (fun g38 => ?_) (fun g38 => ?_)))))))
 ·
  have hbr := hr9.lt (show 0 < rows.length by omega)
  have hxk := h9 _ (nth_mem (xs := xs) (i := k) (by omega))
  have hrk := hrm (nth rows k) (nth_mem (by omega))
  have hin9 : ∀ i ∈ (nth rows k).xs, 0 ≤ i ∧ i < (ms0.length : Int) := fun i hi => by
    have q := List.any_eq_false.1 hany (nth rows k).xs (List.mem_map.2 ⟨_, nth_mem (by omega), rfl⟩)
    have q2 : decide (∀ i ∈ (nth rows k).xs, 0 ≤ i ∧ i ≤ (hs.length : Int) - 1) = true := by simpa [badRow] using q
    have := of_decide_eq_true q2 i hi; omega
  refine c_skip (hK42 _ _ (c_seq fun K43 hK43 => (c_block (c_seq fun K44 hK44 => (c_region (t_move rfl rfl rfl ?_))))))
  have i45 : k < xs.length := (by omega)
  refine t_index (j := k) underlying55 sizeOf68 rfl rfl rfl rfl ((hxs.keep E40 (fun _ h => h)).addr (by omega)) rfl i45 (t_loadN (vs := [.int .i64 ((nth xs k).r), .int .i64 ((nth xs k).t.bl), .int .i64 ((nth xs k).t.bh), .int .i64 ((nth xs k).t.el), .int .i64 ((nth xs k).t.eh), .int .i64 ((nth xs k).h), .int .i64 ((nth xs k).p)]) isAgg68 sizeOf68 rfl rfl rfl (((hxs.keep E40 (fun _ h => h)).at_ k (by omega)).sub 0 7) rfl (t_alloc (cs := [.int .i64 0, .int .i64 0, .int .i64 0, .int .i64 0, .int .i64 0, .int .i64 0, .int .i64 0]) zeroValue68 rfl rfl rfl (fun bk46 w47 ebk46 sbk46 B48 u49 => ?_)))
  have zu49 := u49.size
  refine t_assign rfl rfl rfl (t_st (vs := [.int .i64 ((nth xs k).r), .int .i64 ((nth xs k).t.bl), .int .i64 ((nth xs k).t.bh), .int .i64 ((nth xs k).t.el), .int .i64 ((nth xs k).t.eh), .int .i64 ((nth xs k).h), .int .i64 ((nth xs k).p)]) sizeOf68 rfl rfl rfl B48 rfl rfl rfl rfl (fun w51 sw51 B53 u52 => ?_))
  have zu52 := u52.size
  have B53 : Blk w51 bk46 68 [.int .i64 ((nth xs k).r), .int .i64 ((nth xs k).t.bl), .int .i64 ((nth xs k).t.bh), .int .i64 ((nth xs k).t.el), .int .i64 ((nth xs k).t.eh), .int .i64 ((nth xs k).h), .int .i64 ((nth xs k).p)] := B53
  refine t_nil' (hK44 _ _ (c_seq fun K55 hK55 => (c_drawnM follows (fun i => MB mb w8.heap.size i) (.look 0 (.look 1 (.look 2 (.look 3 (.look 4 (.look 5 (.act 6 (.look 7 .done) .stop))))))) (by kernel_rfl) fun w56 u57 => ?_)))
  have zu57 := u57.size
  have E58 := ((E40.nx u49).next u52 (fun i hi h => by omega)).nx u57
  refine y_move rfl rfl rfl ?_
  have B59 := (B53.kx u57)
  refine y_loadN (vs := [.int .i64 ((nth xs k).r), .int .i64 ((nth xs k).t.bl), .int .i64 ((nth xs k).t.bh), .int .i64 ((nth xs k).t.el), .int .i64 ((nth xs k).t.eh), .int .i64 ((nth xs k).h), .int .i64 ((nth xs k).p)]) isAgg68 sizeOf68 rfl rfl rfl (B59.at.sub 0 7) rfl (by show ¬ (MB mb w8.heap.size bk46); first | omega | assumption) (y_move rfl rfl rfl (y_move rfl rfl rfl ?_))
  have i60 : k < rows.length := (by omega)
  refine y_index (j := k) underlying56 sizeOf60 rfl rfl rfl rfl ((hr9.keep E58 (fun _ h => h)).addr (by omega)) rfl i60 (y_load isAgg60 rfl rfl rfl (((hr9.keep E58 (fun _ h => h)).at_ k (by omega)) 0 _ rfl) (by show ¬ (MB mb w8.heap.size br); first | omega | assumption) (s_do (t_call own61 rfl rfl rfl rfl (give_c r w8.heap.size cO am mb cm ms0.length (20 + k) ms (nth xs k) (nth rows k).xs (nth rows k).ao (nth rows k).b (nth rows k).o (nth rows k).cap _ (hcw.ext ((((Upd.refl (fun _ => False) _).nx u49).next u52 (fun i hi h => by omega)).nx u57)) (by omega) hxk ((hrm (nth rows k) (nth_mem (by omega))).1.keep E58 (fun _ h => h)) hrk.2 (fun hp => by have := hrk.1.lt hp; omega) hin9) (fun v61 w62 r64 => ?_))))
  obtain ⟨⟨bG, msG, rfl, hrowG, hlG, hgT, hgF⟩, u63⟩ := r64
  have zu63 := u63.size
  refine s_next ((Upd.refl _ _).next u63 (fun i hi (h : MB mb w8.heap.size i) => show w56.heap.size ≤ i ∨ (MB mb w8.heap.size i) by first | omega | exact .inr h)) (y_not rfl rfl rfl (s_nil (hK55 _ _ (c_cond rfl (fun g49 => ?_) (fun g49 => ?_)))))
  ·
   refine c_seq fun K66 hK66 => (c_region (t_move rfl rfl rfl (t_assign rfl rfl rfl (t_assign rfl rfl rfl (t_nil' (hK66 _ _ (c_ret (f_ret2 (v1 := .int .i64 (k : Int)) (v2 := .int .i64 0) results28 rfl rfl ?_))))))))
   exact ⟨⟨_, 0, rfl, .inr (.inr (.inr ⟨h0, by rw [List.length_map]; omega, by rw [List.length_map]; exact hany, rfl, by rw [← hma, hvg, drop_nth (by omega), drop_nth (xs := (rows.map HL.xs)) (by rw [List.length_map]; omega), verGo, nth_map' _ (by omega), hgF (by simpa using g49)]⟩))⟩, (E58.next u63 (fun i hi (h : MB mb w8.heap.size i) => show False by first | omega | assumption))⟩
  refine c_skip (hK43 _ _ (c_region (t_ari rfl rfl rfl rfl rfl (by omega) (t_move rfl rfl rfl (t_nil' ?_)))))
  exact hK34 (k + 1, msG) _ _ (by show xs.length - (k + 1) < xs.length - k; omega) ⟨rfl, rfl, rfl, rfl, rfl, trivial⟩ ⟨((((u36.nx u49).next u52 (fun i hi (h : i = bk46) => show MB mb w8.heap.size i by first | omega | assumption)).nx u57).next u63 (fun i hi (h : MB mb w8.heap.size i) => show MB mb w8.heap.size i by first | omega | assumption)), (by omega), (CrewM.ext (w := w62) ⟨hcw.hr, hrowG, hcw.hn, hlG, ⟨hcw.hpb.1, by omega⟩, hcw.hc⟩ (Upd.refl _ _)), (by rw [hvg, drop_nth (by omega), drop_nth (xs := (rows.map HL.xs)) (by rw [List.length_map]; omega), verGo, nth_map' _ (by omega), hgT (by simpa using g49)])⟩
 refine c_exit (hK32 _ _ (c_seq fun K67 hK67 => (c_region (t_assign rfl rfl rfl (t_assign rfl rfl rfl (t_nil' (hK67 _ _ (c_ret (f_ret2 (v1 := .int .i64 (-1)) (v2 := .int .i64 0) results28 rfl rfl ?_)))))))))
 exact ⟨⟨-1, 0, rfl, .inr (.inr (.inr ⟨h0, by rw [List.length_map]; omega, by rw [List.length_map]; exact hany, rfl, by rw [← hma, hvg, List.drop_of_length_le (by omega)]; simp [verGo]⟩))⟩, E40⟩

end Go.Proofs.YtagmodjadmecdaaGreat
