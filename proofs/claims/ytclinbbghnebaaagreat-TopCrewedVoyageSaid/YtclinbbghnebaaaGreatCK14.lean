/-
  Part 14 of the proof: contracts and plain laws. Conditions: none.
-/
import Derived.Test.YtclinbbghnebaaaGreatCK13
namespace Go.Proofs.YtclinbbghnebaaaGreat
open Go Go.RowKit Go.Proofs.Tryz
set_option maxRecDepth 10000

theorem assign_c : ∀ xs, AsgQ Tryz.prog xs
  | [] => fun r pb c am mb cm n sb ax bx ox cx ms rows ap gp cp up w0 h => assign_s r pb c am mb cm n sb [] ax bx ox cx ms rows ap gp cp up w0 h (fun _ _ e => by cases e)
  | x :: xs => fun r pb c am mb cm n sb ax bx ox cx ms rows ap gp cp up w0 h => assign_s r pb c am mb cm n sb (x :: xs) ax bx ox cx ms rows ap gp cp up w0 h (fun x0 xs0 e => by injection e with _ e; subst e; exact assign_c xs)
theorem Acc.geN {α : Type} {enc : α → List Value} {k : Nat} {e : TypeId} {base : Nat} {w : World} {ao : Option Addr} {g cap : Nat} {xs : List α} (h : Acc enc k e base w ao g cap xs) (hn : xs ≠ []) : base ≤ g := h.at_.elim (fun q => absurd q.2.1 hn) (fun q => q.2.1)
/-- A crew between calls. -/
structure CrewM (r : Rul) (pb c : Nat) (am : Option Addr) (mb cm n B : Nat) (ms : List HM) (w : World) : Prop where
  hr : okRul r = true
  row : RowC F0 pb c r am mb cm n ms w
  hn : n ≤ 6
  hB : ∀ m ∈ ms, m.ts.length ≤ B
  hpb : 0 < pb ∧ pb ≤ w.heap.size
  hc : pb ≤ c
theorem CrewM.ext {r : Rul} {pb c : Nat} {am : Option Addr} {mb cm n B : Nat} {ms : List HM} {w w' : World} (h : CrewM r pb c am mb cm n B ms w) (u : Ext w w') : CrewM r pb c am mb cm n B ms w' := ⟨h.hr, h.row.ext u, h.hn, h.hB, ⟨h.hpb.1, Nat.le_trans h.hpb.2 u.size⟩, h.hc⟩
theorem RowC.toFA {pb c : Nat} {r : Rul} {am : Option Addr} {mb cm n sb : Nat} {ms : List HM} {w w' : World} (h : RowC F0 pb c r am mb cm n ms w) (u : Ext w w') (hs : w.heap.size ≤ sb) : RowC (FA mb pb sb) pb c r am mb cm n ms w' :=
  (h.mono (G := FA mb pb sb) fun m hm hb hf => hf.elim (fun q => (h.row.mem m hm).ht.neAcc h.row.acc (by decide) hb (q.1 ▸ q.2) q.1) (fun e => by have := (h.row.mem m hm).ht.lt; omega)).ext u
theorem CrewM.asg {r : Rul} {pb c : Nat} {am : Option Addr} {mb cm n B sb : Nat} {ms : List HM} {w w' : World} {xs : List Leg} {ax : Option Addr} {bx ox cx : Nat} (h : CrewM r pb c am mb cm n B ms w) (u : Ext w w') (hs : w.heap.size ≤ sb) (hxs : ∀ x ∈ xs, okLeg x = true) (hB : B + 3 * xs.length ≤ 90) (hl : xs.length ≤ 30) (legs : Sl encLeg 7 w ax bx ox xs) (hcx : xs.length ≤ cx) (hbx : 0 < xs.length → pb ≤ bx → bx ≠ mb ∧ ∃ t cs, t ≠ 38 ∧ Blk w bx t cs) (hsb : Blk w' sb 164 [.slice none 0 0, .int .i64 0]) :
    AsgH r pb c am mb cm n sb xs ax bx ox cx ms [] none 0 0 0 w' :=
  have hm := h.row.row.acc.lt
  have hc := h.row.blk.lt
  ⟨h.hr, hxs, fun m hm => by have := h.hB m hm; omega, legs.keep u (fun _ q => q), hcx, fun hp => ⟨fun q => q.elim (fun q => (hbx hp q.2).1 q.1) (fun e => by have := legs.lt hp; omega), fun hb => by
    obtain ⟨_, t, cs, ht, hB⟩ := hbx hp hb
    exact ⟨t, cs, ht, hB.kx u⟩⟩, hsb, ⟨Acc.nil _ _ _ _ _ h.hpb.1 (Nat.le_trans h.hpb.2 u.size), fun hb => by have := h.hpb.1; omega, fun _ q => (by cases q), fun _ q => (by cases q)⟩, h.row.toFA u hs, fun hb e => h.row.row.acc.neBlk h.row.blk (by decide) hb e.symm, by omega, Nat.le_trans h.hpb.2 hs, fun _ => by omega, h.hn, by simpa using hl, ⟨h.hpb.1, Nat.le_trans h.hpb.2 u.size⟩⟩
theorem FA.mb {mb pb sb : Nat} {w w' : World} (u : Upd (TP (FA mb pb sb) pb w) w w') {w0 : World} (u0 : Ext w0 w) (hs : w0.heap.size ≤ sb) : Upd (TP (MB mb pb) pb w0) w0 w' := (u0.to (S := TP (MB mb pb) pb w0)).next u (fun i hi q => by
  have q2 := TP.backE u0 hi q
  exact q2.elim (fun q => q.elim .inl (fun e => by omega)) .inr)
/-- What Plan returns. -/
def PlanR (r : Rul) (ss : List Slr) (xs : List Leg) (plan : List (List Int)) (at_ e : Int) : Prop :=
  (openE r ss xs ≠ 0 ∧ e = openE r ss xs ∧ at_ = 0 ∧ plan = []) ∨ (openE r ss xs = 0 ∧ (asgP r xs (ss.map boardP) 0 0).1 = some plan ∧ at_ = 0 ∧ e = 0) ∨
  (openE r ss xs = 0 ∧ (asgP r xs (ss.map boardP) 0 0).1 = none ∧ at_ = ((asgP r xs (ss.map boardP) 0 0).2 : Int) ∧ e = 7 ∧ plan = [])
/-- What is known of a crew that has just been opened. -/
theorem CrewM.open {r : Rul} {c : Nat} {am : Option Addr} {mb cm : Nat} {ms : List HM} {hs : List HS} {xs : List Leg} {w0 w' : World} (h0 : openE r (hs.map HS.slr) xs = 0) (hp : 0 < w0.heap.size) (u : Ext w0 w') (hc : w0.heap.size ≤ c) (hb : Blk w' c 267 [.int .i64 r.rest, .int .i64 r.span, .int .i64 r.work, .int .i64 r.week, .int .i64 r.ww, .slice am (List.length ms) cm]) (hrow : RowM F0 w0.heap.size w' am mb cm ms) (hm : ms.map HM.mb = hs.map (fun h => boardP h.slr)) : CrewM r w0.heap.size c am mb cm ms.length 20 ms w' := by
  obtain ⟨h1, h2, h3, h4, h5⟩ := openE_ok h0
  have hl := congrArg List.length hm
  rw [List.length_map, List.length_map] at hl
  rw [List.length_map] at h2
  refine ⟨h1, ⟨hrow, hb, rfl⟩, by omega, fun m hm2 => ?_, ⟨hp, u.size⟩, hc⟩
  have q : m.mb ∈ ms.map HM.mb := List.mem_map.2 ⟨m, hm2, rfl⟩
  rw [hm] at q
  obtain ⟨h, hh, e⟩ := List.mem_map.1 q
  have h8 := (okSlr_ok (h3 _ (List.mem_map.2 ⟨h, hh, rfl⟩))).2.2.1
  have h9 := congrArg (fun m => m.ts.length) e
  simp only [boardP, HM.mb, srt_len, List.length_map] at h9
  omega
theorem own58 : Own Tryz.prog 58 := ⟨Tryz.f58, func58, by kernel_rfl, by kernel_rfl⟩
theorem safe_c (r : Rul) (pb c : Nat) (am : Option Addr) (mb cm n B : Nat) (ms : List HM) (xs : List Leg) (ax : Option Addr) (bx ox cx : Nat) (w0 : World) (hc : CrewM r pb c am mb cm n B ms w0) (hxs : ∀ x ∈ xs, okLeg x = true) (hB : B + 3 * xs.length ≤ 90) (hl : xs.length ≤ 30) (legs : Sl encLeg 7 w0 ax bx ox xs) (hcx : xs.length ≤ cx) (hbx : 0 < xs.length → pb ≤ bx → bx ≠ mb ∧ ∃ t cs, t ≠ 38 ∧ Blk w0 bx t cs) :
    CallsV Tryz.prog 58 [.pointer (some ⟨c, 0, none⟩), .slice ax xs.length cx] w0 (fun v w' => v = .bool (asgP r xs (ms.map HM.mb) 0 0).1.isSome ∧ RowC F0 pb c r am mb cm n ms w' ∧ Upd (TP (MB mb pb) pb w0) w0 w') := by
 have hpb9 := hc.hpb
 have Y0 := Sc.mk (Upd.refl (fun i => (fun _ => True) i) w0)
 refine f_n func58 ?_
 refine go ?_
 refine x_b fun bk3 w4 ebk3 sbk3 B5 u6 => ?_
 try have Y7 := Sc.mk (Y0.u.nx u6)
 refine go ?_
 have E9x : Sc (fun _ => False) w0 w4 := ⟨((Upd.refl (fun _ => False) w0).nx u6)⟩
 refine t_call own57 rfl rfl rfl rfl (assign_c xs r pb c am mb cm n bk3 ax bx ox cx ms [] none 0 0 0 _ (hc.asg E9x.u (by omega) hxs hB hl legs hcx hbx B5)) (fun v8 w9 r11 => ?_)
 obtain ⟨rfl, _, hrow2, u10⟩ := r11
 have zu10 := u10.size
 try have Y12 := Sc.mk (Y7.u.next u10 (fun _ _ _ => trivial))
 have hPq := FA.mb u10 E9x.u (by omega)
 refine go ?_
 refine f_1 results58 ?_
 exact ⟨rfl, hrow2.f0, hPq⟩
theorem Plan_c (r : Rul) (hs : List HS) (al : Option Addr) (bl ol cl : Nat) (xs : List Leg) (ax : Option Addr) (bx ox cx : Nat) (w0 : World) (hl : Sl encHS 4 w0 al bl ol hs) (hll : hs.length ≤ 1000000) (hsm : ∀ h ∈ hs, SlrM w0 h) (hxs : Sl encLeg 7 w0 ax bx ox xs) (hxl : xs.length ≤ 1000000) (hcx : xs.length ≤ cx) (hpos : 0 < w0.heap.size) :
    CallsV Tryz.prog 19 [.agg #[.int .i64 r.rest, .int .i64 r.span, .int .i64 r.work, .int .i64 r.week, .int .i64 r.ww], .slice al hs.length cl, .slice ax xs.length cx] w0 (fun v w' => (∃ ap gp cp rows at_ e, v = .tuple #[.slice ap (List.length rows) cp, .int .i64 at_, .int .i64 e] ∧ Sl encHRK 1 w' ap gp 0 rows ∧ (∀ h ∈ rows, Sl encI 1 w' h.ao h.g 0 h.xs) ∧ ((rows ≠ [] → w0.heap.size ≤ gp) ∧ ∀ h ∈ rows, h.xs ≠ [] → w0.heap.size ≤ h.g) ∧ PlanR r (hs.map HS.slr) xs (rows.map HRK.xs) at_ e) ∧ Ext w0 w') := by
 have Y0 := Sc.mk (Upd.refl (fun _ => False) w0)
 refine f_n func19 ?_
 refine go ?_
 refine x_b fun bk2 w3 ebk2 sbk2 B4 u5 => ?_
 try have Y6 := Sc.mk (Y0.u.nx u5)
 refine go ?_
 refine x_c func56 rfl rfl (open_cK r hs al bl ol cl xs ax bx ox cx _ (hl.keep Y6.u (fun _ h => h)) hll (fun h hh => (hsm h hh).ext Y6.u) (hxs.keep Y6.u (fun _ h => h)) hxl (by omega)) ?_
 rintro _ w9 ⟨⟨po, _, rfl, rfl, hpo⟩, u10⟩ zu10
 try have Y12 := Sc.mk (Y6.u.nx u10)
 have hopw : Sc (fun _ => False) w0 w9 := ⟨Y12.u⟩
 have hopu : Sc (fun _ => False) w3 w9 := ⟨u10⟩
 refine go ?_
 refine q_p (fun g19 => ?_) fun g19 => ?_
 ·
  refine go ?_
  refine f_ret3 (v1 := .slice none 0 0) (v2 := .int .i64 0) (v3 := .int .i64 (openE r (hs.map HS.slr) xs)) results19 rfl rfl rfl ?_
  exact ⟨⟨none, 0, 0, [], _, _, rfl, Sl.nil _ _ _ _ _ _, fun _ h => (by cases h), ⟨fun h => absurd rfl h, fun _ h => (by cases h)⟩, .inl ⟨g19, rfl, rfl, rfl⟩⟩, Y12.u⟩
 have h0 : openE r (hs.map HS.slr) xs = 0 := Decidable.not_not.1 g19
 obtain ⟨cO, am, mb, cm, ms, hpe, hcg, hcb, hrow, hmm⟩ := hpo h0
 refine c_same 9 (v := .pointer (some ⟨cO, 0, none⟩)) rfl (by rw [hpe]) ?_
 have hcr := CrewM.open h0 (by omega) hopu.u hcg hcb hrow hmm
 obtain ⟨_, h6, _, h8, h9⟩ := openE_ok h0
 refine go ?_
 refine x_b fun bk17 w18 ebk17 sbk17 B19 u20 => ?_
 try have Y21 := Sc.mk (Y12.u.nx u20)
 refine go ?_
 have E9x : Sc (fun _ => False) w9 w18 := ⟨((Upd.refl (fun _ => False) w9).nx u20)⟩
 refine t_call own57 rfl rfl rfl rfl (assign_c xs r w3.heap.size cO am mb cm ms.length bk17 ax bx ox cx ms [] none 0 0 0 _ (hcr.asg E9x.u (by omega) h9 (by omega) (by omega) (hxs.keep hopw.u (fun _ h => h)) hcx (fun hp hb => by have h7 := hxs.lt hp; omega) B19)) (fun v24 w25 r27 => ?_)
 obtain ⟨rfl, ⟨rows2, ap2, gp2, cp2, hsb2, hpl2, hno2, hso2⟩, hrow2, u26⟩ := r27
 have zu26 := u26.size
 try have Y28 := Sc.mk (Y21.u.next u26 (fun i hi (h : TP (FA mb w3.heap.size bk17) w3.heap.size w18 i) => show False by first | omega | assumption | exact h.elim (fun h => h.elim (fun h => by have := h.2; omega) (fun h => by omega)) (fun h => by have := h.1; omega)))
 refine go ?_
 refine q_b (fun g27 => ?_) fun g27 => ?_
 ·
  have hma : ms.map HM.mb = (hs.map HS.slr).map boardP := by rw [hmm, List.map_map]; rfl
  refine go ?_
  refine c_drawnM follows (fun _ => False) (OTl [0, 2, 4, 6, 8, 10, 12]) (by kernel_rfl) fun w30 u31 => ?_
  have zu31 := u31.size
  try have Y32 := Sc.mk (Y28.u.nx u31)
  refine go ?_
  refine f_ret3 (v1 := .slice none 0 0) (v2 := .int .i64 ((asgP r xs (ms.map HM.mb) 0 0).2 : Int)) (v3 := .int .i64 7) results19 rfl rfl rfl ?_
  exact ⟨⟨none, 0, 0, [], _, _, rfl, Sl.nil _ _ _ _ _ _, fun _ h => (by cases h), ⟨fun h => absurd rfl h, fun _ h => (by cases h)⟩, .inr (.inr ⟨h0, by rw [← hma]; exact Option.not_isSome_iff_eq_none.1 (fun h => absurd h (by
    have h2 : (asgP r xs (ms.map HM.mb) 0 0).1.isSome = false := by simpa using g27
    intro h; rw [h] at h2; cases h2)), by rw [← hma], rfl, rfl⟩)⟩, Y32.u⟩
 have hma : ms.map HM.mb = (hs.map HS.slr).map boardP := by rw [hmm, List.map_map]; rfl
 refine go ?_
 refine f_ret3 (v1 := .slice ap2 rows2.length cp2) (v2 := .int .i64 0) (v3 := .int .i64 0) results19 rfl rfl rfl ?_
 obtain ⟨p9, hp9⟩ := Option.isSome_iff_exists.1 (show (asgP r xs (ms.map HM.mb) 0 0).1.isSome = true by simpa using g27)
 have hr9 := hso2 p9 hp9
 exact ⟨⟨ap2, gp2, cp2, rows2, _, _, rfl, hpl2.acc.sl (fun _ => rfl), fun h hh => (hpl2.mem h hh).sl (fun _ => rfl), ⟨fun h => by have := hpl2.acc.geN h; omega, fun h hh hn => by have := (hpl2.mem h hh).geN hn; omega⟩, .inr (.inl ⟨h0, by rw [← hma, hp9, hr9]; rfl, rfl, rfl⟩)⟩, Y28.u⟩

end Go.Proofs.YtclinbbghnebaaaGreat
namespace Go.Proofs.YtclinbbghnebaaaGreat
open Go Go.RowKit Go.Proofs.Tryz
set_option maxRecDepth 10000

/-- A leg given to members one after another. -/
def giveGo (r : Rul) (x : Leg) : List Int → List Mb → List Int → Int → Option (List Mb × Int)
  | [], ms, _, pl => some (ms, pl)
  | i :: l, ms, seen, pl => if canM r x (nth ms i.toNat) = true ∧ i ∉ seen then giveGo r x l (ms.set i.toNat (aftM x (nth ms i.toNat))) (seen ++ [i]) (pl + pltI (nth ms i.toNat) x) else none
/-- The members behind it, if it is safe. -/
def giveP (r : Rul) (x : Leg) (l : List Int) (ms : List Mb) : Option (List Mb) := match giveGo r x l ms [] 0 with
  | some (ms', pl) => if (l.length : Int) = x.h ∧ x.p ≤ pl then some ms' else none
  | none => none
theorem nth_set' {α : Type} [Inhabited α] {l : List α} {i j : Nat} {a : α} (h : i < l.length) : nth (l.set i a) j = if j = i then a else nth l j := by
  unfold nth
  rw [List.getD_eq_getElem?_getD, List.getD_eq_getElem?_getD, List.getElem?_set]
  by_cases e : j = i
  · rw [if_pos e, if_pos e.symm, if_pos h]; rfl
  · rw [if_neg e, if_neg (fun q => e q.symm)]
theorem SetI.notAcc {ks : List Int} {w : World} {r : Nat} (h : SetI ks w r) {α : Type} {enc : α → List Value} {k : Nat} {e : TypeId} {base : Nat} {ao : Option Addr} {g cap : Nat} {xs : List α} (ha : Acc enc k e base w ao g cap xs) (hb : base ≤ g) : g ≠ r := by
  obtain ⟨cs, hB⟩ := ha.blkT hb
  exact h.notBlk hB
theorem len_mem {ms : List HM} {n B k : Nat} {nums : List Int} (hn : ms.length = n) (h : ∀ j, j < n → (nth ms j).ts.length ≤ B ∨ ((j : Int) ∈ nums.take k ∧ (nth ms j).ts.length ≤ B + 1)) : ∀ m ∈ ms, m.ts.length ≤ B + 1 := fun m hm => by
  obtain ⟨j, hj, e⟩ := List.mem_iff_getElem.1 hm
  have h1 := h j (by omega)
  rw [nth_eq hj, e] at h1
  exact h1.elim (fun h => by omega) (fun h => h.2)
theorem RowC.put {pb c : Nat} {r : Rul} {am : Option Addr} {mb cm n i : Nat} {ms : List HM} {m : HM} {w w' : World} (h : RowC F0 pb c r am mb cm n ms w) (u : Upd (MB mb pb) w w') (ha : Acc encHM 5 269 pb w' am mb cm (ms.set i m)) (hn : MbM F0 pb w m) : RowC F0 pb c r am mb cm n (ms.set i m) w' :=
  ⟨⟨ha, fun x hx => (List.mem_or_eq_of_mem_set hx).elim (fun q => (h.row.mem x q).rowT h.row.acc u) (fun q => q ▸ hn.rowT h.row.acc u)⟩, h.blk.keep u (fun q => h.row.acc.neBlk h.blk (by decide) (q.1 ▸ q.2) q.1.symm), by rw [List.length_set]; exact h.len⟩
theorem own68 : Own Tryz.prog 68 := ⟨Tryz.f68, func68, by kernel_rfl, by kernel_rfl⟩
set_option maxHeartbeats 4000000 in
theorem give_c (r : Rul) (pb c : Nat) (am : Option Addr) (mb cm n B : Nat) (ms0 : List HM) (x : Leg) (nums : List Int) (an : Option Addr) (bn on cn : Nat) (w0 : World) (hc : CrewM r pb c am mb cm n B ms0 w0) (hB9 : B ≤ 80) (hx : okLeg x = true) (hnums : Sl encI 1 w0 an bn on nums) (hnl : nums.length ≤ 1000000) (hbn : 0 < nums.length → bn < pb) (hin : ∀ i ∈ nums, 0 ≤ i ∧ i < (n : Int)) :
    CallsV Tryz.prog 70 [.pointer (some ⟨c, 0, none⟩), .agg #[.int .i64 x.r, .int .i64 x.t.bl, .int .i64 x.t.bh, .int .i64 x.t.el, .int .i64 x.t.eh, .int .i64 x.h, .int .i64 x.p], .slice an nums.length cn] w0 (fun v w' => (∃ b ms, v = .bool b ∧ RowC F0 pb c r am mb cm n ms w' ∧ (∀ m ∈ ms, m.ts.length ≤ B + 1) ∧ (b = true → giveP r x nums (ms0.map HM.mb) = some (ms.map HM.mb)) ∧ (b = false → giveP r x nums (ms0.map HM.mb) = none)) ∧ Upd (MB mb pb) w0 w') := by
 have hpb9 := hc.hpb
 have hcl := hc.row.blk.lt
 have hmb0 := hc.row.row.acc.lt
 have k1 := hc.row.blk
 refine f_n func70 ?_
 refine go ?_
 refine x_b fun bk3 w4 ebk3 sbk3 B5 u6 => ?_
 refine go ?_
 refine t_makemap rfl rfl (fun bk9 w10 ebk9 sbk9 M11 u12 => ?_)
 have zu12 := u12.size
 refine go ?_
 have hE0 : Sc (fun _ => False) w0 w10 := ⟨(((Upd.refl (fun _ => False) w0).nx u6).nx u12)⟩
 refine x_l3 (fun i => MB mb pb i ∨ i = bk9) [0, 2, 4, 8, 14, 15] (fun (k : Nat) (ms : List HM) (pl : Int) => [(7, .int .i64 pl), (16, .int .i64 (k : Int))]) (fun k ms pl w => (k ≤ nums.length) ∧ (giveGo r x nums (ms0.map HM.mb) [] 0 = giveGo r x (nums.drop k) (ms.map HM.mb) (nums.take k) pl) ∧ (SetI (nums.take k) w bk9) ∧ (RowC F0 pb c r am mb cm n ms w) ∧ (∀ j, j < n → (nth ms j).ts.length ≤ B ∨ ((j : Int) ∈ nums.take k ∧ (nth ms j).ts.length ≤ B + 1)) ∧ (0 ≤ pl ∧ pl ≤ k)) (fun k ms pl => nums.length - k) 0 ms0 0 ⟨(Nat.zero_le _), rfl, (SetI.ofMemo M11), (hc.row.ext hE0.u), (fun j hj => .inl (hc.hB _ (nth_mem (by have := hc.row.len; omega)))), ⟨(by show (0 : Int) ≤ 0; omega), (by show (0 : Int) ≤ ((0 : Nat) : Int); omega)⟩⟩ ?_
 rintro k ms pl w17 ⟨hk, hgo, hset, hrowk, hlk, hplk⟩ u18 zu18 K16 hK16
 have E19 := Sc.mk ((((Upd.refl (fun i => MB mb pb i) w0).nx u6).nx u12).next u18 (fun i hi (h : MB mb pb i ∨ i = bk9) => show MB mb pb i by first | omega | assumption))
 have lt_mb := hrowk.row.acc.lt
 have hmn : ms.length = n := hrowk.len
 have hbml := hset.lt
 have hmbl := hrowk.row.acc.lt
 refine go ?_
 refine q_p (fun g17 => ?_) fun g17 => ?_
 ·
  have hi9 := hin _ (nth_mem (xs := nums) (i := k) (by omega))
  have hi8 : (nth nums k).toNat < ms.length := by omega
  have hmmI : (nth ms (nth nums k).toNat) ∈ ms := nth_mem hi8
  have hmm := hrowk.row.mem _ hmmI
  have hl9 := hlk (nth nums k).toNat (by omega)
  have hl8 : (nth ms (nth nums k).toNat).ts.length ≤ B + 1 := hl9.elim (fun h => by omega) (fun h => h.2)
  have hpm := hrowk.row.pos (by omega)
  have hcm : c ≠ mb := fun e => hrowk.row.acc.neBlk hrowk.blk (by decide) hpm e.symm
  have hcI : (((nth nums k).toNat : Nat) : Int) = nth nums k := by omega
  have lt__nth_ms_nth_nums_k_toNat_gt := hmm.ht.lt
  refine go ?_
  have D24 := (((hnums.keep u6 (fun _ h => h)).keep u12 (fun _ h => h)).keep u18 (fun h9 => by have h8 := hbn h9; have h7 := hnums.lt h9; show ¬ (MB mb pb bn ∨ bn = bk9); intro h6; omega))
  refine g_i k D24 (fun _ => ?_)
  iterate 4 refine st1 ?_
  refine x_k4 (fun _ => False) [0, 2, 4, 7, 8, 10, 14, 15, 16] (fun (t8 : Nat) (ta : Option Addr) (tg : Nat) (tc : Nat) => [(11, .pointer (some ⟨t8, 0, none⟩)), (12, .bool (canB r (nth ms (nth nums k).toNat).f (nth ms (nth nums k).toNat).u (nth ms (nth nums k).toNat).ts x))]) (fun t8 ta tg tc w => (Blk w t8 269 [.int .i64 ((nth ms (nth nums k).toNat).f), .int .i64 ((nth ms (nth nums k).toNat).u), .slice ((nth ms (nth nums k).toNat).ap) ((nth ms (nth nums k).toNat).ps.length) ((nth ms (nth nums k).toNat).cp), .slice ((nth ms (nth nums k).toNat).ad) ((nth ms (nth nums k).toNat).nd) ((nth ms (nth nums k).toNat).cd), .slice ta ((canT (nth ms (nth nums k).toNat).f (nth ms (nth nums k).toNat).u (nth ms (nth nums k).toNat).ts x).length) tc]) ∧ (Acc encSp 2 180 pb w ta tg tc (canT (nth ms (nth nums k).toNat).f (nth ms (nth nums k).toNat).u (nth ms (nth nums k).toNat).ts x)) ∧ (winM (nth ms (nth nums k).toNat).f (nth ms (nth nums k).toNat).u x = true → pb ≤ tg → w17.heap.size ≤ tg) ∧ (w17.heap.size ≤ t8)) (fun K30 hK30 => ?_) ?_
  ·
   refine c_drawnM follows (fun _ => False) (.look 0 (.look 1 (.look 2 (.look 3 (.look 4 (.look 5 (.look 6 (.look 7 (.look 8 (.look 9 (.look 10 (.look 11 (.act 12 (.look 13 (.look 14 (.look 15 (.act 16 (.act 17 (.look 18 .done) .stop) .stop)))) (.act 16 (.act 12 (.look 13 (.look 14 (.look 15 (.act 17 (.look 18 .done) .stop)))) .stop) .stop)))))))))))))) (by kernel_rfl) fun w33 u34 => ?_
   have zu34 := u34.size
   refine go ?_
   have k36 := hrowk.blk
   refine go ?_
   have D37 := (hrowk.row.acc.keep u34 (fun _ h => h))
   refine y_i ((nth nums k).toNat) (D37.sl (fun _ => rfl)) (fun _ => ?_) (hj := (by omega))
   have D39 := (hrowk.row.acc.keep u34 (fun _ h => h))
   refine y_loadN (vs := [.int .i64 ((nth ms ((nth nums k).toNat)).f), .int .i64 ((nth ms ((nth nums k).toNat)).u), .slice ((nth ms ((nth nums k).toNat)).ap) ((nth ms ((nth nums k).toNat)).ps.length) ((nth ms ((nth nums k).toNat)).cp), .slice ((nth ms ((nth nums k).toNat)).ad) ((nth ms ((nth nums k).toNat)).nd) ((nth ms ((nth nums k).toNat)).cd), .slice ((nth ms ((nth nums k).toNat)).at_) ((nth ms ((nth nums k).toNat)).ts.length) ((nth ms ((nth nums k).toNat)).ct)]) isAgg269 sizeOf269 rfl rfl rfl (((D39.sl (fun _ => rfl)).at_ ((nth nums k).toNat) (by omega)).sub 0 5) rfl (fun h => h) ?_
   refine go ?_
   refine s_or ?_ ?_
   ·
    refine go ?_
    have D40 := (hmm.ht.keep u34 (fun _ h => h))
    refine x_c func135 rfl rfl (can_c r ((nth ms ((nth nums k).toNat)).f) ((nth ms ((nth nums k).toNat)).u) ((nth ms ((nth nums k).toNat)).ap) ((nth ms ((nth nums k).toNat)).ps.length) ((nth ms ((nth nums k).toNat)).cp) ((nth ms ((nth nums k).toNat)).ad) ((nth ms ((nth nums k).toNat)).nd) ((nth ms ((nth nums k).toNat)).cd) ((nth ms (nth nums k).toNat).ts) ((nth ms ((nth nums k).toNat)).at_) (nth ms (nth nums k).toNat).gt ((nth ms ((nth nums k).toNat)).ct) pb x _ D40 (by omega) hmm.srt hmm.ok hc.hr hx hpb9.1 (by omega)) ?_
    rintro _ w43 ⟨⟨aoN41, gN41, cN41, _, rfl, rfl, haN41, hfrN41⟩, u44⟩ zu44
    have lt_gN41 := haN41.lt
    refine go ?_
    refine x_n fun bk47 w48 ebk47 sbk47 B49 u50 => ?_
    refine go ?_
    refine x_s fun w52 sw52 B54 u53 => ?_
    refine go ?_
    have D56 := ((haN41.keep u50 (fun _ h => h)).keep u53 (fun hb => show ¬ (gN41 = bk47) by first | omega | assumption))
    exact hK30 bk47 aoN41 gN41 cN41 ⟨B54, D56, (fun h9 h8 => by have := hfrN41 h9 h8; show w17.heap.size ≤ gN41; omega), (by show w17.heap.size ≤ bk47; omega)⟩
   refine go ?_
   refine x_n fun bk57 w58 ebk57 sbk57 B59 u60 => ?_
   refine go ?_
   have D62 := ((hmm.ht.keep u34 (fun _ h => h)).keep u60 (fun _ h => h))
   refine x_c func135 rfl rfl (can_c r ((nth ms ((nth nums k).toNat)).f) ((nth ms ((nth nums k).toNat)).u) ((nth ms ((nth nums k).toNat)).ap) ((nth ms ((nth nums k).toNat)).ps.length) ((nth ms ((nth nums k).toNat)).cp) ((nth ms ((nth nums k).toNat)).ad) ((nth ms ((nth nums k).toNat)).nd) ((nth ms ((nth nums k).toNat)).cd) ((nth ms (nth nums k).toNat).ts) ((nth ms ((nth nums k).toNat)).at_) (nth ms (nth nums k).toNat).gt ((nth ms ((nth nums k).toNat)).ct) pb x _ D62 (by omega) hmm.srt hmm.ok hc.hr hx hpb9.1 (by omega)) ?_
   rintro _ w65 ⟨⟨aoN63, gN63, cN63, _, rfl, rfl, haN63, hfrN63⟩, u66⟩ zu66
   have lt_gN63 := haN63.lt
   have B69 := (B59.kx u66)
   have hne8 : pb ≤ gN63 → gN63 ≠ bk57 := (haN63).neBlk B69 (by decide)
   refine go ?_
   refine x_s fun w70 sw70 B72 u71 => ?_
   refine go ?_
   have D74 := (haN63.keep u71 (fun hb => show ¬ (gN63 = bk57) by first | omega | assumption))
   exact hK30 bk57 aoN63 gN63 cN63 ⟨B72, D74, (fun h9 h8 => by have := hfrN63 h9 h8; show w17.heap.size ≤ gN63; omega), (by show w17.heap.size ≤ bk57; omega)⟩
  rintro t8 ta tg tc w31 ⟨ht8, htn, hfrs0, hg8⟩ u32 zu32
  have E75 := Sc.mk (E19.u.nx u32)
  have lt_tg := htn.lt
  have lt8 := ht8.lt
  refine go ?_
  refine t_split 38 rfl (fun g38 => ?_) (fun g38 => ?_)
  ·
   have hmay : ¬ canM r x (nth ms (nth nums k).toNat).mb = true := by show ¬ canB r (nth ms (nth nums k).toNat).f (nth ms (nth nums k).toNat).u (nth ms (nth nums k).toNat).ts x = true; simpa using g38
   refine go ?_
   refine f_1 results70 ?_
   have hgon : giveGo r x nums (ms0.map HM.mb) [] 0 = none := by rw [hgo, drop_nth (by omega), giveGo, if_neg (fun h => hmay (by rw [← nth_map' HM.mb hi8]; exact h.1))]
   exact ⟨⟨_, ms, rfl, hrowk.ext ((Upd.refl (fun _ => False) _).nx u32), len_mem hrowk.len hlk, fun h => (by cases h), fun _ => by unfold giveP; rw [hgon]⟩, E75.u⟩
  have hmay : canM r x (nth ms (nth nums k).toNat).mb = true := by show canB r (nth ms (nth nums k).toNat).f (nth ms (nth nums k).toNat).u (nth ms (nth nums k).toNat).ts x = true; simpa using g38
  refine go ?_
  have D79 := (hset.keep u32 (fun h => h))
  refine t_lookupI (ks := (nums.take k)) underlying3 underlying284 zeroValue4 rfl rfl rfl rfl D79 ?_
  refine go ?_
  refine q_p (fun g42 => ?_) fun g42 => ?_
  ·
   refine go ?_
   refine f_1 results70 ?_
   have hgon : giveGo r x nums (ms0.map HM.mb) [] 0 = none := by rw [hgo, drop_nth (by omega), giveGo, if_neg (fun h => h.2 g42)]
   exact ⟨⟨_, ms, rfl, hrowk.ext ((Upd.refl (fun _ => False) _).nx u32), len_mem hrowk.len hlk, fun h => (by cases h), fun _ => by unfold giveP; rw [hgon]⟩, E75.u⟩
  have hfr8 := hfrs0 (canB_win hmay)
  have hnin := g42
  have hl7 : (nth ms (nth nums k).toNat).ts.length ≤ B := hl9.resolve_right (fun h => hnin (hcI ▸ h.1))
  iterate 2 refine st1 ?_
  refine x_k1 (fun _ => False) [0, 2, 4, 8, 10, 11, 14, 15, 16] (fun (q : Int) => [(7, .int .i64 q)]) (fun q w => (q = pl + pltI (nth ms (nth nums k).toNat).mb x)) (fun K85 hK85 => ?_) ?_
  ·
   refine go ?_
   have D89 := (hmm.hp.keep u32 (fun _ h => h))
   refine x_c func136 rfl rfl (pilots_c ((nth ms (nth nums k).toNat).f) ((nth ms (nth nums k).toNat).u) ((nth ms (nth nums k).toNat).ps) ((nth ms (nth nums k).toNat).ap) (nth ms (nth nums k).toNat).bp ((nth ms (nth nums k).toNat).op) ((nth ms (nth nums k).toNat).cp) ((nth ms (nth nums k).toNat).ad) ((nth ms (nth nums k).toNat).nd) ((nth ms (nth nums k).toNat).cd) ta ((canT (nth ms (nth nums k).toNat).f (nth ms (nth nums k).toNat).u (nth ms (nth nums k).toNat).ts x).length) tc x _ D89 (by have := hmm.hpl; omega)) ?_
   rintro _ w91 ⟨rfl, u92⟩ zu92
   refine go ?_
   refine q_b (fun g45 => ?_) fun g45 => ?_
   ·
    refine go ?_
    exact hK85 (pl + 1) (by show _ = pl + (if pltP (nth ms (nth nums k).toNat).ps x = true then 1 else 0); rw [if_pos g45])
   refine go ?_
   exact hK85 pl (by show _ = pl + (if pltP (nth ms (nth nums k).toNat).ps x = true then 1 else 0); rw [if_neg (by simp [g45])]; omega)
  rintro q w86 hq u87 zu87
  refine c_drawnM follows (fun i => i = mb ∨ i = bk9) (OTl [0, 2, 4, 6, 8, 10, 12, 14, 16, 19, 21]) (by kernel_rfl) fun w96 u97 => ?_
  have zu97 := u97.size
  refine go ?_
  have k99 := hrowk.blk
  refine go ?_
  have D100 := (((hrowk.row.acc.keep u32 (fun _ h => h)).keep u87 (fun _ h => h)).keep u97 (fun _ h => h))
  refine y_i ((nth nums k).toNat) (D100.sl (fun _ => rfl)) (fun _ => ?_) (hj := (by omega))
  refine go ?_
  refine t_storeA (vs := [.int .i64 ((nth ms (nth nums k).toNat).f), .int .i64 ((nth ms (nth nums k).toNat).u), .slice ((nth ms (nth nums k).toNat).ap) ((nth ms (nth nums k).toNat).ps.length) ((nth ms (nth nums k).toNat).cp), .slice ((nth ms (nth nums k).toNat).ad) ((nth ms (nth nums k).toNat).nd) ((nth ms (nth nums k).toNat).cd), .slice ta ((canT (nth ms (nth nums k).toNat).f (nth ms (nth nums k).toNat).u (nth ms (nth nums k).toNat).ts x).length) tc]) (j := (nth nums k).toNat) (o' := 0) (k := 5) ((nth ms (nth nums k).toNat).put x ta tg tc) (fun _ => rfl) sizeOf269 rfl rfl (by omega) rfl D100 (by first | omega | (simp only [List.length_set]; omega)) rfl rfl (by decide) (by simp [Value.oneCell']) rfl (fun w102 R104 u103 => ?_)
  have zu103 := u103.size
  refine go ?_
  have D106 := (((D79.keep u87 (fun h => h)).keep u97 (fun h => h)).keep u103 (show ¬ (bk9 = mb) by omega))
  refine t_mapnewI (ks := (nums.take k)) underlying3 underlying284 rfl rfl rfl rfl D106 hnin (fun w107 ew107 M108 u109 => ?_)
  have zu109 := u109.size
  refine go ?_
  have D111 := (R104.keep u109 (fun hb => show ¬ (mb = bk9) by first | omega | assumption))
  have B112 := (((((hrowk.blk.kx u32).kx u87).kx u97).keep u103 (by omega)).keep u109 (by omega))
  have uR : Sc (fun i => MB mb pb i ∨ i = bk9) w17 w107 := ⟨((((((Upd.refl (fun i => MB mb pb i ∨ i = bk9) w17).nx u32).nx u87).nx u97).next u103 (fun i hi (h : i = mb) => show MB mb pb i ∨ i = bk9 by first | exact .inr h | exact .inl ⟨h, by omega⟩ | omega)).next u109 (fun i hi (h : i = bk9) => show MB mb pb i ∨ i = bk9 by first | exact .inr h | exact .inl ⟨h, by omega⟩ | omega))⟩
  have hkp : ∀ m ∈ ms, MbM F0 pb w107 m := fun m hm => by
    have q := hrowk.row.mem m hm
    exact q.upd uR.u (fun hp h => by have h1 := q.hb hp; exact h.elim (fun h => by have h2 := h.1; have h3 := h.2; omega) (fun h => by omega)) (fun hb h => h.elim (fun h => q.ht.neAcc hrowk.row.acc (by decide) hb (h.1 ▸ h.2) h.1) (fun h => hset.notAcc q.ht hb h))
  have D113 := ((((htn.keep u87 (fun _ h => h)).keep u97 (fun _ h => h)).keep u103 (fun hb => show ¬ (tg = mb) by first | omega | assumption)).keep u109 (fun hb => show ¬ (tg = bk9) by first | omega | assumption))
  have hnewM : MbM F0 pb w107 ((nth ms (nth nums k).toNat).put x ta tg tc) := ⟨(hkp _ hmmI).hp, hmm.hb, hmm.hpl, D113, fun _ h => h, by show Srt (canT _ _ _ _); unfold canT; split <;> first | exact ins_srt hmm.srt | exact hmm.srt, by show ∀ s ∈ canT _ _ _ _, OkSp s; unfold canT; split <;> first | exact ins_ok (leg_sp hx) hmm.ok | exact hmm.ok⟩
  have hgo2 : giveGo r x nums (ms0.map HM.mb) [] 0 = giveGo r x (nums.drop (k + 1)) ((ms.set (nth nums k).toNat ((nth ms (nth nums k).toNat).put x ta tg tc)).map HM.mb) (nums.take (k + 1)) q := by rw [hgo, drop_nth (by omega), giveGo, if_pos ⟨by rw [nth_map' _ hi8]; exact hmay, hnin⟩, hq, map_put hi8, nth_map' _ hi8, take_nth (by omega)]
  have hlen2 : ∀ j, j < n → (nth (ms.set (nth nums k).toNat ((nth ms (nth nums k).toNat).put x ta tg tc)) j).ts.length ≤ B ∨ ((j : Int) ∈ nums.take (k + 1) ∧ (nth (ms.set (nth nums k).toNat ((nth ms (nth nums k).toNat).put x ta tg tc)) j).ts.length ≤ B + 1) := fun j hj => by
    rw [nth_set' hi8]
    by_cases e : j = (nth nums k).toNat
    · rw [if_pos e]; refine .inr ⟨by rw [e, hcI, take_nth (by omega)]; simp, ?_⟩
      show (canT _ _ _ _).length ≤ _; unfold canT; split <;> (try rw [ins_len]) <;> omega
    · rw [if_neg e]; exact (hlk j hj).imp id (fun h => ⟨by rw [take_nth (by omega)]; exact List.mem_append_left _ h.1, h.2⟩)
  exact hK16 (k + 1) (ms.set (nth nums k).toNat ((nth ms (nth nums k).toNat).put x ta tg tc)) q ⟨(by omega), hgo2, (by rw [take_nth (by omega)]; exact M108), ⟨⟨D111, fun m hm => (List.mem_or_eq_of_mem_set hm).elim (hkp m) (fun q => q ▸ hnewM)⟩, B112, by rw [List.length_set]; exact hmn⟩, hlen2, (by have := pltI_rng (nth ms (nth nums k).toNat).mb x; show 0 ≤ q ∧ q ≤ ((k + 1 : Nat) : Int); omega)⟩ (hu := (((((u18.nx u32).nx u87).nx u97).next u103 (fun i hi (h : i = mb) => show MB mb pb i ∨ i = bk9 by first | omega | assumption)).next u109 (fun i hi (h : i = bk9) => show MB mb pb i ∨ i = bk9 by first | omega | assumption)))
 refine go ?_
 refine t_splitp 63 rfl (fun g63 => ?_) (fun g63 => ?_)
 ·
  refine go ?_
  refine f_1 results70 ?_
  have hgoe : giveGo r x nums (ms0.map HM.mb) [] 0 = some (ms.map HM.mb, pl) := by rw [hgo, List.drop_of_length_le (by omega), giveGo]
  exact ⟨⟨_, ms, rfl, hrowk.ext (Upd.refl (fun _ => False) _), len_mem hrowk.len hlk, fun h => by
    have h2 := of_decide_eq_true h
    unfold giveP; rw [hgoe]; exact if_pos ⟨by omega, by omega⟩, fun h => by
    have h2 := of_decide_eq_false h
    unfold giveP; rw [hgoe]; exact if_neg (fun h3 => h2 (by omega))⟩, E19.u⟩
 refine go ?_
 refine f_1 results70 ?_
 have hgoe : giveGo r x nums (ms0.map HM.mb) [] 0 = some (ms.map HM.mb, pl) := by rw [hgo, List.drop_of_length_le (by omega), giveGo]
 exact ⟨⟨_, ms, rfl, hrowk.ext (Upd.refl (fun _ => False) _), len_mem hrowk.len hlk, fun h => (by cases h), fun _ => by unfold giveP; rw [hgoe]; exact if_neg (fun h3 => g63 (by omega))⟩, E19.u⟩

/-- A list of numbers in memory. -/
structure HL where
  xs : List Int
  ao : Option Addr
  b : Nat
  o : Nat
  cap : Nat
instance : Inhabited HL := ⟨⟨default, default, default, default, default⟩⟩
def encHL (h : HL) : List Value := [.slice h.ao h.xs.length h.cap]
def badRow (n : Nat) (l : List Int) : Bool := !decide (∀ i ∈ l, 0 ≤ i ∧ i ≤ (n : Int) - 1)
/-- The first leg up to which it is not safe. -/
def verGo (r : Rul) : List Leg → List (List Int) → List Mb → Nat → Int
  | x :: xs, l :: ls, ms, k => match giveP r x l ms with
    | some ms' => verGo r xs ls ms' (k + 1)
    | none => k
  | _, _, _, _ => -1
def VerR (r : Rul) (ss : List Slr) (xs : List Leg) (plan : List (List Int)) (v e : Int) : Prop :=
  (openE r ss xs ≠ 0 ∧ e = openE r ss xs ∧ v = 0) ∨ (openE r ss xs = 0 ∧ plan.length ≠ xs.length ∧ v = 0 ∧ e = 4) ∨ (openE r ss xs = 0 ∧ plan.length = xs.length ∧ (plan.any (badRow ss.length)) = true ∧ v = 0 ∧ e = 2) ∨
  (openE r ss xs = 0 ∧ plan.length = xs.length ∧ (plan.any (badRow ss.length)) = false ∧ e = 0 ∧ v = verGo r xs plan (ss.map boardP) 0)
theorem any_hl {rows : List HL} {n : Nat} : (rows.any fun h => badRow n h.xs) = (rows.map HL.xs).any (badRow n) := by rw [List.any_map]; rfl
theorem indexR_cK (p : HL → Bool) (fv : FuncId) (caps : List Value) (xs : List HL) (ao : Option Addr) (b o cap : Nat) (w0 : World) (ho : Own Tryz.prog fv) (hp : ∀ x ∈ xs, ∀ w, Ext w0 w → CallsV Tryz.prog fv ([.slice x.ao x.xs.length x.cap] ++ caps) w fun v w' => v = .bool (p x) ∧ Ext w w') (hs : Sl encHL 1 w0 ao b o xs) (hl : xs.length ≤ 1000000) :
    CallsV Tryz.prog 133 [.slice ao xs.length cap, .func (.func fv) #[] (caps).toArray] w0 (fun v w' => (∃ n : Int, v = .int .i64 n ∧ decide (0 ≤ n) = xs.any p) ∧ Ext w0 w') := by
 refine f_n func133 ?_
 refine go ?_
 refine x_l1 (fun _ => False) [0, 1, 7] (fun (k : Nat) => [(8, .int .i64 (k : Int))]) (fun k w => (k ≤ xs.length) ∧ ((xs.take k).any p = false)) (fun k => xs.length - k) 0 ⟨Nat.zero_le _, (by simp)⟩ ?_
 rintro k w5 ⟨hle, hnot⟩ u6 zu6 K4 hK4
 have E7 := Sc.mk ((Upd.refl (fun _ => False) w0).nx u6)
 refine go ?_
 refine q_p (fun g9 => ?_) fun g9 => ?_
 ·
  refine go ?_
  refine g_i k (hs.keep E7.u (fun _ h => h)) (fun _ => ?_)
  refine go ?_
  refine t_call (fs := []) (cs := caps) ho rfl rfl rfl rfl (hp (nth xs k) (nth_mem (by omega)) _ E7.u) (fun v14 w15 r17 => ?_)
  obtain ⟨rfl, u16⟩ := r17
  have zu16 := u16.size
  refine go ?_
  refine q_b (fun g16 => ?_) fun g16 => ?_
  ·
   refine go ?_
   refine f_1 results133 ?_
   exact ⟨⟨_, rfl, any_hit (by omega) g16⟩, u_d⟩
  refine go ?_
  exact hK4 (k + 1) ⟨(by omega), (any_snoc (by omega) hnot g16)⟩
 refine go ?_
 refine f_1 results133 ?_
 exact ⟨⟨_, rfl, any_none (by omega) hnot⟩, u_d⟩
theorem containsR_cK (p : HL → Bool) (fv : FuncId) (caps : List Value) (xs : List HL) (ao : Option Addr) (b o cap : Nat) (w0 : World) (ho : Own Tryz.prog fv) (hp : ∀ x ∈ xs, ∀ w, Ext w0 w → CallsV Tryz.prog fv ([.slice x.ao x.xs.length x.cap] ++ caps) w fun v w' => v = .bool (p x) ∧ Ext w w') (hs : Sl encHL 1 w0 ao b o xs) (hl : xs.length ≤ 1000000) :
    CallsV Tryz.prog 67 [.slice ao xs.length cap, .func (.func fv) #[] (caps).toArray] w0 (fun v w' => v = .bool (xs.any p) ∧ Ext w0 w') := by
 refine f_n func67 ?_
 refine go ?_
 refine x_c func133 rfl rfl (indexR_cK p fv caps xs ao b o cap _ ho hp hs hl) ?_
 rintro _ w4 ⟨⟨n, rfl, hn⟩, u5⟩ zu5
 refine go ?_
 refine f_1 results67 ?_
 exact ⟨by rw [hn], u_d⟩
theorem badRow_c (l : List Int) (ao : Option Addr) (b o cap : Nat) (as_ : Option Addr) (n cs bs : Nat) (w0 : World) (hs : Sl encI 1 w0 ao b o l) (hl : l.length ≤ 1000000) (hb : Blk w0 bs 80 [.slice as_ n cs]) (hn : n ≤ 1000000) :
    CallsV Tryz.prog 68 [.slice ao l.length cap, .pointer (some ⟨bs, 0, none⟩)] w0 (fun v w' => v = .bool (badRow n l) ∧ Ext w0 w') := by
 refine f_n func68 ?_
 refine go ?_
 refine x_c func69 rfl rfl (within_cK 0 ((n : Int) - 1) l ao b o cap _ hs hl) ?_
 rintro _ w4 ⟨rfl, u5⟩ zu5
 refine go ?_
 refine f_1 results68 ?_
 exact ⟨congrArg Value.bool (by unfold badRow; exact decide_not), u_d⟩
set_option maxHeartbeats 4000000 in
theorem Verify_c (r : Rul) (hs : List HS) (al : Option Addr) (bl ol cl : Nat) (xs : List Leg) (ax : Option Addr) (bx ox cx : Nat) (rows : List HL) (ar : Option Addr) (br or_ cr : Nat) (w0 : World) (hl : Sl encHS 4 w0 al bl ol hs) (hll : hs.length ≤ 1000000) (hsm : ∀ h ∈ hs, SlrM w0 h) (hxs : Sl encLeg 7 w0 ax bx ox xs) (hxl : xs.length ≤ 1000000) (hr9 : Sl encHL 1 w0 ar br or_ rows) (hrl9 : rows.length ≤ 1000000) (hrm : ∀ h ∈ rows, Sl encI 1 w0 h.ao h.b h.o h.xs ∧ h.xs.length ≤ 1000000) (hpos : 0 < w0.heap.size) :
    CallsV Tryz.prog 22 [.agg #[.int .i64 r.rest, .int .i64 r.span, .int .i64 r.work, .int .i64 r.week, .int .i64 r.ww], .slice al hs.length cl, .slice ax xs.length cx, .slice ar rows.length cr] w0 (fun v w' => (∃ v9 e, v = .tuple #[.int .i64 v9, .int .i64 e] ∧ VerR r (hs.map HS.slr) xs (rows.map HL.xs) v9 e) ∧ Ext w0 w') := by
 refine f_n func22 ?_
 refine go ?_
 refine x_b fun bk2 w3 ebk2 sbk2 B4 u5 => ?_
 refine x_b fun bk7 w8 ebk7 sbk7 B9 u10 => ?_
 have E11 := Sc.mk (((Upd.refl (fun _ => False) w0).nx u5).nx u10)
 refine go ?_
 refine x_c func56 rfl rfl (open_cK r hs al bl ol cl xs ax bx ox cx _ (hl.keep E11.u (fun _ h => h)) hll (fun h hh => (hsm h hh).ext E11.u) (hxs.keep E11.u (fun _ h => h)) hxl (by omega)) ?_
 rintro _ w14 ⟨⟨po, _, rfl, rfl, hpo⟩, u15⟩ zu15
 have E17 := Sc.mk (E11.u.nx u15)
 have hopw : Sc (fun _ => False) w0 w14 := ⟨E17.u⟩
 have hopu : Sc (fun _ => False) w8 w14 := ⟨u15⟩
 refine go ?_
 refine q_p (fun g21 => ?_) fun g21 => ?_
 ·
  refine go ?_
  refine f_ret2 (v1 := .int .i64 0) (v2 := .int .i64 (openE r (hs.map HS.slr) xs)) results22 rfl rfl ?_
  exact ⟨⟨0, _, rfl, .inl ⟨g21, rfl, rfl⟩⟩, u_d⟩
 have h0 : openE r (hs.map HS.slr) xs = 0 := Decidable.not_not.1 g21
 obtain ⟨cO, am, mb, cm, ms0, hpe, hcg, hcb, hrow, hmm⟩ := hpo h0
 refine c_same 10 (v := .pointer (some ⟨cO, 0, none⟩)) rfl (by rw [hpe]) ?_
 have hcr := CrewM.open h0 (by omega) hopu.u hcg hcb hrow hmm
 obtain ⟨_, h6, _, h8, h9⟩ := openE_ok h0
 have hma : ms0.map HM.mb = (hs.map HS.slr).map boardP := by rw [hmm, List.map_map]; rfl
 have hnl : ms0.length = hs.length := by have := congrArg List.length hmm; simpa using this
 refine go ?_
 refine q_p (fun g25 => ?_) fun g25 => ?_
 ·
  refine go ?_
  refine f_ret2 (v1 := .int .i64 0) (v2 := .int .i64 4) results22 rfl rfl ?_
  exact ⟨⟨0, 4, rfl, .inr (.inl ⟨h0, by rw [List.length_map]; omega, rfl, rfl⟩)⟩, u_d⟩
 have hpl : rows.length = xs.length := by omega
 refine go ?_
 refine t_mkfunc (vs := []) (us := [.pointer (some ⟨bk7, 0, none⟩)]) rfl rfl rfl rfl ?_
 have B24 := (B9.kx u15)
 refine x_c func67 rfl rfl (containsR_cK (fun h => badRow hs.length h.xs) 68 [.pointer (some ⟨bk7, 0, none⟩)] rows ar br or_ cr _ own68 (fun h hh w u => badRow_c h.xs h.ao h.b h.o h.cap al hs.length cl bk7 w ((hrm h hh).1.keep (E17.u.trans u) (fun _ h => h)) (hrm h hh).2 (B24.kx u) hll) (hr9.keep E17.u (fun _ h => h)) hrl9) ?_
 rintro _ w26 ⟨rfl, u27⟩ zu27
 refine go ?_
 refine q_b (fun g31 => ?_) fun g31 => ?_
 ·
  refine go ?_
  refine f_ret2 (v1 := .int .i64 0) (v2 := .int .i64 2) results22 rfl rfl ?_
  exact ⟨⟨0, 2, rfl, .inr (.inr (.inl ⟨h0, by rw [List.length_map]; omega, by rw [← any_hl, List.length_map, g31], rfl, rfl⟩))⟩, u_d⟩
 have hany : ((rows.map HL.xs).any (badRow hs.length)) = false := by rw [← any_hl, g31]
 refine go ?_
 refine x_l2 (fun i => MB mb w8.heap.size i) [3, 10, 35, 36] (fun (k : Nat) (ms : List HM) => [(37, .int .i64 (k : Int))]) (fun k ms w => (k ≤ xs.length) ∧ (CrewM r w8.heap.size cO am mb cm ms0.length (20 + k) ms w) ∧ (verGo r xs (rows.map HL.xs) (ms0.map HM.mb) 0 = verGo r (xs.drop k) ((rows.map HL.xs).drop k) (ms.map HM.mb) k)) (fun k ms => xs.length - k) 0 ms0 ⟨(Nat.zero_le _), (hcr.ext ((Upd.refl (fun _ => False) _).nx u27)), rfl⟩ ?_
 rintro k ms w34 ⟨hk, hcw, hvg⟩ u35 zu35 K33 hK33
 have E36 := Sc.mk ((E17.u.nx u27).next u35 (fun i hi (h : MB mb w8.heap.size i) => show False by first | omega | assumption))
 have lmb := hcw.row.row.acc.lt
 refine go ?_
 refine q_p (fun g38 => ?_) fun g38 => ?_
 ·
  have hbr := hr9.lt (show 0 < rows.length by omega)
  have hxk := h9 _ (nth_mem (xs := xs) (i := k) (by omega))
  have hrk := hrm (nth rows k) (nth_mem (by omega))
  have hin9 : ∀ i ∈ (nth rows k).xs, 0 ≤ i ∧ i < (ms0.length : Int) := fun i hi => by
    have q := List.any_eq_false.1 hany (nth rows k).xs (List.mem_map.2 ⟨_, nth_mem (by omega), rfl⟩)
    have q2 : decide (∀ i ∈ (nth rows k).xs, 0 ≤ i ∧ i ≤ (hs.length : Int) - 1) = true := by simpa [badRow] using q
    have := of_decide_eq_true q2 i hi; omega
  refine go ?_
  refine g_i k (hxs.keep E36.u (fun _ h => h)) (fun _ => ?_)
  refine go ?_
  refine x_n fun bk42 w43 ebk42 sbk42 B44 u45 => ?_
  refine go ?_
  refine x_s fun w47 sw47 B49 u48 => ?_
  refine go ?_
  refine c_drawnM follows (fun i => MB mb w8.heap.size i) (OTl [0, 2, 4, 6, 8, 10, 13, 14]) (by kernel_rfl) fun w52 u53 => ?_
  have zu53 := u53.size
  have E54 := Sc.mk (((E36.u.nx u45).next u48 (fun i hi h => by omega)).nx u53)
  refine go ?_
  refine y_i k (hr9.keep E54.u (fun _ h => h)) (fun _ => ?_)
  refine go ?_
  refine x_c func70 rfl rfl (give_c r w8.heap.size cO am mb cm ms0.length (20 + k) ms (nth xs k) (nth rows k).xs (nth rows k).ao (nth rows k).b (nth rows k).o (nth rows k).cap _ (hcw.ext ((((Upd.refl (fun _ => False) _).nx u45).next u48 (fun i hi h => by omega)).nx u53)) (by omega) hxk ((hrm (nth rows k) (nth_mem (by omega))).1.keep E54.u (fun _ h => h)) hrk.2 (fun hp => by have := hrk.1.lt hp; omega) hin9) ?_
  rintro _ w57 ⟨⟨bG, msG, rfl, hrowG, hlG, hgT, hgF⟩, u58⟩ zu58
  refine s_next ((Upd.refl _ _).next u58 (fun i hi (h : MB mb w8.heap.size i) => show w52.heap.size ≤ i ∨ (MB mb w8.heap.size i) by first | omega | exact .inr h)) ?_
  refine go ?_
  refine q_b (fun g49 => ?_) fun g49 => ?_
  ·
   refine go ?_
   refine f_ret2 (v1 := .int .i64 (k : Int)) (v2 := .int .i64 0) results22 rfl rfl ?_
   exact ⟨⟨_, 0, rfl, .inr (.inr (.inr ⟨h0, by rw [List.length_map]; omega, by rw [List.length_map]; exact hany, rfl, by rw [← hma, hvg, drop_nth (by omega), drop_nth (xs := (rows.map HL.xs)) (by rw [List.length_map]; omega), verGo, nth_map' _ (by omega), hgF (by simpa using g49)]⟩))⟩, u_d⟩
  refine go ?_
  exact hK33 (k + 1) msG ⟨(by omega), (CrewM.ext (w := w57) ⟨hcw.hr, hrowG, hcw.hn, hlG, ⟨hcw.hpb.1, by omega⟩, hcw.hc⟩ (Upd.refl _ _)), (by rw [hvg, drop_nth (by omega), drop_nth (xs := (rows.map HL.xs)) (by rw [List.length_map]; omega), verGo, nth_map' _ (by omega), hgT (by simpa using g49)])⟩ (hu := ((((u35.nx u45).next u48 (fun i hi (h : i = bk42) => show MB mb w8.heap.size i by first | omega | assumption)).nx u53).next u58 (fun i hi (h : MB mb w8.heap.size i) => show MB mb w8.heap.size i by first | omega | assumption)))
 refine go ?_
 refine f_ret2 (v1 := .int .i64 (-1)) (v2 := .int .i64 0) results22 rfl rfl ?_
 exact ⟨⟨-1, 0, rfl, .inr (.inr (.inr ⟨h0, by rw [List.length_map]; omega, by rw [List.length_map]; exact hany, rfl, by rw [← hma, hvg, List.drop_of_length_le (by omega)]; simp [verGo]⟩))⟩, u_d⟩

end Go.Proofs.YtclinbbghnebaaaGreat
