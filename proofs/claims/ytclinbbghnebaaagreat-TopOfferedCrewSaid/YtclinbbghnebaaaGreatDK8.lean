/-
  Part 8 of the proof: contracts and plain laws. Conditions: none.
-/
import Derived.Test.YtclinbbghnebaaaGreatDK7
namespace Go.Proofs.YtclinbbghnebaaaGreat
open Go Go.RowKit Go.Proofs.Tryz
set_option maxRecDepth 10000

/-- An element that is handed out: its place, and the world then. -/
structure BkE where
  i : Nat
  w : World
def YBk (n D : Nat) (C : Nat → World → Prop) (x : BkE) (W : World) : Prop := x.i < n ∧ C (x.i + 1) W ∧ D + 1 < W.heap.size ∧ Upd (fun _ => True) x.w W
def ZBk (C : Nat → World → Prop) (x : BkE) (W : World) : Prop := C x.i W ∧ Upd (fun _ => True) x.w W
theorem Sl.dropI {α : Type} [Inhabited α] {enc : α → List Value} {k : Nat} {w : World} {ao : Option Addr} {b o : Nat} {xs : List α} {i cap : Nat} (h : Sl enc k w ao b o xs) (hc : xs.length ≤ cap) : Sl enc k w (subAddr ao cap i k) b (o + i * k) (xs.drop i) := by
  by_cases hi : i < xs.length
  · have h1 := h.sub cap i (xs.length - i) (by omega)
    rwa [List.take_of_length_le (by simp)] at h1
  · rw [List.drop_eq_nil_of_le (by omega)]; exact Sl.nil _ _ _ _ _ _
theorem aftH_ok {h : Hul} {x : Off} (hh : okHul h) (hx : okOff x = true) : okHul (aftH h x) := by
  unfold okOff at hx
  rw [decide_eq_true_eq] at hx
  exact ⟨hx.1.2, hx.2.1.2, hh.2.2.1, hh.2.2.2⟩
theorem now_ok {x : Off} (hx : okOff x = true) (i : Int) : RnB 1 ⟨[i], x.p⟩ := by
  unfold okOff at hx
  rw [decide_eq_true_eq] at hx
  exact ⟨hx.2.2.2.1, by simpa using hx.2.2.2.2, by simp⟩
theorem tabT_step {l : List Off} {h : Hul} {ord : List Int} {k : Nat} (hk : k < l.length) : tabT l h ord (l.length - k) = (tabT l h ord (l.length - (k + 1))).set (nth ord k).toNat (bstP l (aftH h (nth l (nth ord k).toNat)) (tabT l h ord (l.length - (k + 1))) ⟨[nth ord k], (nth l (nth ord k).toNat).p⟩ (ord.drop (k + 1))) := by
  obtain ⟨t, ht⟩ : ∃ t, l.length - (k + 1) = t := ⟨_, rfl⟩
  have e1 : l.length - k = t + 1 := by omega
  have e2 : l.length - (t + 1) = k := by omega
  have e3 : l.length - t = k + 1 := by omega
  rw [e1, ht, tabT, e2, e3]
/-- What the loop backwards over the order has written, from the k-th offer on. -/
def BstC (l : List Off) (h : Hul) (gF : Nat) (wR : World) (k : Nat) (W : World) : Prop := Upd (fun i => i = gF ∨ i = wR.heap.size + 1) wR W ∧ ∃ hs : List HR, Acc encHR 2 148 gF W (some ⟨gF, 0, none⟩) gF l.length hs ∧ hs.map HR.r = tabT l h (ordP l) (l.length - k) ∧ ∀ x ∈ hs, Sl encI 1 W x.ao x.g x.o x.r.s ∧ (0 < x.r.s.length → x.g ≠ gF)
theorem BstC.ext {l : List Off} {h : Hul} {gF : Nat} {wR : World} (k : Nat) (W W' : World) (q : BstC l h gF wR k W) (u : Ext W W') : BstC l h gF wR k W' := by
  obtain ⟨h0, hs, h1, h2, h3⟩ := q
  exact ⟨h0.nx u, hs, h1.keep u (fun _ h => h), h2, fun x hx => ⟨(h3 x hx).1.keep u (fun _ h => h), (h3 x hx).2⟩⟩
theorem BstC.turned {l : List Off} {h : Hul} {gF : Nat} {wR : World} (hg : gF < wR.heap.size) (k : Nat) (W W' : World) (q : BstC l h gF wR k W) (hl : ∃ r, W.heap[wR.heap.size + 1]? = some (.loop r)) (u : Upd (· = wR.heap.size + 1) W W') : BstC l h gF wR k W' := by
  obtain ⟨h0, hs, h1, h2, h3⟩ := q
  exact ⟨h0.trans (u.mono fun i e => .inr e), hs, h1.keep u (fun _ e => by omega), h2, fun x hx => ⟨(h3 x hx).1.keep u (fun hp => Sl.notLoop (enc := encI) (fun _ => Nat.one_pos) (h3 x hx).1 hl hp), (h3 x hx).2⟩⟩
def BstY (l : List Off) (h : Hul) (gF : Nat) (wR : World) (x : BkE) (_ : Unit) (W : World) : Prop := x.i < l.length ∧ BstC l h gF wR (x.i + 1) W ∧ Upd (fun _ => True) x.w W
theorem BstY.turned {l : List Off} {h : Hul} {gF : Nat} {wR : World} (hg : gF < wR.heap.size) (d : Unit) : Turned (wR.heap.size + 1) (fun x W => BstY l h gF wR x d W) := fun _x _W _W' q hl u =>
  ⟨q.1, BstC.turned hg _ _ _ q.2.1 hl u, q.2.2.trans (u.mono fun _ _ => trivial)⟩
theorem BstC.bd {l : List Off} {h : Hul} {hs : List HR} {t : Nat} (hok : ∀ x ∈ l, okOff x = true) (hh : okHul h) (hll : l.length ≤ 12) (ht : t ≤ l.length) (hm : hs.map HR.r = tabT l h (ordP l) t) : hs.length = l.length ∧ ∀ q ∈ hs, RnB 12 q.r := by
  have e : hs.length = l.length := by rw [← tabT_len l h (ordP l) t, ← hm, List.length_map]
  refine ⟨e, fun q hq => ?_⟩
  obtain ⟨i, hi, rfl⟩ := List.mem_iff_getElem.1 hq
  have h8 := tabT_bd hok hh (fun i h => ordP_mem h) (ordP_len l) t ht i (by omega)
  rw [← hm, nth_mapR, nth_eq hi] at h8
  exact h8.mono (by omega)
theorem own115 : Own Tryz.prog 115 := ⟨Tryz.f115, func115, by kernel_rfl, by kernel_rfl⟩

theorem back_c (xs : List Int) (n : Nat) (ao : Option Addr) (b o cap : Nat) (bx l D : Nat) (C : Nat → World → Prop) (R : World → Prop) (w0 : World) (hn : xs.length = n) (_hC : ∀ k W W', C k W → Ext W W' → C k W') (hM : ∀ k W, C k W → Blk W bx 38 [.slice ao n cap] ∧ Sl encI 1 W ao b o xs) (hH : Hands2 Tryz.prog l D (fun x : BkE => .int .i64 (x.i : Int)) (fun x : BkE => .int .i64 (nth xs x.i)) (YBk n D C) (ZBk C) R) (hc : C n w0) (hr : R w0) (hD : D + 1 < w0.heap.size) (hl : n ≤ 1000000) :
    CallsV Tryz.prog 115 [.func (.yield l) #[] #[], .pointer (some ⟨bx, 0, none⟩)] w0 (fun _ w' => C 0 w' ∧ R w') := by
 have hR : ∀ W W', R W → Ext W W' → R W' := fun W W' h u => hH.keep h u (fun h => h) (fun h => h)
 have hm0 := hM _ _ hc
 have hb0 := hm0.1
 have hxs := hm0.2
 refine f_n func115 ?_
 refine go ?_
 refine x_l1 (fun i => (fun _ => True) i) [0, 1] (fun (k : Nat) => [(3, .int .i64 ((k : Int) - 1))]) (fun k w => (k ≤ n) ∧ (C k w) ∧ (R w)) (fun k => k) n ⟨(Nat.le_refl _), hc, hr⟩ ?_
 rintro k w3 ⟨hk, hCk, hRk⟩ u4 zu4 K2 hK2
 have hm1 := hM _ _ hCk
 have hm11 := hm1.1
 refine go ?_
 refine q_p (fun g8 => ?_) fun g8 => ?_
 ·
  iterate 8 refine st1 ?_
  refine t_same 12 (v := .int .i64 ((k - 1 : Nat) : Int)) rfl (congrArg (Value.int .i64) (show (k : Int) - 1 = ((k - 1 : Nat) : Int) by omega)) ?_
  refine go ?_
  refine g_i (k - 1) hm1.2 (fun _ => ?_) (hj := (by omega))
  refine go ?_
  refine t_yield (vs := [.int .i64 ((k - 1 : Nat) : Int), .int .i64 (nth xs (k - 1))]) rfl rfl rfl rfl (hH.hand ⟨k - 1, w3⟩ _ ⟨(by show k - 1 < n; omega), (by show C (k - 1 + 1) _; rw [show k - 1 + 1 = k by omega]; exact hCk), (by omega), Upd.refl _ _⟩ hRk) (by rintro e w' ⟨rfl, _⟩; exact ⟨_, rfl⟩) (fun v11 w12 r13 => ?_)
  obtain ⟨hvr13, hrr13⟩ := r13
  injection hvr13 with hvr13
  subst hvr13
  obtain ⟨⟨hzC, u14⟩, hzR⟩ := hrr13
  have zu14 := u14.size
  have hm2 := hM _ _ hzC
  refine go ?_
  exact hK2 (k - 1) ⟨(by omega), hzC, hzR⟩ (hs := by exact ⟨(congrArg some (congrArg (Value.int .i64) (by show (k : Int) - 1 - 1 = ((k - 1 : Nat) : Int) - 1; omega))), rfl, rfl, trivial⟩) (hu := (u4.next u14 (fun _ _ _ => trivial)))
 refine go ?_
 refine f_ret0 results115 ?_
 exact ⟨(by rw [show 0 = k by omega]; exact hCk), hRk⟩

theorem Backward_c (ao : Option Addr) (n cap : Nat) (w0 : World) :
    CallsV Tryz.prog 53 [.slice ao n cap] w0 (fun v w' => (∃ bx, v = .func (.func 115) #[] #[.pointer (some ⟨bx, 0, none⟩)] ∧ w0.heap.size ≤ bx ∧ Blk w' bx 38 [.slice ao n cap]) ∧ Ext w0 w') := by
 refine f_n func53 ?_
 refine go ?_
 refine x_b fun bk2 w3 ebk2 sbk2 B4 u5 => ?_
 refine go ?_
 refine t_mkfunc (vs := []) (us := [.pointer (some ⟨bk2, 0, none⟩)]) rfl rfl rfl rfl ?_
 refine go ?_
 refine f_1 results53 ?_
 exact ⟨⟨_, rfl, by omega, B4⟩, u_d⟩

set_option maxHeartbeats 4000000 in
theorem Best_c (l : List Off) (al : Option Addr) (bl ol cl : Nat) (h : Hul) (w0 : World) (hl : Sl encOff 5 w0 al bl ol l) (hll0 : l.length ≤ 1000000) (hpos : 0 < w0.heap.size) :
    CallsV Tryz.prog 17 [.slice al l.length cl, .int .i64 h.p, .int .i64 h.m, .int .i64 h.s, .int .i64 h.c] w0 (fun v w' => (∃ r e ao g o cp, v = .tuple #[.slice ao (List.length r.s) cp, .int .i64 r.g, .int .i64 e] ∧ Sl encI 1 w' ao g o r.s ∧ e = bestE l h ∧ ((e ≠ 0 ∧ r = ⟨[], 0⟩) ∨ (e = 0 ∧ r = bestP l h))) ∧ Ext w0 w') := by
 refine f_enterM (N := 112) func17 rfl rfl rfl (q_of ?_)
 refine go ?_
 refine x_b fun bk2 w3 ebk2 sbk2 B4 u5 => ?_
 have E6 := Sc.mk ((Upd.refl (fun _ => False) w0).nx u5)
 refine go ?_
 refine q_p (fun g21 => ?_) fun g21 => ?_
 ·
  refine go ?_
  have hmkE := (show Marks w0.heap.size [] w3 from trivial)
  refine f_retMc3 (v1 := .slice none 0 0) (v2 := .int .i64 0) (v3 := .int .i64 5) results17 (.tmp rfl) (.tmp rfl) (.tmp rfl) (show Marks w0.heap.size [] w3 from trivial) (fun w10 u11 omw10 => ?_)
  have zu11 := u11.size
  exact ⟨⟨⟨[], 0⟩, 5, none, 0, 0, 0, rfl, Sl.nil _ _ _ _ _ _, by unfold bestE; rw [if_pos (by omega)], .inl ⟨by decide, rfl⟩⟩, (E6.u.next u11 (fun i hi (h : w0.heap.size ≤ i) => show False by first | omega | assumption))⟩
 refine go ?_
 refine x_c func43 rfl rfl (containsO_c encOff (fun _ => rfl) (fun x => !okOff x) 44 [] l al bl ol cl _ own44 (fun x _ w _ => badOff_c x w) (hl.keep E6.u (fun _ h => h)) hll0) ?_
 rintro _ w15 ⟨rfl, u16⟩ zu16
 have E18 := Sc.mk (E6.u.nx u16)
 refine go ?_
 refine q_b (fun g25 => ?_) fun g25 => ?_
 ·
  refine go ?_
  have hmkE := (show Marks w0.heap.size [] w15 from trivial)
  refine f_retMc3 (v1 := .slice none 0 0) (v2 := .int .i64 0) (v3 := .int .i64 2) results17 (.tmp rfl) (.tmp rfl) (.tmp rfl) (show Marks w0.heap.size [] w15 from trivial) (fun w20 u21 omw20 => ?_)
  have zu21 := u21.size
  exact ⟨⟨⟨[], 0⟩, 2, none, 0, 0, 0, rfl, Sl.nil _ _ _ _ _ _, by unfold bestE; rw [if_neg (by omega), if_pos g25], .inl ⟨by decide, rfl⟩⟩, (E18.u.next u21 (fun i hi (h : w0.heap.size ≤ i) => show False by first | omega | assumption))⟩
 refine go ?_
 refine x_l fun bk24 w25 ebk24 sbk24 B26 u27 => ?_
 refine x_c func46 rfl rfl (within1_v 0 100000 h.p _ _ _ B26) ?_
 rintro _ w30 ⟨rfl, u31⟩ zu31
 have E33 := Sc.mk ((E18.u.nx u27).nx u31)
 refine go ?_
 refine t_splitp 33 rfl (fun g33 => ?_) (fun g33 => ?_)
 ·
  refine go ?_
  have hmkE := (show Marks w0.heap.size [] w30 from trivial)
  refine f_retMc3 (v1 := .slice none 0 0) (v2 := .int .i64 0) (v3 := .int .i64 3) results17 (.tmp rfl) (.tmp rfl) (.tmp rfl) (show Marks w0.heap.size [] w30 from trivial) (fun w35 u36 omw35 => ?_)
  have zu36 := u36.size
  exact ⟨⟨⟨[], 0⟩, 3, none, 0, 0, 0, rfl, Sl.nil _ _ _ _ _ _, by unfold bestE; rw [if_neg (by omega), if_neg (by rw [g25]; exact Bool.false_ne_true), if_pos (by unfold okHul; omega)], .inl ⟨by decide, rfl⟩⟩, (E33.u.next u36 (fun i hi (h : w0.heap.size ≤ i) => show False by first | omega | assumption))⟩
 refine go ?_
 refine x_l fun bk38 w39 ebk38 sbk38 B40 u41 => ?_
 refine x_c func46 rfl rfl (within1_v 0 100000 h.m _ _ _ B40) ?_
 rintro _ w44 ⟨rfl, u45⟩ zu45
 have E47 := Sc.mk ((E33.u.nx u41).nx u45)
 refine go ?_
 refine t_splitp 39 rfl (fun g39 => ?_) (fun g39 => ?_)
 ·
  refine go ?_
  have hmkE := (show Marks w0.heap.size [] w44 from trivial)
  refine f_retMc3 (v1 := .slice none 0 0) (v2 := .int .i64 0) (v3 := .int .i64 3) results17 (.tmp rfl) (.tmp rfl) (.tmp rfl) (show Marks w0.heap.size [] w44 from trivial) (fun w49 u50 omw49 => ?_)
  have zu50 := u50.size
  exact ⟨⟨⟨[], 0⟩, 3, none, 0, 0, 0, rfl, Sl.nil _ _ _ _ _ _, by unfold bestE; rw [if_neg (by omega), if_neg (by rw [g25]; exact Bool.false_ne_true), if_pos (by unfold okHul; omega)], .inl ⟨by decide, rfl⟩⟩, (E47.u.next u50 (fun i hi (h : w0.heap.size ≤ i) => show False by first | omega | assumption))⟩
 refine go ?_
 refine x_l fun bk52 w53 ebk52 sbk52 B54 u55 => ?_
 refine x_c func46 rfl rfl (within1_v 0 1000 h.s _ _ _ B54) ?_
 rintro _ w58 ⟨rfl, u59⟩ zu59
 have E61 := Sc.mk ((E47.u.nx u55).nx u59)
 refine go ?_
 refine t_splitp 45 rfl (fun g45 => ?_) (fun g45 => ?_)
 ·
  refine go ?_
  have hmkE := (show Marks w0.heap.size [] w58 from trivial)
  refine f_retMc3 (v1 := .slice none 0 0) (v2 := .int .i64 0) (v3 := .int .i64 3) results17 (.tmp rfl) (.tmp rfl) (.tmp rfl) (show Marks w0.heap.size [] w58 from trivial) (fun w63 u64 omw63 => ?_)
  have zu64 := u64.size
  exact ⟨⟨⟨[], 0⟩, 3, none, 0, 0, 0, rfl, Sl.nil _ _ _ _ _ _, by unfold bestE; rw [if_neg (by omega), if_neg (by rw [g25]; exact Bool.false_ne_true), if_pos (by unfold okHul; omega)], .inl ⟨by decide, rfl⟩⟩, (E61.u.next u64 (fun i hi (h : w0.heap.size ≤ i) => show False by first | omega | assumption))⟩
 refine go ?_
 refine x_l fun bk66 w67 ebk66 sbk66 B68 u69 => ?_
 refine x_c func46 rfl rfl (within1_v 0 100000 h.c _ _ _ B68) ?_
 rintro _ w72 ⟨rfl, u73⟩ zu73
 have E75 := Sc.mk ((E61.u.nx u69).nx u73)
 refine go ?_
 refine q_p (fun g28 => ?_) fun g28 => ?_
 ·
  refine go ?_
  have hmkE := (show Marks w0.heap.size [] w72 from trivial)
  refine f_retMc3 (v1 := .slice none 0 0) (v2 := .int .i64 0) (v3 := .int .i64 3) results17 (.tmp rfl) (.tmp rfl) (.tmp rfl) (show Marks w0.heap.size [] w72 from trivial) (fun w77 u78 omw77 => ?_)
  have zu78 := u78.size
  exact ⟨⟨⟨[], 0⟩, 3, none, 0, 0, 0, rfl, Sl.nil _ _ _ _ _ _, by unfold bestE; rw [if_neg (by omega), if_neg (by rw [g25]; exact Bool.false_ne_true), if_pos (by unfold okHul; omega)], .inl ⟨by decide, rfl⟩⟩, (E75.u.next u78 (fun i hi (h : w0.heap.size ≤ i) => show False by first | omega | assumption))⟩
 refine go ?_
 have hh : okHul h := by unfold okHul; omega
 have hok : ∀ x ∈ l, okOff x = true := fun x hx => by
   cases q : okOff x
   · exact absurd (show (l.any fun x => !okOff x) = true from List.any_eq_true.2 ⟨x, hx, by simp [q]⟩) (by rw [g25]; exact Bool.false_ne_true)
   · rfl
 refine go ?_
 refine t_makeI (n := l.length) underlying38 (by kernel_rfl) rfl rfl rfl rfl rfl (by omega) (fun bk81 w82 ebk81 sbk81 B83 u84 => ?_)
 refine x_n fun bk86 w87 ebk86 sbk86 B88 u89 => ?_
 refine x_s fun w91 sw91 B93 u92 => ?_
 refine go ?_
 have B97 := ((B83.kx u89).keep u92 (by omega))
 refine x_l1 (fun i => i = bk81) [1, 2, 3, 4, 5, 13, 55] (fun (k : Nat) => [(56, .int .i64 (k : Int))]) (fun k w => Blk w bk81 3 ((fillK l.length k).map (Value.int .i64)) ∧ (k ≤ l.length)) (fun k => l.length - k) 0 ⟨B97, (Nat.zero_le _)⟩ ?_
 rintro k w99 ⟨I101, hk⟩ u100 zu100 K98 hK98
 have E102 := Sc.mk ((((E75.u.nx u84).nx u89).next u92 (fun i hi h => by omega)).next u100 (fun i hi h => by omega))
 refine go ?_
 refine q_p (fun g57 => ?_) fun g57 => ?_
 ·
  have hfl9 := fillK_len l.length k
  refine go ?_
  refine g_i k (SlI.own I101) (fun _ => ?_)
  refine t_storeI (ls := (fillK l.length k)) (v := (k : Int)) k sizeOf3 rfl rfl rfl I101 (by omega) (fun w108 sw108 B110 u109 => ?_)
  refine go ?_
  exact hK98 (k + 1) ⟨B110, (by omega)⟩
 have hke : k = l.length := by omega
 have B112 : Blk w99 bk81 3 ((iotaL l.length).map (Value.int .i64)) := by
   have e : (((fillK l.length k).map (Value.int .i64)) : List Value) = ((iotaL l.length).map (Value.int .i64)) := (by rw [hke]; rfl)
   rw [← e]; exact I101
 refine go ?_
 refine t_mkfunc (vs := []) (us := [.pointer (some ⟨bk2, 0, none⟩)]) rfl rfl rfl rfl ?_
 have B114 := (((((((((((((B4.kx u16).kx u27).kx u31).kx u41).kx u45).kx u55).kx u59).kx u69).kx u73).kx u84).kx u89).keep u92 (by omega)).keep u100 (by omega))
 have hS9 := sortStable_c (iotaL l.length) bk81 l.length l al bl ol cl bk2 w99 B112 (by rw [iotaL_len]; omega) (fun x hx => iotaL_mem hx) B114 (hl.keep E102.u (fun _ h => h)) hok (by omega) (fun h9 => by have := hl.lt h9; omega)
 rw [iotaL_len] at hS9
 refine x_c func47 rfl rfl hS9 ?_
 rintro _ w116 ⟨⟨rfl, hB9⟩, u117⟩ zu117
 have hB10 : Blk w116 bk81 3 ((ordP l).map (Value.int .i64)) := hB9
 have hol := ordP_len l
 refine go ?_
 refine t_makeN (enc := encHR) (k := 2) (z := .agg #[.slice none 0 0, .int .i64 0]) (bytes := 32) (n := l.length) (⟨⟨[], 0⟩, none, 0, 0, 0⟩ : HR) underlying144 (by kernel_rfl) rfl (by decide) (fun _ => rfl) (by decide) rfl rfl rfl rfl rfl (by omega) (fun bk121 w122 ebk121 sbk121 A123 u124 => ?_)
 have lt_bk121 := A123.lt
 refine x_n fun bk126 w127 ebk126 sbk126 B128 u129 => ?_
 refine x_s fun w131 sw131 B133 u132 => ?_
 refine go ?_
 refine t_mkfunc (vs := []) (us := [.pointer (some ⟨bk2, 0, none⟩), .pointer (some ⟨bk126, 0, none⟩)]) rfl rfl rfl rfl ?_
 refine x_n fun bk136 w137 ebk136 sbk136 B138 u139 => ?_
 refine x_s fun w141 sw141 B143 u142 => ?_
 refine go ?_
 refine x_n fun bk146 w147 ebk146 sbk146 B148 u149 => ?_
 refine x_s fun w151 sw151 B153 u152 => ?_
 refine go ?_
 refine x_c func53 rfl rfl (Backward_c (some ⟨bk81, 0, none⟩) l.length l.length _) ?_
 rintro _ w158 ⟨⟨bx, rfl, hgbx, hBx⟩, u159⟩ zu159
 have E161 := Sc.mk (((((((((E102.u.next u117 (fun i hi h => by omega)).nx u124).nx u129).next u132 (fun i hi h => by omega)).nx u139).next u142 (fun i hi h => by omega)).nx u149).next u152 (fun i hi h => by omega)).nx u159)
 refine go ?_
 have D162 := (((((((A123.keep u129 (fun _ h => h)).keep u132 (fun hb => show ¬ (bk121 = bk126) by first | omega | assumption)).keep u139 (fun _ h => h)).keep u142 (fun hb => show ¬ (bk121 = bk136) by first | omega | assumption)).keep u149 (fun _ h => h)).keep u152 (fun hb => show ¬ (bk121 = bk146) by first | omega | assumption)).keep u159 (fun _ h => h))
 have B163 := ((((((((hB10.kx u124).kx u129).keep u132 (by omega)).kx u139).keep u142 (by omega)).kx u149).keep u152 (by omega)).kx u159)
 have B164 := (((((((((B114.keep u117 (by omega)).kx u124).kx u129).keep u132 (by omega)).kx u139).keep u142 (by omega)).kx u149).keep u152 (by omega)).kx u159)
 have B165 := ((((((((((B93.keep u100 (by omega)).keep u117 (by omega)).kx u124).kx u129).keep u132 (by omega)).kx u139).keep u142 (by omega)).kx u149).keep u152 (by omega)).kx u159)
 have B166 := (((((B133.kx u139).keep u142 (by omega)).kx u149).keep u152 (by omega)).kx u159)
 have B167 := (((B143.kx u149).keep u152 (by omega)).kx u159)
 have B168 := (B153.kx u159)
 have hgF := (D162).lt
 have hlbx := hBx.lt
 have lw_bk2 := B164.lt
 have lw_bk86 := B165.lt
 have lw_bk126 := B166.lt
 have lw_bk136 := B167.lt
 have lw_bk146 := B168.lt
 have lw_bk81 := B163.lt
 refine WC.weak [(5, .pointer (some ⟨bk2, 0, none⟩)), (13, .pointer (some ⟨bk86, 0, none⟩)), (15, .pointer (some ⟨bk126, 0, none⟩)), (16, .pointer (some ⟨bk136, 0, none⟩)), (17, .pointer (some ⟨bk146, 0, none⟩)), (77, .func (.func 115) #[] #[.pointer (some ⟨bx, 0, none⟩)])] ⟨rfl, rfl, rfl, rfl, rfl, rfl, trivial⟩ (c_rangeY2 (γ := BkE) (δ := Unit) (lb := [.pointer (some ⟨bx, 0, none⟩)]) (enc := (fun x : BkE => .int .i64 (x.i : Int))) (enc' := (fun x : BkE => .int .i64 (nth (ordP l) x.i))) own115 rfl rfl rfl (YBk l.length w158.heap.size (BstC l h bk121 w158)) (ZBk (BstC l h bk121 w158)) ((BstC l h bk121 w158) 0) (fun x W W' q hl u => ⟨BstC.turned hgF _ _ _ q.1 hl u, q.2.trans (u.mono fun _ _ => trivial)⟩) (fun _ W W' q hl u => BstC.turned hgF _ _ _ q hl u) ?_ (fun x d => [(5, .pointer (some ⟨bk2, 0, none⟩)), (13, .pointer (some ⟨bk86, 0, none⟩)), (15, .pointer (some ⟨bk126, 0, none⟩)), (16, .pointer (some ⟨bk136, 0, none⟩)), (17, .pointer (some ⟨bk146, 0, none⟩)), (18, .int .i64 (x.i : Int)), (19, .int .i64 (nth (ordP l) x.i))]) (BstY l h bk121 w158) (BstY.turned hgF) ?_ ?_ ?_)
 ·
  intro l1 D R W hD hl9 hsz hE1 hH hR
  subst hD hl9
  refine (back_c (ordP l) l.length (some ⟨bk81, 0, none⟩) bk81 0 l.length bx _ _ (BstC l h bk121 w158) R W hol (fun k W W' q u => BstC.ext k W W' q u) (fun k W (q : (BstC l h bk121 w158) k W) => (⟨hBx.keep q.1 (show ¬ (bx = bk121 ∨ bx = (w158.heap.size + 1)) by omega), (SlI.own B163).keep q.1 (fun _ => show ¬ (bk81 = bk121 ∨ bk81 = (w158.heap.size + 1)) by omega)⟩ : Blk W bx 38 [.slice (some ⟨bk81, 0, none⟩) l.length l.length] ∧ Sl encI 1 W (some ⟨bk81, 0, none⟩) bk81 0 (ordP l))) hH ?_ hR (by omega) (by omega)).mono fun _ _ q => q
  refine ⟨Ext.to hE1, _, D162.keep hE1 (fun _ h => h), ?_, ?_⟩
  · rw [Nat.sub_self, List.map_replicate]; rfl
  · intro x hx; rw [List.eq_of_mem_replicate hx]; exact ⟨Sl.nil _ _ _ _ _ _, fun h9 => absurd h9 (by decide)⟩
 ·
  intro lq x W K169 hI hK169
  change WC _ _ _ _ _ _ [(79, .int .i64 (nth (ordP l) x.i)), (78, .int .i64 (x.i : Int)), (5, .pointer (some ⟨bk2, 0, none⟩)), (13, .pointer (some ⟨bk86, 0, none⟩)), (15, .pointer (some ⟨bk126, 0, none⟩)), (16, .pointer (some ⟨bk136, 0, none⟩)), (17, .pointer (some ⟨bk146, 0, none⟩)), (77, .func (.func 115) #[] #[.pointer (some ⟨bx, 0, none⟩)])] _
  refine (q_of ?_)
  have E000 := Sc.mk (Upd.refl (fun _ => False) W)
  obtain ⟨hi1, hC1, hD1, hU1⟩ := hI
  refine go ?_
  exact hK169 () _ _ ⟨rfl, rfl, rfl, rfl, rfl, rfl, rfl, trivial⟩ E000.u ⟨hi1, BstC.ext _ _ _ hC1 E000.u, hU1.trans (Ext.to E000.u)⟩
 ·
  intro lq x d w171 hY
  obtain ⟨hi1, hC1, hU1⟩ := hY
  have hblt := hl.lt (by omega)
  have hoi := ordP_mem (nth_mem (xs := ordP l) (i := x.i) (by omega))
  obtain ⟨u172, hs, O173, hmp9, hls9⟩ := hC1
  have zu172 := u172.size
  have lt_bk121 := O173.lt
  obtain ⟨hsl9, hbd9⟩ := BstC.bd hok hh (by omega) (by omega) hmp9
  change WC _ _ _ _ _ _ [(5, .pointer (some ⟨bk2, 0, none⟩)), (13, .pointer (some ⟨bk86, 0, none⟩)), (15, .pointer (some ⟨bk126, 0, none⟩)), (16, .pointer (some ⟨bk136, 0, none⟩)), (17, .pointer (some ⟨bk146, 0, none⟩)), (18, .int .i64 (x.i : Int)), (19, .int .i64 (nth (ordP l) x.i))] _
  refine (q_of ?_)
  have hcellsR := (O173).cellsIn
  refine go ?_
  refine c_drawnM follows (fun i => i = bk121) (.look 0 (.look 1 (.look 2 (.look 3 (.look 4 (.look 5 (.look 6 (.look 7 (.look 9 (.look 10 (.look 11 (.look 12 (.look 13 (.look 15 (.look 16 (.look 17 (.look 18 (.look 19 (.act 8 (.act 14 (.look 20 (.act 21 (.act 22 (.act 23 .done .stop) .stop) .stop)) .stop) (.act 14 (.look 20 (.act 8 (.act 21 (.act 22 (.act 23 .done .stop) .stop) .stop) .stop)) .stop)))))))))))))))))))) (by kernel_rfl) fun w175 u176 => ?_
  have zu176 := u176.size
  have E177 := Sc.mk ((E161.u.next u172 (fun i hi h => by omega)).nx u176)
  refine go ?_
  refine y_i ((nth (ordP l) x.i).toNat) (hl.keep E177.u (fun _ h => h)) (fun _ => ?_) (hj := (by omega))
  refine go ?_
  refine y_sliceFrom (n := l.length) (cap := l.length) (ml := (x.i : Int) + 1) (kl := .i64) (ao := some ⟨bk81, 0, none⟩) (x.i + 1) underlying38 sizeOf3 rfl rfl rfl rfl (by omega) (by omega) (by omega) ?_
  refine go ?_
  refine y_i ((nth (ordP l) x.i).toNat) (hl.keep E177.u (fun _ h => h)) (fun _ => ?_) (hj := (by omega))
  refine go ?_
  refine s_or ?_ ?_
  ·
   refine go ?_
   refine x_c func54 rfl rfl (after_c h (nth l (nth (ordP l) x.i).toNat) _) ?_
   rintro _ w181 ⟨rfl, u182⟩ zu182
   refine go ?_
   refine x_l fun bk185 w186 ebk185 sbk185 B187 u188 => ?_
   refine go ?_
   have B190 := ((((B164.keep u172 (by omega)).kx u176).kx u182).kx u188)
   have B191 := ((((B166.keep u172 (by omega)).kx u176).kx u182).kx u188)
   have D192 := (((O173.keep u176 (fun _ h => h)).keep u182 (fun _ h => h)).keep u188 (fun _ h => h))
   have B193 := ((((B163.keep u172 (by omega)).kx u176).kx u182).kx u188)
   refine x_c func49 rfl rfl (best3_c (⟨(nth l (nth (ordP l) x.i).toNat).t, (nth l (nth (ordP l) x.i).toNat).e, h.s, h.c⟩ : Hul) ((ordP l).drop (x.i + 1)) (subAddr (some ⟨bk81, 0, none⟩) l.length (x.i + 1) 1) bk81 (0 + (x.i + 1) * 1) (l.length - (x.i + 1)) (⟨[(nth (ordP l) x.i)], (nth l (nth (ordP l) x.i).toNat).p⟩ : Rn) (some ⟨bk185, 0, none⟩) bk185 0 1 l al bl ol cl bk2 hs (some ⟨bk121, 0, none⟩) bk121 0 l.length bk126 (l.length - (x.i + 1)) _ B190 (hl.keep ((E177.u.nx u182).nx u188) (fun _ h => h)) hok (by omega) B191 (D192.sl (fun _ => rfl)) hsl9 (fun q hq => (hls9 q hq).1.keep ((((Upd.refl (fun _ => False) w171).nx u176).nx u182).nx u188) (fun _ h => h)) hbd9 (by rw [List.length_drop]; omega) (Sl.dropI (SlI.own B193) (by omega)) (by rw [List.length_drop]; omega) (fun i hi => ordP_mem (List.mem_of_mem_drop hi)) (SlI.own (xs := [(nth (ordP l) x.i)]) B187) (now_ok (hok _ (nth_mem (by omega))) _) (aftH_ok hh (hok _ (nth_mem (by omega)))) (by omega)) ?_
   rintro _ w195 ⟨⟨aB, gB, oB, cB, rfl, hnw, hnB⟩, u196⟩ zu196
   have hnwg : 0 < (bstP l (⟨(nth l (nth (ordP l) x.i).toNat).t, (nth l (nth (ordP l) x.i).toNat).e, h.s, h.c⟩ : Hul) (hs.map HR.r) (⟨[(nth (ordP l) x.i)], (nth l (nth (ordP l) x.i).toNat).p⟩ : Rn) ((ordP l).drop (x.i + 1))).s.length → gB ≠ bk121 := fun h9 => by have := hnB h9; omega
   refine go ?_
   have D199 := (D192.keep u196 (fun _ h => h))
   refine g_i ((nth (ordP l) x.i).toNat) (D199.sl (fun _ => rfl)) (fun _ => ?_) (hj := (by omega))
   refine go ?_
   refine t_storeA (vs := [.slice aB (List.length (bstP l (⟨(nth l (nth (ordP l) x.i).toNat).t, (nth l (nth (ordP l) x.i).toNat).e, h.s, h.c⟩ : Hul) (hs.map HR.r) (⟨[(nth (ordP l) x.i)], (nth l (nth (ordP l) x.i).toNat).p⟩ : Rn) ((ordP l).drop (x.i + 1))).s) cB, .int .i64 ((bstP l (⟨(nth l (nth (ordP l) x.i).toNat).t, (nth l (nth (ordP l) x.i).toNat).e, h.s, h.c⟩ : Hul) (hs.map HR.r) (⟨[(nth (ordP l) x.i)], (nth l (nth (ordP l) x.i).toNat).p⟩ : Rn) ((ordP l).drop (x.i + 1))).g)]) (j := (nth (ordP l) x.i).toNat) (o' := 0) (k := 2) (⟨(bstP l (⟨(nth l (nth (ordP l) x.i).toNat).t, (nth l (nth (ordP l) x.i).toNat).e, h.s, h.c⟩ : Hul) (hs.map HR.r) (⟨[(nth (ordP l) x.i)], (nth l (nth (ordP l) x.i).toNat).p⟩ : Rn) ((ordP l).drop (x.i + 1))), aB, gB, oB, cB⟩ : HR) (fun _ => rfl) sizeOf148 rfl rfl (by omega) rfl D199 (by omega) rfl rfl (by decide) (by simp [Value.oneCell']) rfl (fun w201 R203 u202 => ?_)
   have zu202 := u202.size
   refine go ?_
   have hUr := ((((((Upd.refl (fun i => (i = bk121 ∧ bk121 ≤ i)) w171).nx u176).nx u182).nx u188).nx u196).next u202 (fun i hi h => by omega))
   have D205 := (hnw.keep u202 (fun h9 => show ¬ (gB = bk121) by have := hnwg h9; have := hnw.lt h9; omega))
   exact ⟨fun a ha => ⟨KeepsFrom.of_upd hUr hcellsR, ⟨⟨(((((u172.nx u176).nx u182).nx u188).nx u196).next u202 (fun i hi (h : i = bk121) => show i = bk121 ∨ i = (w158.heap.size + 1) by first | omega | assumption)), (hs.set (nth (ordP l) x.i).toNat (⟨(bstP l (⟨(nth l (nth (ordP l) x.i).toNat).t, (nth l (nth (ordP l) x.i).toNat).e, h.s, h.c⟩ : Hul) (hs.map HR.r) (⟨[(nth (ordP l) x.i)], (nth l (nth (ordP l) x.i).toNat).p⟩ : Rn) ((ordP l).drop (x.i + 1))), aB, gB, oB, cB⟩ : HR)), R203, (by rw [nth_mapR_set, hmp9, tabT_step hi1]; rfl), (fun q hq => by
     rcases List.mem_or_eq_of_mem_set hq with h9 | rfl
     · exact ⟨(hls9 q h9).1.keep hUr (fun hp h8 => (hls9 q h9).2 hp h8.1), (hls9 q h9).2⟩
     · exact ⟨D205, hnwg⟩)⟩, (hU1.trans (hUr.mono fun _ _ => trivial))⟩⟩⟩
  refine go ?_
  refine x_l fun bk206 w207 ebk206 sbk206 B208 u209 => ?_
  refine go ?_
  refine x_c func54 rfl rfl (after_c h (nth l (nth (ordP l) x.i).toNat) _) ?_
  rintro _ w212 ⟨rfl, u213⟩ zu213
  refine go ?_
  have B216 := ((((B164.keep u172 (by omega)).kx u176).kx u209).kx u213)
  have B217 := ((((B166.keep u172 (by omega)).kx u176).kx u209).kx u213)
  have D218 := (((O173.keep u176 (fun _ h => h)).keep u209 (fun _ h => h)).keep u213 (fun _ h => h))
  have B219 := ((((B163.keep u172 (by omega)).kx u176).kx u209).kx u213)
  have B220 := (B208.kx u213)
  refine x_c func49 rfl rfl (best3_c (⟨(nth l (nth (ordP l) x.i).toNat).t, (nth l (nth (ordP l) x.i).toNat).e, h.s, h.c⟩ : Hul) ((ordP l).drop (x.i + 1)) (subAddr (some ⟨bk81, 0, none⟩) l.length (x.i + 1) 1) bk81 (0 + (x.i + 1) * 1) (l.length - (x.i + 1)) (⟨[(nth (ordP l) x.i)], (nth l (nth (ordP l) x.i).toNat).p⟩ : Rn) (some ⟨bk206, 0, none⟩) bk206 0 1 l al bl ol cl bk2 hs (some ⟨bk121, 0, none⟩) bk121 0 l.length bk126 (l.length - (x.i + 1)) _ B216 (hl.keep ((E177.u.nx u209).nx u213) (fun _ h => h)) hok (by omega) B217 (D218.sl (fun _ => rfl)) hsl9 (fun q hq => (hls9 q hq).1.keep ((((Upd.refl (fun _ => False) w171).nx u176).nx u209).nx u213) (fun _ h => h)) hbd9 (by rw [List.length_drop]; omega) (Sl.dropI (SlI.own B219) (by omega)) (by rw [List.length_drop]; omega) (fun i hi => ordP_mem (List.mem_of_mem_drop hi)) (SlI.own (xs := [(nth (ordP l) x.i)]) B220) (now_ok (hok _ (nth_mem (by omega))) _) (aftH_ok hh (hok _ (nth_mem (by omega)))) (by omega)) ?_
  rintro _ w222 ⟨⟨aB, gB, oB, cB, rfl, hnw, hnB⟩, u223⟩ zu223
  have hnwg : 0 < (bstP l (⟨(nth l (nth (ordP l) x.i).toNat).t, (nth l (nth (ordP l) x.i).toNat).e, h.s, h.c⟩ : Hul) (hs.map HR.r) (⟨[(nth (ordP l) x.i)], (nth l (nth (ordP l) x.i).toNat).p⟩ : Rn) ((ordP l).drop (x.i + 1))).s.length → gB ≠ bk121 := fun h9 => by have := hnB h9; omega
  refine go ?_
  have D226 := (D218.keep u223 (fun _ h => h))
  refine g_i ((nth (ordP l) x.i).toNat) (D226.sl (fun _ => rfl)) (fun _ => ?_) (hj := (by omega))
  refine go ?_
  refine t_storeA (vs := [.slice aB (List.length (bstP l (⟨(nth l (nth (ordP l) x.i).toNat).t, (nth l (nth (ordP l) x.i).toNat).e, h.s, h.c⟩ : Hul) (hs.map HR.r) (⟨[(nth (ordP l) x.i)], (nth l (nth (ordP l) x.i).toNat).p⟩ : Rn) ((ordP l).drop (x.i + 1))).s) cB, .int .i64 ((bstP l (⟨(nth l (nth (ordP l) x.i).toNat).t, (nth l (nth (ordP l) x.i).toNat).e, h.s, h.c⟩ : Hul) (hs.map HR.r) (⟨[(nth (ordP l) x.i)], (nth l (nth (ordP l) x.i).toNat).p⟩ : Rn) ((ordP l).drop (x.i + 1))).g)]) (j := (nth (ordP l) x.i).toNat) (o' := 0) (k := 2) (⟨(bstP l (⟨(nth l (nth (ordP l) x.i).toNat).t, (nth l (nth (ordP l) x.i).toNat).e, h.s, h.c⟩ : Hul) (hs.map HR.r) (⟨[(nth (ordP l) x.i)], (nth l (nth (ordP l) x.i).toNat).p⟩ : Rn) ((ordP l).drop (x.i + 1))), aB, gB, oB, cB⟩ : HR) (fun _ => rfl) sizeOf148 rfl rfl (by omega) rfl D226 (by omega) rfl rfl (by decide) (by simp [Value.oneCell']) rfl (fun w228 R230 u229 => ?_)
  have zu229 := u229.size
  refine go ?_
  have hUr := ((((((Upd.refl (fun i => (i = bk121 ∧ bk121 ≤ i)) w171).nx u176).nx u209).nx u213).nx u223).next u229 (fun i hi h => by omega))
  have D232 := (hnw.keep u229 (fun h9 => show ¬ (gB = bk121) by have := hnwg h9; have := hnw.lt h9; omega))
  exact ⟨fun a ha => ⟨KeepsFrom.of_upd hUr hcellsR, ⟨⟨(((((u172.nx u176).nx u209).nx u213).nx u223).next u229 (fun i hi (h : i = bk121) => show i = bk121 ∨ i = (w158.heap.size + 1) by first | omega | assumption)), (hs.set (nth (ordP l) x.i).toNat (⟨(bstP l (⟨(nth l (nth (ordP l) x.i).toNat).t, (nth l (nth (ordP l) x.i).toNat).e, h.s, h.c⟩ : Hul) (hs.map HR.r) (⟨[(nth (ordP l) x.i)], (nth l (nth (ordP l) x.i).toNat).p⟩ : Rn) ((ordP l).drop (x.i + 1))), aB, gB, oB, cB⟩ : HR)), R230, (by rw [nth_mapR_set, hmp9, tabT_step hi1]; rfl), (fun q hq => by
    rcases List.mem_or_eq_of_mem_set hq with h9 | rfl
    · exact ⟨(hls9 q h9).1.keep hUr (fun hp h8 => (hls9 q h9).2 hp h8.1), (hls9 q h9).2⟩
    · exact ⟨D232, hnwg⟩)⟩, (hU1.trans (hUr.mono fun _ _ => trivial))⟩⟩⟩
 ·
  have hmk0 := (show Marks w0.heap.size [] w158 from trivial)
  have hmc0 := (show CellsIn (fun i => i = bk121 ∨ i = (w158.heap.size + 1)) w158 from fun k hk e => by
    rcases e with rfl | e
    · exact (D162).cellsIn _ hk ⟨rfl, Nat.le_refl _⟩
    · omega)
  intro D234 w233 hD234 hE hdD234
  obtain ⟨u235, hs, O236, hmp9, hls9⟩ := hE
  have zu235 := u235.size
  have E237 := Sc.mk (E161.u.next u235 (fun i hi h => by omega))
  have lt_bk121 := O236.lt
  obtain ⟨hsl9, hbd9⟩ := BstC.bd hok hh (by omega) (by omega) hmp9
  have mk238 := (hmk0.keep u235 hmc0).push (D := D234) (by omega) hdD234 (fun d hd D' e => Nat.lt_of_lt_of_le (hmk0.lt d hd D' e) hD234)
  refine go ?_
  have B240 := (B164.keep u235 (by omega))
  have B241 := (B166.keep u235 (by omega))
  have B242 := (B163.keep u235 (by omega))
  refine x_c func49 rfl rfl (best3_c (⟨h.p, h.m, h.s, h.c⟩ : Hul) (ordP l) (some ⟨bk81, 0, none⟩) bk81 0 l.length (⟨[], 0⟩ : Rn) none 0 0 0 l al bl ol cl bk2 hs (some ⟨bk121, 0, none⟩) bk121 0 l.length bk126 l.length _ B240 (hl.keep E237.u (fun _ h => h)) hok (by omega) B241 (O236.sl (fun _ => rfl)) hsl9 (fun q hq => (hls9 q hq).1.keep (Upd.refl (fun _ => False) w233) (fun _ h => h)) hbd9 hol (SlI.own B242) (by omega) (fun i hi => ordP_mem hi) (Sl.nil _ _ _ _ _ _) (by simp [RnB]) hh (by omega)) ?_
  rintro _ w244 ⟨⟨aB, gB, oB, cB, rfl, hnw, hnB⟩, u245⟩ zu245
  have hnwg := hnB
  refine x_n fun bk248 w249 ebk248 sbk248 B250 u251 => ?_
  refine x_s fun w253 sw253 B255 u254 => ?_
  refine go ?_
  refine c_drawnM follows (fun _ => False) (OTl [0, 2, 4, 6, 8, 10, 12]) (by kernel_rfl) fun w258 u259 => ?_
  have zu259 := u259.size
  refine go ?_
  have D261 := (((hnw.keep u251 (fun _ h => h)).keep u254 (fun h9 => show ¬ (gB = bk248) by have := hnwg h9; have := hnw.lt h9; omega)).keep u259 (fun _ h => h))
  have hnw9 := D261
  have D264 := ((((mk238.keep u245 (CellsIn.none _)).keep u251 (CellsIn.none _)).keep u254 (B250).cellsIn).keep u259 (CellsIn.none _))
  have hmkE := D264
  refine f_retMc3 (v1 := .slice aB (List.length (bstP l (⟨h.p, h.m, h.s, h.c⟩ : Hul) (hs.map HR.r) (⟨[], 0⟩ : Rn) (ordP l)).s) cB) (v2 := .int .i64 ((bstP l (⟨h.p, h.m, h.s, h.c⟩ : Hul) (hs.map HR.r) (⟨[], 0⟩ : Rn) (ordP l)).g)) (v3 := .int .i64 0) results17 (.tmp rfl) (.tmp rfl) (.tmp rfl) D264 (fun w262 u263 omw262 => ?_)
  have zu263 := u263.size
  have hbp : bestP l h = (bstP l (⟨h.p, h.m, h.s, h.c⟩ : Hul) (hs.map HR.r) (⟨[], 0⟩ : Rn) (ordP l)) := by unfold bestP; rw [hmp9]; rfl
  exact ⟨⟨bestP l h, 0, aB, gB, oB, cB, by rw [hbp], by rw [hbp]; exact hnw9.keep omw262 (fun h9 h => hmkE.notSl (enc := encI) (fun _ => Nat.one_pos) hnw9 h9 h), by unfold bestE; rw [if_neg (by omega), if_neg (by rw [g25]; exact Bool.false_ne_true), if_neg (fun q => q hh)], .inr ⟨rfl, rfl⟩⟩, (((((E237.u.nx u245).nx u251).next u254 (fun i hi h => by omega)).nx u259).next u263 (fun i hi (h : w0.heap.size ≤ i) => show False by first | omega | assumption))⟩

end Go.Proofs.YtclinbbghnebaaaGreat
