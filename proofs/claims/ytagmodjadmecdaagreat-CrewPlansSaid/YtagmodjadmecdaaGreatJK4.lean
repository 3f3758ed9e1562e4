/-
  Part 4 of the proof: contracts and plain laws. Conditions: none.
-/
import Derived.Test.YtagmodjadmecdaaGreatJK3
namespace Go.Proofs.YtagmodjadmecdaaGreat
open Go Go.RowKit Tryz

theorem sh_in {r : Rul} {x : Shf} {l : List Sp} {j : Nat} (hj : j < l.length) (h : (nth l j).b < x.e + r.rest) : shGo r x (l.drop j) = shGo r ⟨x.b, max x.e (nth l j).e, x.w + ((nth l j).e - (nth l j).b)⟩ (l.drop (j + 1)) := by
  rw [drop_nth hj, shGo, if_pos h]
theorem sh_exit {r : Rul} {x : Shf} {l : List Sp} {j : Nat} (h : ¬ (j < l.length ∧ (nth l j).b < x.e + r.rest)) : shGo r x (l.drop j) = x :: shiftsP r (l.drop j) := by
  rcases Nat.lt_or_ge j l.length with hj | hj
  · rw [drop_nth hj, shGo, if_neg (fun q => h ⟨hj, q⟩)]; rfl
  · rw [List.drop_of_length_le hj]; rfl
theorem sh_new {r : Rul} {l : List Sp} {i : Nat} (hi : i < l.length) (hr : 1 ≤ r.rest) (ho : OkSp (nth l i)) : shGo r ⟨(nth l i).b, (nth l i).e, 0⟩ (l.drop i) = shiftsP r (l.drop i) := by
  rw [drop_nth hi]
  rcases sh_first (s := nth l i) (l := l.drop (i + 1)) hr with h | h
  · exact h
  · exact absurd ho.2.1 h
theorem shGo_len {r : Rul} : ∀ {l : List Sp} {x : Shf}, (shGo r x l).length ≤ l.length + 1
  | [], _ => by simp [shGo]
  | s :: l, x => by
    unfold shGo
    split
    · have := shGo_len (r := r) (l := l) (x := ⟨x.b, max x.e s.e, x.w + (s.e - s.b)⟩); simp only [List.length_cons]; omega
    · have := shGo_len (r := r) (l := l) (x := ⟨s.b, s.e, s.e - s.b⟩); simp only [List.length_cons]; omega
theorem shifts_len {r : Rul} : ∀ {l : List Sp}, (shiftsP r l).length ≤ l.length
  | [] => Nat.le_refl _
  | _s :: _l => shGo_len
structure ShX where
  pre : List Shf
  v : Shf
  w : World
def encShX (x : ShX) : Value := .agg (encShf x.v).toArray
def RgSh (v : Shf) : Prop := (0 ≤ v.b ∧ v.b ≤ 20160) ∧ (0 ≤ v.e ∧ v.e ≤ 20160) ∧ 0 ≤ v.w
def YSh (D : Nat) (C : List Shf → World → Prop) (x : ShX) (W : World) : Prop := C x.pre W ∧ ((RgSh x.v ∧ x.pre.length < 100000) ∧ D + 1 < W.heap.size) ∧ Upd (· = D + 1) x.w W
def ZSh (T : Nat → Prop) (C : List Shf → World → Prop) (x : ShX) (W : World) : Prop := C (x.pre ++ [x.v]) W ∧ Upd T x.w W
def FSh (T : Nat → Prop) (Cf : List Shf × Shf → World → Prop) (x : ShX) (W : World) : Prop := Cf (x.pre, x.v) W ∧ Upd T x.w W
def EndF (sh : List Shf) (Cf : List Shf × Shf → World → Prop) (W : World) : Prop := ∃ pre v post, sh = pre ++ v :: post ∧ Cf (pre, v) W
theorem YSh.turned {D : Nat} {C : List Shf → World → Prop} (hC : Turned (D + 1) C) : Turned (D + 1) (YSh D C) := fun _x _W _W' h hl u => ⟨hC _ _ _ h.1 hl u, ⟨h.2.1.1, Nat.lt_of_lt_of_le h.2.1.2 u.size⟩, h.2.2.trans u⟩
theorem ZSh.turned {D : Nat} {T : Nat → Prop} {C : List Shf → World → Prop} (hC : Turned (D + 1) C) (hT : T (D + 1)) : Turned (D + 1) (ZSh T C) := fun x W W' h hl u => ⟨hC _ _ _ h.1 hl u, h.2.trans (u.mono fun i e => by subst e; exact hT)⟩
theorem FSh.turned {D : Nat} {T : Nat → Prop} {Cf : List Shf × Shf → World → Prop} (hC : Turned (D + 1) Cf) (hT : T (D + 1)) : Turned (D + 1) (FSh T Cf) := fun x W W' h hl u => ⟨hC _ _ _ h.1 hl u, h.2.trans (u.mono fun i e => by subst e; exact hT)⟩
theorem EndF.turned {D : Nat} {sh : List Shf} {Cf : List Shf × Shf → World → Prop} (hC : Turned (D + 1) Cf) : Turned (D + 1) (fun (_ : Unit) W => EndF sh Cf W) := fun _ W W' h hl u => by
  obtain ⟨pre, v, post, e, h⟩ := h
  exact ⟨pre, v, post, e, hC _ _ _ h hl u⟩
theorem rul_rng {r : Rul} (h : okRul r = true) : (1 ≤ r.rest ∧ r.rest ≤ 20160) ∧ (1 ≤ r.span ∧ r.span ≤ 20160) ∧ (1 ≤ r.work ∧ r.work ≤ 20160) ∧ (1 ≤ r.week ∧ r.week ≤ 20160) ∧ (1 ≤ r.ww ∧ r.ww ≤ 20160) := by simpa only [okRul, decide_eq_true_eq] using h
def okShf (n : Nat) (x : Shf) : Prop := (0 ≤ x.b ∧ x.b ≤ 20160) ∧ (0 ≤ x.e ∧ x.e ≤ 20160) ∧ 0 ≤ x.w ∧ x.w ≤ 20160 * n
theorem inW_rng {s : Sp} {a b : Int} (h : OkSp s) : 0 ≤ inW s a b ∧ inW s a b ≤ 20160 := by unfold OkSp at h; unfold inW; omega
theorem sumI2_rng {B : Int} : ∀ {l : List Int}, (∀ x ∈ l, 0 ≤ x ∧ x ≤ B) → 0 ≤ sumI2 l ∧ sumI2 l ≤ B * l.length
  | [], _ => by simp [sumI2]
  | a :: l, h => by
    have h1 := sumI2_rng (l := l) (fun x hx => h x (List.mem_cons_of_mem _ hx))
    have h2 := h a (by simp)
    have e : B * ((a :: l).length : Int) = B * (l.length : Int) + B := by rw [List.length_cons, Int.natCast_succ, Int.mul_add, Int.mul_one]
    rw [e]
    show 0 ≤ a + sumI2 l ∧ a + sumI2 l ≤ _
    omega
theorem ovl_take {l : List Sp} : ∀ {e : Int}, ovlP e l = true ↔ ∃ k, k < l.length ∧ (nth l k).b < (l.take k).foldl (fun e s => max e s.e) e := by
  induction l with
  | nil => intro e; simp [ovlP]
  | cons s l ih =>
    intro e
    rw [ovlP, Bool.or_eq_true, decide_eq_true_eq, ih]
    constructor
    · rintro (h | ⟨k, hk, h⟩)
      · exact ⟨0, by simp, h⟩
      · exact ⟨k + 1, by simpa using hk, h⟩
    · rintro ⟨k, hk, h⟩
      cases k with
      | zero => exact .inl h
      | succ k => exact .inr ⟨k, by simpa using hk, h⟩
def mxE (l : List Sp) (k : Nat) : Int := (l.take k).foldl (fun e s => max e s.e) 0
theorem mxE_succ {l : List Sp} {k : Nat} (hk : k < l.length) : mxE l (k + 1) = max (mxE l k) (nth l k).e := by unfold mxE; rw [take_nth hk, List.foldl_append]; rfl
theorem ovl_not {l : List Sp} (h : ∀ k, k < l.length → ¬ (nth l k).b < mxE l k) : ovlP 0 l = false := by
  cases hq : ovlP 0 l with
  | false => rfl
  | true => obtain ⟨k, hk, h2⟩ := ovl_take.1 hq; exact absurd h2 (h k hk)
theorem ovl_yes {l : List Sp} {k : Nat} (hk : k < l.length) (h : (nth l k).b < mxE l k) : ovlP 0 l = true := ovl_take.2 ⟨k, hk, h⟩
def BrkC (r : Rul) (b4 b8 : Nat) (wR : World) (pre : List Shf) (W : World) : Prop :=
  Upd (fun i => i = b4 ∨ i = b8 ∨ i = (wR.heap.size + 1)) wR W ∧ Blk W b4 3 [.int .i64 0] ∧ Blk W b8 3 [.int .i64 (if (pre.any fun x => decide (r.work < x.w)) = true then 3 else 0)] ∧ (pre.any fun x => decide (r.span < x.e - x.b)) = false
def BrkF (r : Rul) (b4 b8 : Nat) (wR : World) (p : List Shf × Shf) (W : World) : Prop :=
  Upd (fun i => i = b4 ∨ i = b8 ∨ i = (wR.heap.size + 1)) wR W ∧ Blk W b4 3 [.int .i64 2] ∧ r.span < p.2.e - p.2.b ∧ ∃ v, Blk W b8 3 [v]
theorem BrkC.ext {r : Rul} {b4 b8 : Nat} {wR : World} (pre : List Shf) (W W' : World) (h : BrkC r b4 b8 wR pre W) (u : Ext W W') : BrkC r b4 b8 wR pre W' := ⟨h.1.nx u, h.2.1.kx u, h.2.2.1.kx u, h.2.2.2⟩
theorem BrkF.ext {r : Rul} {b4 b8 : Nat} {wR : World} (p : List Shf × Shf) (W W' : World) (h : BrkF r b4 b8 wR p W) (u : Ext W W') : BrkF r b4 b8 wR p W' := by
  obtain ⟨h1, h2, h3, v, h4⟩ := h
  exact ⟨h1.nx u, h2.kx u, h3, v, h4.kx u⟩
theorem BrkC.turned {r : Rul} {b4 b8 : Nat} {wR : World} : Turned (wR.heap.size + 1) (BrkC r b4 b8 wR) := fun _pre _W _W' h hl u =>
  ⟨h.1.trans (u.mono fun _i e => .inr (.inr e)), h.2.1.keep u (h.2.1.notLoop hl), h.2.2.1.keep u (h.2.2.1.notLoop hl), h.2.2.2⟩
theorem BrkF.turned {r : Rul} {b4 b8 : Nat} {wR : World} : Turned (wR.heap.size + 1) (BrkF r b4 b8 wR) := fun p W W' h hl u => by
  obtain ⟨h1, h2, h3, v, h4⟩ := h
  exact ⟨h1.trans (u.mono fun i e => .inr (.inr e)), h2.keep u (h2.notLoop hl), h3, v, h4.keep u (h4.notLoop hl)⟩
theorem own46 : Own Tryz.prog 46 := ⟨Tryz.f46, func46, by kernel_rfl, by kernel_rfl⟩
theorem own78 : Own Tryz.prog 78 := ⟨Tryz.f78, func78, by kernel_rfl, by kernel_rfl⟩
theorem own52 : Own Tryz.prog 52 := ⟨Tryz.f52, func52, by kernel_rfl, by kernel_rfl⟩
theorem own49 : Own Tryz.prog 49 := ⟨Tryz.f49, func49, by kernel_rfl, by kernel_rfl⟩

theorem shifts_c (r : Rul) (l : List Sp) (al : Option Addr) (_bl _ol cl : Nat) (w0 : World) :
    CallsV Tryz.prog 46 [.agg #[.int .i64 r.rest, .int .i64 r.span, .int .i64 r.work, .int .i64 r.week, .int .i64 r.ww], .slice al l.length cl] w0 (fun v w' => (∃ b1 b2, v = .func (.func 78) #[] #[.pointer (some ⟨b1, 0, none⟩), .pointer (some ⟨b2, 0, none⟩)] ∧ Blk w' b1 103 [.slice al l.length cl] ∧ Blk w' b2 100 [.int .i64 r.rest, .int .i64 r.span, .int .i64 r.work, .int .i64 r.week, .int .i64 r.ww] ∧ w0.heap.size ≤ b1 ∧ w0.heap.size ≤ b2) ∧ Ext w0 w') := by
 refine f_enter (N := 6) func46 rfl rfl rfl (c_seq fun K1 hK1 => (c_region (t_box (cs := [.int .i64 r.rest, .int .i64 r.span, .int .i64 r.work, .int .i64 r.week, .int .i64 r.ww]) rfl rfl rfl rfl (fun bk2 w3 ebk2 sbk2 B4 u5 => ?_))))
 have zu5 := u5.size
 refine t_box (cs := [.slice al l.length cl]) rfl rfl rfl rfl (fun bk7 w8 ebk7 sbk7 B9 u10 => ?_)
 have zu10 := u10.size
 refine t_assign rfl rfl rfl (t_nil' (hK1 _ _ (c_seq fun K12 hK12 => (c_region (t_mkfunc (vs := []) (us := [.pointer (some ⟨bk7, 0, none⟩), .pointer (some ⟨bk2, 0, none⟩)]) rfl rfl rfl rfl (t_assign rfl rfl rfl (t_nil' (hK12 _ _ (c_ret (f_ret1 (v := .func (.func 78) #[] #[.pointer (some ⟨bk7, 0, none⟩), .pointer (some ⟨bk2, 0, none⟩)]) results46 rfl ?_))))))))))
 have B13 := (B4.kx u10)
 exact ⟨⟨bk7, bk2, rfl, B9, B13, by omega, by omega⟩, (((Upd.refl (fun _ => False) w0).nx u5).nx u10)⟩

set_option maxHeartbeats 1000000 in
theorem shifts1_c (r : Rul) (l : List Sp) (al : Option Addr) (bl ol cl ly D b1 b2 : Nat) (T : Nat → Prop) (C : List Shf → World → Prop) (Cf : List Shf × Shf → World → Prop) (R Rf : World → Prop) (w0 : World) (hC : ∀ pre W W', C pre W → Ext W W' → C pre W') (_hCf : ∀ p W W', Cf p W → Ext W W' → Cf p W') (hH : HandsL Tryz.prog ly D encShX (YSh D C) (ZSh T C) (FSh T Cf) R Rf) (h1 : Blk w0 b1 103 [.slice al l.length cl]) (h2 : Blk w0 b2 100 [.int .i64 r.rest, .int .i64 r.span, .int .i64 r.work, .int .i64 r.week, .int .i64 r.ww]) (hl : Sl encSp 2 w0 al bl ol l) (hll : l.length ≤ 100000) (hok : ∀ x ∈ l, OkSp x) (hr : okRul r = true) (_hly : ly = D + 1) (hD : D + 1 < w0.heap.size) (hT1 : ¬ T b1) (hT2 : ¬ T b2) (hTl : 0 < l.length → ¬ T bl) (hR0 : R w0) (hC0 : C [] w0) :
    CallsV Tryz.prog 78 [.func (.yield ly) #[] #[], .pointer (some ⟨b1, 0, none⟩), .pointer (some ⟨b2, 0, none⟩)] w0 (fun _ w' => ((C (shiftsP r l) w' ∧ R w') ∨ (EndF (shiftsP r l) Cf w' ∧ Rf w')) ∧ Upd T w0 w') := by
 have hR : ∀ (_ _ : Unit) W W', R W → Ext W W' → R W' := fun _ _ W W' h u => hH.keep h u (fun h => h) (fun h => h)
 have hCc : ∀ (_ : Unit) pre W W', C pre W → Ext W W' → C pre W' := fun _ => hC
 have hrr := rul_rng hr
 have hb1l := h1.lt
 have hb2l := h2.lt
 refine f_enter (N := 63) func78 rfl rfl rfl (c_seq fun K1 hK1 => (c_region (t_assign rfl rfl rfl (t_nil' (hK1 _ _ (c_block (c_loop (γ := Nat × List Shf) (fun gg => [(0, .func (.yield ly) #[] #[]), (1, .pointer (some ⟨b1, 0, none⟩)), (2, .pointer (some ⟨b2, 0, none⟩)), (4, .int .i64 (gg.1 : Int))]) (fun gg w => Upd (fun i => T i) w0 w ∧ (gg.1 ≤ l.length) ∧ (shiftsP r l = gg.2 ++ shiftsP r (l.drop gg.1)) ∧ (C gg.2 w) ∧ (R w)) (fun gg => l.length - gg.1) (0, []) ⟨rfl, rfl, rfl, rfl, trivial⟩ ⟨Upd.refl _ _, (Nat.zero_le _), rfl, hC0, hR0⟩ ?_)))))))
 intro gg w3 hW K2 hK2
 obtain ⟨p, pre⟩ := gg
 change WC _ _ _ _ _ _ [(0, .func (.yield ly) #[] #[]), (1, .pointer (some ⟨b1, 0, none⟩)), (2, .pointer (some ⟨b2, 0, none⟩)), (4, .int .i64 (p : Int))] _
 change Upd (fun i => T i) w0 w3 ∧ (p ≤ l.length) ∧ (shiftsP r l = pre ++ shiftsP r (l.drop p)) ∧ (C pre w3) ∧ (R w3) at hW
 obtain ⟨u4, I5, I6, I7, I8⟩ := hW
 have zu4 := u4.size
 have E9 := (Upd.refl (fun i => T i) w0).next u4 (fun i hi (h : T i) => show T i by first | omega | assumption)
 have hi := I5; clear I5
 have hsp := I6; clear I6
 have hCk := I7; clear I7
 have hRk := I8; clear I8
 refine c_seq fun K10 hK10 => (c_seq fun K11 hK11 => (c_region (t_move rfl rfl rfl ?_)))
 have B12 := (h1.keep u4 (show ¬ (T b1) by first | omega | assumption))
 refine t_load isAgg103 rfl rfl rfl (B12.get rfl) (t_len underlying103 rfl rfl rfl rfl (t_cmp rfl rfl rfl rfl rfl (t_nil' (hK11 _ _ (c_condp rfl (fun g9 => ?_) (fun g9 => ?_))))))
 ·
  refine c_skip (hK10 _ _ (c_block (c_seq fun K13 hK13 => (c_drawnM follows (fun _ => False) (.look 0 (.look 1 (.look 2 (.look 3 (.look 4 (.look 5 (.look 6 (.look 7 (.look 8 (.look 9 (.look 10 (.act 11 (.act 12 .done .stop) .stop)))))))))))) (by kernel_rfl) fun w14 u15 => ?_))))
  have zu15 := u15.size
  have B17 := (B12.kx u15)
  refine y_load isAgg103 rfl rfl rfl (B17.get rfl) (fun h => h) (y_move rfl rfl rfl ?_)
  have D18 := ((hl.keep u4 (fun hp => by have hq_ := hTl hp; have hq2_ := hl.lt hp; show ¬ (T bl); first | exact hq_ | omega)).kE u15)
  have i19 : p < l.length := (by omega)
  refine y_index (j := p) underlying103 sizeOf109 rfl rfl rfl rfl (D18.addr (by omega)) rfl i19 (y_field underlying109 rfl sizeOf3 (ol + p * 2 + 0) rfl rfl rfl rfl ?_)
  have D20 := ((hl.keep u4 (fun hp => by have hq_ := hTl hp; have hq2_ := hl.lt hp; show ¬ (T bl); first | exact hq_ | omega)).kE u15)
  refine y_load isAgg3 rfl rfl rfl ((D20.at_ p (by omega)) 0 _ rfl) (fun h => h) (y_load isAgg103 rfl rfl rfl (B17.get rfl) (fun h => h) (y_move rfl rfl rfl ?_))
  have i21 : p < l.length := (by omega)
  refine y_index (j := p) underlying103 sizeOf109 rfl rfl rfl rfl (D18.addr (by omega)) rfl i21 (y_field underlying109 rfl sizeOf3 (ol + p * 2 + 1) rfl rfl rfl rfl (y_load isAgg3 rfl rfl rfl ((D20.at_ p (by omega)) 1 _ rfl) (fun h => h) (y_build (ps := [(0, .int .i64 ((nth l p).b)), (1, .int .i64 ((nth l p).e))]) (v := .agg #[.int .i64 ((nth l p).b), .int .i64 ((nth l p).e), .int .i64 0]) rfl rfl ⟨rfl, rfl⟩ (fun w => by kernel_rfl) (s_do (t_alloc (cs := [.int .i64 0, .int .i64 0, .int .i64 0]) zeroValue44 rfl rfl rfl (fun bk22 w23 ebk22 sbk22 B24 u25 => ?_))))))
  have zu25 := u25.size
  refine s_next ((Upd.refl _ _).nx u25) (s_do (t_st (vs := [.int .i64 ((nth l p).b), .int .i64 ((nth l p).e), .int .i64 0]) sizeOf44 rfl rfl rfl B24 rfl rfl rfl rfl (fun w27 sw27 B29 u28 => ?_)))
  have zu28 := u28.size
  have B29 : Blk w27 bk22 44 [.int .i64 ((nth l p).b), .int .i64 ((nth l p).e), .int .i64 0] := B29
  refine s_next ((Upd.refl _ _).next u28 (fun i hi (h : i = bk22) => show w14.heap.size ≤ i ∨ (False) by first | omega | exact .inr h)) (s_nil (hK13 _ _ (c_seq fun K31 hK31 => (c_block ?_))))
  have hbll := hl.lt (show 0 < l.length by omega)
  have hoi := hok _ (nth_mem (xs := l) (i := p) (by omega))
  have hnew := sh_new (r := r) (l := l) (i := p) (by omega) hrr.1.1 hoi
  unfold OkSp at hoi
  refine c_loop (γ := Nat × Shf) (fun gg => [(0, .func (.yield ly) #[] #[]), (1, .pointer (some ⟨b1, 0, none⟩)), (2, .pointer (some ⟨b2, 0, none⟩)), (4, .int .i64 (gg.1 : Int)), (5, .pointer (some ⟨bk22, 0, none⟩))]) (fun gg w => Upd (fun i => i = bk22) w27 w ∧ Blk w bk22 44 [.int .i64 gg.2.b, .int .i64 gg.2.e, .int .i64 gg.2.w] ∧ (gg.1 ≤ l.length) ∧ (shGo r gg.2 (l.drop gg.1) = shiftsP r (l.drop p)) ∧ (okShf gg.1 gg.2) ∧ ((gg.1 = p ∧ gg.2.e = (nth l p).e) ∨ p < gg.1)) (fun gg => l.length - gg.1) (p, ⟨(nth l p).b, (nth l p).e, 0⟩) ⟨rfl, rfl, rfl, rfl, rfl, trivial⟩ ⟨Upd.refl _ _, B29, (by show p ≤ _; omega), hnew, (by show okShf p ⟨_, _, _⟩; unfold okShf; simp only []; omega), (.inl ⟨rfl, rfl⟩)⟩ ?_
  intro gg w33 hW K32 hK32
  obtain ⟨j, x⟩ := gg
  change WC _ _ _ _ _ _ [(0, .func (.yield ly) #[] #[]), (1, .pointer (some ⟨b1, 0, none⟩)), (2, .pointer (some ⟨b2, 0, none⟩)), (4, .int .i64 (j : Int)), (5, .pointer (some ⟨bk22, 0, none⟩))] _
  change Upd (fun i => i = bk22) w27 w33 ∧ Blk w33 bk22 44 [.int .i64 x.b, .int .i64 x.e, .int .i64 x.w] ∧ (j ≤ l.length) ∧ (shGo r x (l.drop j) = shiftsP r (l.drop p)) ∧ (okShf j x) ∧ ((j = p ∧ x.e = (nth l p).e) ∨ p < j) at hW
  obtain ⟨u34, I35, I36, I37, I38, I39⟩ := hW
  have zu34 := u34.size
  have hj := I36; clear I36
  have hsg := I37; clear I37
  have hox := I38; clear I38
  have hij := I39; clear I39
  unfold okShf at hox
  refine c_seq fun K41 hK41 => (c_cut (γ := Bool) (fun q => [(0, .func (.yield ly) #[] #[]), (1, .pointer (some ⟨b1, 0, none⟩)), (2, .pointer (some ⟨b2, 0, none⟩)), (4, .int .i64 (j : Int)), (5, .pointer (some ⟨bk22, 0, none⟩)), (38, .bool q)]) (fun q w => Upd (fun _ => False) w33 w ∧ (q = true ↔ (j < l.length ∧ (nth l j).b < x.e + r.rest))) (fun K43 hK43 => ?_) ?_)
  ·
   refine c_drawnM follows (fun _ => False) (.look 0 (.look 1 (.look 2 (.look 3 (.look 4 (.look 5 (.look 6 (.look 7 (.look 8 (.look 9 (.look 10 (.look 11 (.look 12 (.look 13 (.look 14 (.look 15 (.look 16 (.look 17 .done)))))))))))))))))) (by kernel_rfl) fun w46 u47 => ?_
   have zu47 := u47.size
   refine y_move rfl rfl rfl ?_
   have B49 := (((((B12.kx u15).kx u25).keep u28 (by omega)).keep u34 (by omega)).kx u47)
   refine y_load isAgg103 rfl rfl rfl (B49.get rfl) (fun h => h) (y_len underlying103 rfl rfl rfl rfl (y_cmp rfl rfl rfl rfl rfl (y_move rfl rfl rfl (y_splitp 25 rfl (fun g25 => ?_) (fun g25 => ?_)))))
   ·
    refine y_load isAgg103 rfl rfl rfl (B49.get rfl) (fun h => h) (y_move rfl rfl rfl ?_)
    have D50 := ((((D18.kE u25).keep u28 (fun hp => by have hq_ := hTl hp; have hq2_ := hl.lt hp; show ¬ (bl = bk22); first | exact hq_ | omega)).keep u34 (fun hp => by have hq_ := hTl hp; have hq2_ := hl.lt hp; show ¬ (bl = bk22); first | exact hq_ | omega)).kE u47)
    have i51 : j < l.length := (by omega)
    refine y_index (j := j) underlying103 sizeOf109 rfl rfl rfl rfl (D50.addr (by omega)) rfl i51 (y_field underlying109 rfl sizeOf3 (ol + j * 2 + 0) rfl rfl rfl rfl ?_)
    have D52 := ((((D18.kE u25).keep u28 (fun hp => by have hq_ := hTl hp; have hq2_ := hl.lt hp; show ¬ (bl = bk22); first | exact hq_ | omega)).keep u34 (fun hp => by have hq_ := hTl hp; have hq2_ := hl.lt hp; show ¬ (bl = bk22); first | exact hq_ | omega)).kE u47)
    refine y_load isAgg3 rfl rfl rfl ((D52.at_ j (by omega)) 0 _ rfl) (fun h => h) (y_field underlying44 rfl sizeOf3 (1) rfl rfl rfl rfl ?_)
    have B53 := (I35.kx u47)
    refine y_load isAgg3 rfl rfl rfl (B53.get rfl) (fun h => h) (y_field underlying100 rfl sizeOf23 (0) rfl rfl rfl rfl (y_field underlying23 rfl sizeOf3 (0) rfl rfl rfl rfl ?_))
    have B54 := ((((((h2.keep u4 (show ¬ (T b2) by first | omega | assumption)).kx u15).kx u25).keep u28 (by omega)).keep u34 (by omega)).kx u47)
    refine y_load isAgg3 rfl rfl rfl (B54.get rfl) (fun h => h) (y_ari rfl rfl rfl rfl rfl (by omega) (y_cmp rfl rfl rfl rfl rfl (y_pick_t rfl rfl rfl rfl (s_nil ?_))))
    exact hK43 (decide ((nth l j).b < (x.e + r.rest))) _ _ ⟨rfl, rfl, rfl, rfl, rfl, rfl, trivial⟩ ⟨((Upd.refl _ _).nx u47), (decide_eq_true_iff.trans ⟨fun h => ⟨by omega, by omega⟩, fun h => by omega⟩)⟩
   refine y_skip rfl rfl rfl (y_skip rfl rfl rfl (y_skip rfl rfl rfl (y_skip rfl rfl rfl (y_skip rfl rfl rfl (y_skip rfl rfl rfl (y_skip rfl rfl rfl (y_skip rfl rfl rfl (y_skip rfl rfl rfl (y_skip rfl rfl rfl (y_skip rfl rfl rfl (y_skip rfl rfl rfl (y_pick_f rfl rfl rfl rfl (s_nil ?_)))))))))))))
   exact hK43 false _ _ ⟨rfl, rfl, rfl, rfl, rfl, rfl, trivial⟩ ⟨((Upd.refl _ _).nx u47), ⟨fun h => (by cases h), fun h => absurd h.1 (by omega)⟩⟩
  intro q w44 hW
  obtain ⟨u45, I55⟩ := hW
  have zu45 := u45.size
  have hq := I55; clear I55
  refine c_cond rfl (fun g38 => ?_) (fun g38 => ?_)
  ·
   have hq8 := hq.1 g38
   have hoj := hok _ (nth_mem (xs := l) (i := j) (by omega))
   unfold OkSp at hoj
   refine c_skip (hK41 _ _ (c_seq fun K57 hK57 => (c_block (c_drawnM follows (fun i => i = bk22) (.look 0 (.look 2 (.look 3 (.look 4 (.look 5 (.look 6 (.look 8 (.look 10 (.look 11 (.look 12 (.look 13 (.act 1 (.look 7 (.act 9 (.look 16 (.act 14 (.look 15 (.act 17 (.look 18 (.act 19 .done .stop)) .stop)) .stop)) (.act 14 (.act 9 (.look 15 (.look 16 (.act 17 (.look 18 (.act 19 .done .stop)) .stop))) .stop) .stop))) (.act 9 (.act 1 (.look 7 (.look 16 (.act 14 (.look 15 (.act 17 (.look 18 (.act 19 .done .stop)) .stop)) .stop))) (.act 14 (.look 15 (.act 1 (.look 7 (.look 16 (.act 17 (.look 18 (.act 19 .done .stop)) .stop))) .stop)) .stop)) (.act 14 (.act 1 (.look 7 (.act 9 (.look 15 (.look 16 (.act 17 (.look 18 (.act 19 .done .stop)) .stop))) .stop)) (.act 9 (.look 15 (.act 1 (.look 7 (.look 16 (.act 17 (.look 18 (.act 19 .done .stop)) .stop))) .stop)) .stop)) .stop)))))))))))))) (by kernel_rfl) fun w58 u59 => ?_))))
   have zu59 := u59.size
   refine y_field underlying44 rfl sizeOf3 (1) rfl rfl rfl rfl ?_
   have B61 := ((((((B12.kx u15).kx u25).keep u28 (by omega)).keep u34 (by omega)).kx u45).kx u59)
   refine y_load isAgg103 rfl rfl rfl (B61.get rfl) (by show ¬ (b1 = bk22); first | omega | assumption) (y_move rfl rfl rfl ?_)
   have D62 := (((((D18.kE u25).keep u28 (fun hp => by have hq_ := hTl hp; have hq2_ := hl.lt hp; show ¬ (bl = bk22); first | exact hq_ | omega)).keep u34 (fun hp => by have hq_ := hTl hp; have hq2_ := hl.lt hp; show ¬ (bl = bk22); first | exact hq_ | omega)).kE u45).kE u59)
   have i63 : j < l.length := (by omega)
   refine y_index (j := j) underlying103 sizeOf109 rfl rfl rfl rfl (D62.addr (by omega)) rfl i63 (y_field underlying109 rfl sizeOf3 (ol + j * 2 + 1) rfl rfl rfl rfl ?_)
   have D64 := (((((D18.kE u25).keep u28 (fun hp => by have hq_ := hTl hp; have hq2_ := hl.lt hp; show ¬ (bl = bk22); first | exact hq_ | omega)).keep u34 (fun hp => by have hq_ := hTl hp; have hq2_ := hl.lt hp; show ¬ (bl = bk22); first | exact hq_ | omega)).kE u45).kE u59)
   refine y_load isAgg3 rfl rfl rfl ((D64.at_ j (by omega)) 1 _ rfl) (by show ¬ (bl = bk22); first | omega | assumption) (y_field underlying44 rfl sizeOf3 (2) rfl rfl rfl rfl (y_load isAgg103 rfl rfl rfl (B61.get rfl) (by show ¬ (b1 = bk22); first | omega | assumption) (y_move rfl rfl rfl ?_)))
   have i65 : j < l.length := (by omega)
   refine y_index (j := j) underlying103 sizeOf109 rfl rfl rfl rfl (D62.addr (by omega)) rfl i65 (y_loadN (vs := [.int .i64 ((nth l j).b), .int .i64 ((nth l j).e)]) isAgg109 sizeOf109 rfl rfl rfl ((D64.at_ j (by omega)).sub 0 2) rfl (by show ¬ (bl = bk22); first | omega | assumption) (s_or ?_ ?_))
   ·
    refine s_do ?_
    have B66 := ((I35.kx u45).kx u59)
    refine t_load isAgg3 rfl rfl rfl (B66.get rfl) (s_next (Upd.refl _ _) (y_max rfl rfl rfl rfl (s_or ?_ ?_)))
    ·
     refine s_do (t_load isAgg3 rfl rfl rfl (B66.get rfl) (s_next (Upd.refl _ _) (y_field underlying44 rfl sizeOf3 (1) rfl rfl rfl rfl (s_do (t_call own79 rfl rfl rfl rfl (work_c (nth l j) _ (hok _ (nth_mem (by omega)))) (fun v67 w68 r70 => ?_))))))
     obtain ⟨rfl, u69⟩ := r70
     have zu69 := u69.size
     refine s_next ((Upd.refl _ _).nx u69) (y_ari rfl rfl rfl rfl rfl (by omega) (s_do ?_))
     have B72 := (B66.kx u69)
     refine t_st (vs := [.int .i64 (max x.e ((nth l j).e))]) sizeOf3 rfl rfl rfl B72 rfl rfl rfl rfl (fun w73 sw73 B75 u74 => ?_)
     have zu74 := u74.size
     have B75 : Blk w73 bk22 44 [.int .i64 x.b, .int .i64 (max x.e ((nth l j).e)), .int .i64 x.w] := B75
     refine s_next ((Upd.refl _ _).next u74 (fun i hi (h : i = bk22) => show w58.heap.size ≤ i ∨ (i = bk22) by first | omega | exact .inr h)) (y_field underlying44 rfl sizeOf3 (2) rfl rfl rfl rfl (s_do (t_st (vs := [.int .i64 (x.w + ((nth l j).e - (nth l j).b))]) sizeOf3 rfl rfl rfl B75 rfl rfl rfl rfl (fun w77 sw77 B79 u78 => ?_))))
     have zu78 := u78.size
     have B79 : Blk w77 bk22 44 [.int .i64 x.b, .int .i64 (max x.e ((nth l j).e)), .int .i64 (x.w + ((nth l j).e - (nth l j).b))] := B79
     refine s_next ((Upd.refl _ _).next u78 (fun i hi (h : i = bk22) => show w58.heap.size ≤ i ∨ (i = bk22) by first | omega | exact .inr h)) (s_nil (hK57 _ _ (c_region (t_move rfl rfl rfl (t_ari rfl rfl rfl rfl rfl (by omega) (t_assign rfl rfl rfl (t_nil' ?_)))))))
     exact hK32 (j + 1, ⟨x.b, max x.e (nth l j).e, x.w + ((nth l j).e - (nth l j).b)⟩) _ _ (by show l.length - (j + 1) < l.length - j; omega) ⟨rfl, rfl, rfl, rfl, rfl, trivial⟩ ⟨(((((u34.nx u45).nx u59).nx u69).next u74 (fun i hi h => by omega)).next u78 (fun i hi h => by omega)), B79, (by show j + 1 ≤ _; omega), (by show shGo r ⟨_, _, _⟩ (l.drop (j + 1)) = _; rw [← sh_in (by omega) (by omega)]; exact hsg), (by show okShf (j + 1) ⟨_, _, _⟩; unfold okShf; simp only []; omega), (.inr (by show p < j + 1; omega))⟩
    refine s_do (t_call own79 rfl rfl rfl rfl (work_c (nth l j) _ (hok _ (nth_mem (by omega)))) (fun v81 w82 r84 => ?_))
    obtain ⟨rfl, u83⟩ := r84
    have zu83 := u83.size
    refine s_next ((Upd.refl _ _).nx u83) (s_do ?_)
    have B86 := (B66.kx u83)
    refine t_load isAgg3 rfl rfl rfl (B86.get rfl) (s_next (Upd.refl _ _) (y_ari rfl rfl rfl rfl rfl (by omega) (y_field underlying44 rfl sizeOf3 (1) rfl rfl rfl rfl (s_do (t_st (vs := [.int .i64 (max x.e ((nth l j).e))]) sizeOf3 rfl rfl rfl B86 rfl rfl rfl rfl (fun w87 sw87 B89 u88 => ?_))))))
    have zu88 := u88.size
    have B89 : Blk w87 bk22 44 [.int .i64 x.b, .int .i64 (max x.e ((nth l j).e)), .int .i64 x.w] := B89
    refine s_next ((Upd.refl _ _).next u88 (fun i hi (h : i = bk22) => show w58.heap.size ≤ i ∨ (i = bk22) by first | omega | exact .inr h)) (y_field underlying44 rfl sizeOf3 (2) rfl rfl rfl rfl (s_do (t_st (vs := [.int .i64 (x.w + ((nth l j).e - (nth l j).b))]) sizeOf3 rfl rfl rfl B89 rfl rfl rfl rfl (fun w91 sw91 B93 u92 => ?_))))
    have zu92 := u92.size
    have B93 : Blk w91 bk22 44 [.int .i64 x.b, .int .i64 (max x.e ((nth l j).e)), .int .i64 (x.w + ((nth l j).e - (nth l j).b))] := B93
    refine s_next ((Upd.refl _ _).next u92 (fun i hi (h : i = bk22) => show w58.heap.size ≤ i ∨ (i = bk22) by first | omega | exact .inr h)) (s_nil (hK57 _ _ (c_region (t_move rfl rfl rfl (t_ari rfl rfl rfl rfl rfl (by omega) (t_assign rfl rfl rfl (t_nil' ?_)))))))
    exact hK32 (j + 1, ⟨x.b, max x.e (nth l j).e, x.w + ((nth l j).e - (nth l j).b)⟩) _ _ (by show l.length - (j + 1) < l.length - j; omega) ⟨rfl, rfl, rfl, rfl, rfl, trivial⟩ ⟨(((((u34.nx u45).nx u59).nx u83).next u88 (fun i hi h => by omega)).next u92 (fun i hi h => by omega)), B93, (by show j + 1 ≤ _; omega), (by show shGo r ⟨_, _, _⟩ (l.drop (j + 1)) = _; rw [← sh_in (by omega) (by omega)]; exact hsg), (by show okShf (j + 1) ⟨_, _, _⟩; unfold okShf; simp only []; omega), (.inr (by show p < j + 1; omega))⟩
   refine s_or ?_ ?_
   ·
    refine s_do ?_
    have B95 := ((I35.kx u45).kx u59)
    refine t_load isAgg3 rfl rfl rfl (B95.get rfl) (s_next (Upd.refl _ _) (s_or ?_ ?_))
    ·
     refine s_do (t_load isAgg3 rfl rfl rfl (B95.get rfl) (s_next (Upd.refl _ _) (y_max rfl rfl rfl rfl (y_field underlying44 rfl sizeOf3 (1) rfl rfl rfl rfl (s_do (t_call own79 rfl rfl rfl rfl (work_c (nth l j) _ (hok _ (nth_mem (by omega)))) (fun v96 w97 r99 => ?_)))))))
     obtain ⟨rfl, u98⟩ := r99
     have zu98 := u98.size
     refine s_next ((Upd.refl _ _).nx u98) (y_ari rfl rfl rfl rfl rfl (by omega) (s_do ?_))
     have B101 := (B95.kx u98)
     refine t_st (vs := [.int .i64 (max x.e ((nth l j).e))]) sizeOf3 rfl rfl rfl B101 rfl rfl rfl rfl (fun w102 sw102 B104 u103 => ?_)
     have zu103 := u103.size
     have B104 : Blk w102 bk22 44 [.int .i64 x.b, .int .i64 (max x.e ((nth l j).e)), .int .i64 x.w] := B104
     refine s_next ((Upd.refl _ _).next u103 (fun i hi (h : i = bk22) => show w58.heap.size ≤ i ∨ (i = bk22) by first | omega | exact .inr h)) (y_field underlying44 rfl sizeOf3 (2) rfl rfl rfl rfl (s_do (t_st (vs := [.int .i64 (x.w + ((nth l j).e - (nth l j).b))]) sizeOf3 rfl rfl rfl B104 rfl rfl rfl rfl (fun w106 sw106 B108 u107 => ?_))))
     have zu107 := u107.size
     have B108 : Blk w106 bk22 44 [.int .i64 x.b, .int .i64 (max x.e ((nth l j).e)), .int .i64 (x.w + ((nth l j).e - (nth l j).b))] := B108
     refine s_next ((Upd.refl _ _).next u107 (fun i hi (h : i = bk22) => show w58.heap.size ≤ i ∨ (i = bk22) by first | omega | exact .inr h)) (s_nil (hK57 _ _ (c_region (t_move rfl rfl rfl (t_ari rfl rfl rfl rfl rfl (by omega) (t_assign rfl rfl rfl (t_nil' ?_)))))))
     exact hK32 (j + 1, ⟨x.b, max x.e (nth l j).e, x.w + ((nth l j).e - (nth l j).b)⟩) _ _ (by show l.length - (j + 1) < l.length - j; omega) ⟨rfl, rfl, rfl, rfl, rfl, trivial⟩ ⟨(((((u34.nx u45).nx u59).nx u98).next u103 (fun i hi h => by omega)).next u107 (fun i hi h => by omega)), B108, (by show j + 1 ≤ _; omega), (by show shGo r ⟨_, _, _⟩ (l.drop (j + 1)) = _; rw [← sh_in (by omega) (by omega)]; exact hsg), (by show okShf (j + 1) ⟨_, _, _⟩; unfold okShf; simp only []; omega), (.inr (by show p < j + 1; omega))⟩
    refine s_do (t_call own79 rfl rfl rfl rfl (work_c (nth l j) _ (hok _ (nth_mem (by omega)))) (fun v110 w111 r113 => ?_))
    obtain ⟨rfl, u112⟩ := r113
    have zu112 := u112.size
    refine s_next ((Upd.refl _ _).nx u112) (y_ari rfl rfl rfl rfl rfl (by omega) (s_do ?_))
    have B115 := (B95.kx u112)
    refine t_load isAgg3 rfl rfl rfl (B115.get rfl) (s_next (Upd.refl _ _) (y_max rfl rfl rfl rfl (y_field underlying44 rfl sizeOf3 (1) rfl rfl rfl rfl (s_do (t_st (vs := [.int .i64 (max x.e ((nth l j).e))]) sizeOf3 rfl rfl rfl B115 rfl rfl rfl rfl (fun w116 sw116 B118 u117 => ?_))))))
    have zu117 := u117.size
    have B118 : Blk w116 bk22 44 [.int .i64 x.b, .int .i64 (max x.e ((nth l j).e)), .int .i64 x.w] := B118
    refine s_next ((Upd.refl _ _).next u117 (fun i hi (h : i = bk22) => show w58.heap.size ≤ i ∨ (i = bk22) by first | omega | exact .inr h)) (y_field underlying44 rfl sizeOf3 (2) rfl rfl rfl rfl (s_do (t_st (vs := [.int .i64 (x.w + ((nth l j).e - (nth l j).b))]) sizeOf3 rfl rfl rfl B118 rfl rfl rfl rfl (fun w120 sw120 B122 u121 => ?_))))
    have zu121 := u121.size
    have B122 : Blk w120 bk22 44 [.int .i64 x.b, .int .i64 (max x.e ((nth l j).e)), .int .i64 (x.w + ((nth l j).e - (nth l j).b))] := B122
    refine s_next ((Upd.refl _ _).next u121 (fun i hi (h : i = bk22) => show w58.heap.size ≤ i ∨ (i = bk22) by first | omega | exact .inr h)) (s_nil (hK57 _ _ (c_region (t_move rfl rfl rfl (t_ari rfl rfl rfl rfl rfl (by omega) (t_assign rfl rfl rfl (t_nil' ?_)))))))
    exact hK32 (j + 1, ⟨x.b, max x.e (nth l j).e, x.w + ((nth l j).e - (nth l j).b)⟩) _ _ (by show l.length - (j + 1) < l.length - j; omega) ⟨rfl, rfl, rfl, rfl, rfl, trivial⟩ ⟨(((((u34.nx u45).nx u59).nx u112).next u117 (fun i hi h => by omega)).next u121 (fun i hi h => by omega)), B122, (by show j + 1 ≤ _; omega), (by show shGo r ⟨_, _, _⟩ (l.drop (j + 1)) = _; rw [← sh_in (by omega) (by omega)]; exact hsg), (by show okShf (j + 1) ⟨_, _, _⟩; unfold okShf; simp only []; omega), (.inr (by show p < j + 1; omega))⟩
   refine s_do (t_call own79 rfl rfl rfl rfl (work_c (nth l j) _ (hok _ (nth_mem (by omega)))) (fun v124 w125 r127 => ?_))
   obtain ⟨rfl, u126⟩ := r127
   have zu126 := u126.size
   refine s_next ((Upd.refl _ _).nx u126) (s_or ?_ ?_)
   ·
    refine s_do ?_
    have B129 := (((I35.kx u45).kx u59).kx u126)
    refine t_load isAgg3 rfl rfl rfl (B129.get rfl) (s_next (Upd.refl _ _) (y_max rfl rfl rfl rfl (s_do (t_load isAgg3 rfl rfl rfl (B129.get rfl) (s_next (Upd.refl _ _) (y_ari rfl rfl rfl rfl rfl (by omega) (y_field underlying44 rfl sizeOf3 (1) rfl rfl rfl rfl (s_do (t_st (vs := [.int .i64 (max x.e ((nth l j).e))]) sizeOf3 rfl rfl rfl B129 rfl rfl rfl rfl (fun w130 sw130 B132 u131 => ?_))))))))))
    have zu131 := u131.size
    have B132 : Blk w130 bk22 44 [.int .i64 x.b, .int .i64 (max x.e ((nth l j).e)), .int .i64 x.w] := B132
    refine s_next ((Upd.refl _ _).next u131 (fun i hi (h : i = bk22) => show w58.heap.size ≤ i ∨ (i = bk22) by first | omega | exact .inr h)) (y_field underlying44 rfl sizeOf3 (2) rfl rfl rfl rfl (s_do (t_st (vs := [.int .i64 (x.w + ((nth l j).e - (nth l j).b))]) sizeOf3 rfl rfl rfl B132 rfl rfl rfl rfl (fun w134 sw134 B136 u135 => ?_))))
    have zu135 := u135.size
    have B136 : Blk w134 bk22 44 [.int .i64 x.b, .int .i64 (max x.e ((nth l j).e)), .int .i64 (x.w + ((nth l j).e - (nth l j).b))] := B136
    refine s_next ((Upd.refl _ _).next u135 (fun i hi (h : i = bk22) => show w58.heap.size ≤ i ∨ (i = bk22) by first | omega | exact .inr h)) (s_nil (hK57 _ _ (c_region (t_move rfl rfl rfl (t_ari rfl rfl rfl rfl rfl (by omega) (t_assign rfl rfl rfl (t_nil' ?_)))))))
    exact hK32 (j + 1, ⟨x.b, max x.e (nth l j).e, x.w + ((nth l j).e - (nth l j).b)⟩) _ _ (by show l.length - (j + 1) < l.length - j; omega) ⟨rfl, rfl, rfl, rfl, rfl, trivial⟩ ⟨(((((u34.nx u45).nx u59).nx u126).next u131 (fun i hi h => by omega)).next u135 (fun i hi h => by omega)), B136, (by show j + 1 ≤ _; omega), (by show shGo r ⟨_, _, _⟩ (l.drop (j + 1)) = _; rw [← sh_in (by omega) (by omega)]; exact hsg), (by show okShf (j + 1) ⟨_, _, _⟩; unfold okShf; simp only []; omega), (.inr (by show p < j + 1; omega))⟩
   refine s_do ?_
   have B138 := (((I35.kx u45).kx u59).kx u126)
   refine t_load isAgg3 rfl rfl rfl (B138.get rfl) (s_next (Upd.refl _ _) (y_ari rfl rfl rfl rfl rfl (by omega) (s_do (t_load isAgg3 rfl rfl rfl (B138.get rfl) (s_next (Upd.refl _ _) (y_max rfl rfl rfl rfl (y_field underlying44 rfl sizeOf3 (1) rfl rfl rfl rfl (s_do (t_st (vs := [.int .i64 (max x.e ((nth l j).e))]) sizeOf3 rfl rfl rfl B138 rfl rfl rfl rfl (fun w139 sw139 B141 u140 => ?_))))))))))
   have zu140 := u140.size
   have B141 : Blk w139 bk22 44 [.int .i64 x.b, .int .i64 (max x.e ((nth l j).e)), .int .i64 x.w] := B141
   refine s_next ((Upd.refl _ _).next u140 (fun i hi (h : i = bk22) => show w58.heap.size ≤ i ∨ (i = bk22) by first | omega | exact .inr h)) (y_field underlying44 rfl sizeOf3 (2) rfl rfl rfl rfl (s_do (t_st (vs := [.int .i64 (x.w + ((nth l j).e - (nth l j).b))]) sizeOf3 rfl rfl rfl B141 rfl rfl rfl rfl (fun w143 sw143 B145 u144 => ?_))))
   have zu144 := u144.size
   have B145 : Blk w143 bk22 44 [.int .i64 x.b, .int .i64 (max x.e ((nth l j).e)), .int .i64 (x.w + ((nth l j).e - (nth l j).b))] := B145
   refine s_next ((Upd.refl _ _).next u144 (fun i hi (h : i = bk22) => show w58.heap.size ≤ i ∨ (i = bk22) by first | omega | exact .inr h)) (s_nil (hK57 _ _ (c_region (t_move rfl rfl rfl (t_ari rfl rfl rfl rfl rfl (by omega) (t_assign rfl rfl rfl (t_nil' ?_)))))))
   exact hK32 (j + 1, ⟨x.b, max x.e (nth l j).e, x.w + ((nth l j).e - (nth l j).b)⟩) _ _ (by show l.length - (j + 1) < l.length - j; omega) ⟨rfl, rfl, rfl, rfl, rfl, trivial⟩ ⟨(((((u34.nx u45).nx u59).nx u126).next u140 (fun i hi h => by omega)).next u144 (fun i hi h => by omega)), B145, (by show j + 1 ≤ _; omega), (by show shGo r ⟨_, _, _⟩ (l.drop (j + 1)) = _; rw [← sh_in (by omega) (by omega)]; exact hsg), (by show okShf (j + 1) ⟨_, _, _⟩; unfold okShf; simp only []; omega), (.inr (by show p < j + 1; omega))⟩
  have hq9 : ¬ (j < l.length ∧ (nth l j).b < x.e + r.rest) := fun h => by rw [hq.2 h] at g38; cases g38
  have hlt : p < j := by
    rcases hij with h | h
    · exact absurd ⟨by omega, by rw [h.1]; omega⟩ hq9
    · exact h
  have hpl : pre.length < 100000 := by
    have h9 := shifts_len (r := r) (l := l)
    rw [hsp, ← hsg, sh_exit hq9, List.length_append, List.length_cons] at h9; omega
  refine c_exit (hK31 _ _ (c_seq fun K147 hK147 => (c_region (t_move rfl rfl rfl ?_))))
  have B148 := (I35.kx u45)
  refine t_loadN (vs := [.int .i64 x.b, .int .i64 x.e, .int .i64 x.w]) isAgg44 sizeOf44 rfl rfl rfl (B148.at.sub 0 3) rfl (t_yield (vs := [.agg #[.int .i64 x.b, .int .i64 x.e, .int .i64 x.w]]) rfl rfl rfl rfl (hH.hand ⟨pre, x, w44⟩ _ ⟨(hC _ _ _ hCk ((((((Upd.refl (fun _ => False) _).nx u15).nx u25).next u28 (fun i hi (h : i = bk22) => show False by first | omega | assumption)).next u34 (fun i hi (h : i = bk22) => show False by first | omega | assumption)).nx u45)), ⟨⟨by show (0 ≤ x.b ∧ x.b ≤ 20160) ∧ (0 ≤ x.e ∧ x.e ≤ 20160) ∧ 0 ≤ x.w; omega, hpl⟩, by omega⟩, Upd.refl _ _⟩ (hR () () _ _ hRk ((((((Upd.refl (fun _ => False) _).nx u15).nx u25).next u28 (fun i hi (h : i = bk22) => show False by first | omega | assumption)).next u34 (fun i hi (h : i = bk22) => show False by first | omega | assumption)).nx u45))) (by rintro e w' (⟨rfl, _⟩ | ⟨rfl, _⟩) <;> exact ⟨_, rfl⟩) (fun v149 w150 r151 => ?_))
  rcases r151 with ⟨hvr151, hrr151⟩ | ⟨hvr151, hrr151⟩ <;> injection hvr151 with hvr151 <;> subst hvr151
  ·
   obtain ⟨⟨hzC, u152⟩, hzR⟩ := hrr151
   have zu152 := u152.size
   refine t_not rfl rfl rfl (t_nil' (hK147 _ _ (c_cond_f rfl (c_skip ?_))))
   exact hK2 (j, pre ++ [x]) _ _ (by show l.length - j < l.length - p; omega) ⟨rfl, rfl, rfl, rfl, trivial⟩ ⟨((((((u4.nx u15).nx u25).next u28 (fun i hi (h : i = bk22) => show T i by first | omega | assumption)).next u34 (fun i hi (h : i = bk22) => show T i by first | omega | assumption)).nx u45).next u152 (fun i hi (h : T i) => show T i by first | omega | assumption)), (by omega), (by show _ = (pre ++ [x]) ++ _; rw [hsp, ← hsg, sh_exit hq9, List.append_assoc]; rfl), hzC, hzR⟩
  obtain ⟨⟨hzF, u152⟩, hzR⟩ := hrr151
  have zu152 := u152.size
  refine t_not rfl rfl rfl (t_nil' (hK147 _ _ (c_cond_t rfl (c_ret (f_ret0 results78 ?_)))))
  exact ⟨.inr ⟨⟨pre, x, shiftsP r (l.drop j), by rw [hsp, ← hsg, sh_exit hq9], hzF⟩, hzR⟩, ((((((E9.nx u15).nx u25).next u28 (fun i hi (h : i = bk22) => show T i by first | omega | assumption)).next u34 (fun i hi (h : i = bk22) => show T i by first | omega | assumption)).nx u45).next u152 (fun i hi (h : T i) => show T i by first | omega | assumption))⟩
 refine c_exit (f_ret0 results78 ?_)
 exact ⟨.inl ⟨by rw [show shiftsP r l = pre by rw [hsp, List.drop_of_length_le (by omega), shiftsP, List.append_nil]]; exact hCk, hRk⟩, E9⟩

set_option maxHeartbeats 1000000 in
theorem broken_c (r : Rul) (l : List Sp) (al : Option Addr) (bl ol cl : Nat) (w0 : World) (hl : Sl encSp 2 w0 al bl ol l) (hll : l.length ≤ 100000) (hok : ∀ x ∈ l, OkSp x) (hr : okRul r = true) :
    CallsV Tryz.prog 52 [.agg #[.int .i64 r.rest, .int .i64 r.span, .int .i64 r.work, .int .i64 r.week, .int .i64 r.ww], .slice al l.length cl] w0 (fun v w' => v = .int .i64 (brokP r l) ∧ Ext w0 w') := by
 have hrr := rul_rng hr
 refine f_enterM (N := 83) func52 rfl rfl rfl (c_seq fun K1 hK1 => (c_region (t_box (cs := [.int .i64 r.rest, .int .i64 r.span, .int .i64 r.work, .int .i64 r.week, .int .i64 r.ww]) rfl rfl rfl rfl (fun bk2 w3 ebk2 sbk2 B4 u5 => ?_))))
 have zu5 := u5.size
 refine t_alloc (cs := [.int .i64 0]) zeroValue3 rfl rfl rfl (fun bk7 w8 ebk7 sbk7 B9 u10 => ?_)
 have zu10 := u10.size
 refine t_nil' (hK1 _ _ (c_seq fun K12 hK12 => (c_region (t_assign rfl rfl rfl (t_nil' (hK12 _ _ (c_seq fun K13 hK13 => (c_seq fun K14 hK14 => (c_region (t_move rfl rfl rfl (t_len underlying103 rfl rfl rfl rfl (t_move rfl rfl rfl (t_nil' (hK14 _ _ (c_block (c_loop (γ := Nat) (fun k => [(1, .slice al l.length cl), (2, .pointer (some ⟨bk2, 0, none⟩)), (4, .pointer (some ⟨bk7, 0, none⟩)), (5, .int .i64 (mxE l k)), (15, .slice al l.length cl), (16, .int .i64 (l.length : Int)), (17, .int .i64 (k : Int))]) (fun k w => Upd (fun _ => False) w8 w ∧ (k ≤ l.length) ∧ (∀ j, j < k → ¬ (nth l j).b < mxE l j)) (fun k => l.length - k) 0 ⟨rfl, rfl, rfl, rfl, rfl, rfl, rfl, trivial⟩ ⟨Upd.refl _ _, (Nat.zero_le _), (fun j hj => absurd hj (Nat.not_lt_zero _))⟩ ?_))))))))))))))))
 intro k w16 hW K15 hK15
 obtain ⟨u17, I18, I19⟩ := hW
 have zu17 := u17.size
 have E20 := (((Upd.refl (fun _ => False) w0).nx u5).nx u10).nx u17
 have hk := I18; clear I18
 have hno := I19; clear I19
 refine c_seq fun K21 hK21 => (c_region (t_cmp rfl rfl rfl rfl rfl (t_nil' (hK21 _ _ (c_seq fun K22 hK22 => (c_condp rfl (fun g18 => ?_) (fun g18 => ?_)))))))
 ·
  have hokk := hok _ (nth_mem (xs := l) (i := k) (by omega))
  unfold OkSp at hokk
  refine c_skip (hK22 _ _ (c_seq fun K23 hK23 => (c_block (c_seq fun K24 hK24 => (c_region ?_)))))
  have i25 : k < l.length := (by omega)
  refine t_index (j := k) underlying103 sizeOf109 rfl rfl rfl rfl ((hl.keep E20 (fun _ h => h)).addr (by omega)) rfl i25 (t_loadN (vs := [.int .i64 ((nth l k).b), .int .i64 ((nth l k).e)]) isAgg109 sizeOf109 rfl rfl rfl (((hl.keep E20 (fun _ h => h)).at_ k (by omega)).sub 0 2) rfl (t_alloc (cs := [.int .i64 0, .int .i64 0]) zeroValue109 rfl rfl rfl (fun bk26 w27 ebk26 sbk26 B28 u29 => ?_)))
  have zu29 := u29.size
  refine t_st (vs := [.int .i64 ((nth l k).b), .int .i64 ((nth l k).e)]) sizeOf109 rfl rfl rfl B28 rfl rfl rfl rfl (fun w31 sw31 B33 u32 => ?_)
  have zu32 := u32.size
  have B33 : Blk w31 bk26 109 [.int .i64 ((nth l k).b), .int .i64 ((nth l k).e)] := B33
  refine t_nil' (hK24 _ _ (c_seq fun K35 hK35 => (c_seq fun K36 hK36 => (c_region (t_field underlying109 rfl sizeOf3 (0) rfl rfl rfl rfl (t_load isAgg3 rfl rfl rfl (B33.get rfl) (t_move rfl rfl rfl (t_cmp rfl rfl rfl rfl rfl (t_nil' (hK36 _ _ (c_condp rfl (fun g24 => ?_) (fun g24 => ?_))))))))))))
  ·
   refine c_seq fun K37 hK37 => (c_region ?_)
   have B38 := (((B9.kx u17).kx u29).keep u32 (by omega))
   refine t_st (vs := [.int .i64 1]) sizeOf3 rfl rfl rfl B38 rfl rfl rfl rfl (fun w39 sw39 B41 u40 => ?_)
   have zu40 := u40.size
   have B41 : Blk w39 bk7 3 [.int .i64 1] := B41
   refine t_nil' (hK37 _ _ (c_ret ?_))
   have D45 := (((((((show Marks w0.heap.size [] w0 from trivial).keep u5 (CellsIn.none _)).keep u10 (CellsIn.none _)).keep u17 (CellsIn.none _)).keep u29 (CellsIn.none _)).keep u32 (B28).cellsIn).keep u40 (B38).cellsIn)
   have hmkE := D45
   refine f_retMc1 (v := .int .i64 1) results52 (.cell D45 rfl isAgg3 B41 rfl) D45 (fun w43 u44 omw43 => ?_)
   have zu44 := u44.size
   have hres : 1 = brokP r l := by
     unfold brokP
     symm; rw [if_pos (ovl_yes (k := k) (by omega) g24)]
   exact ⟨congrArg (Value.int .i64) hres, ((((E20.nx u29).next u32 (fun i hi h => by omega)).next u40 (fun i hi h => by omega)).next u44 (fun i hi (h : w0.heap.size ≤ i) => show False by first | omega | assumption))⟩
  refine c_skip (hK35 _ _ (c_region (t_move rfl rfl rfl (t_field underlying109 rfl sizeOf3 (1) rfl rfl rfl rfl (t_load isAgg3 rfl rfl rfl (B33.get rfl) (t_max rfl rfl rfl rfl (t_assign rfl rfl rfl (t_nil' (hK23 _ _ (c_region (t_ari rfl rfl rfl rfl rfl (by omega) (t_move rfl rfl rfl (t_nil' ?_)))))))))))))
  exact hK15 (k + 1) _ _ (by omega) ⟨rfl, rfl, rfl, (congrArg (fun z => some (Value.int .i64 z)) (mxE_succ (by omega)).symm), rfl, rfl, rfl, trivial⟩ ⟨((u17.nx u29).next u32 (fun i hi h => by omega)), (by omega), (fun j hj => by
    rcases Nat.lt_or_ge j k with h | h
    · exact hno j h
    · rw [show j = k by omega]; exact g24)⟩
 have hov : ovlP 0 l = false := ovl_not (fun j hj => hno j (by omega))
 refine c_exit (hK13 _ _ (c_seq fun K47 hK47 => (c_region (t_alloc (cs := [.int .i64 0]) zeroValue3 rfl rfl rfl (fun bk48 w49 ebk48 sbk48 B50 u51 => ?_)))))
 have zu51 := u51.size
 refine t_st (vs := [.int .i64 0]) sizeOf3 rfl rfl rfl B50 rfl rfl rfl rfl (fun w53 sw53 B55 u54 => ?_)
 have zu54 := u54.size
 have B55 : Blk w53 bk48 3 [.int .i64 0] := B55
 refine t_nil' (hK47 _ _ (c_seq fun K57 hK57 => (c_seq fun K58 hK58 => (c_region ?_))))
 have B59 := ((((B4.kx u10).kx u17).kx u51).keep u54 (by omega))
 refine t_loadN (vs := [.int .i64 r.rest, .int .i64 r.span, .int .i64 r.work, .int .i64 r.week, .int .i64 r.ww]) isAgg100 sizeOf100 rfl rfl rfl (B59.at.sub 0 5) rfl (t_move rfl rfl rfl (t_call own46 rfl rfl rfl rfl (shifts_c r l al bl ol cl _) (fun v60 w61 r63 => ?_)))
 obtain ⟨⟨bS1, bS2, rfl, hBS1, hBS2, gS1, gS2⟩, u62⟩ := r63
 have zu62 := u62.size
 have E64 := ((E20.nx u51).next u54 (fun i hi h => by omega)).nx u62
 refine t_nil' (hK58 _ _ (c_block ?_))
 have B65 := ((((B9.kx u17).kx u51).keep u54 (by omega)).kx u62)
 have B66 := (B55.kx u62)
 have lw4 := B65.lt
 have lw8 := B66.lt
 have lwS1 := hBS1.lt
 have lwS2 := hBS2.lt
 have hlS := (hl.keep E64 (fun _ h => h))
 refine WC.weak [(1, .slice al l.length cl), (2, .pointer (some ⟨bk2, 0, none⟩)), (4, .pointer (some ⟨bk7, 0, none⟩)), (8, .pointer (some ⟨bk48, 0, none⟩)), (32, .func (.func 78) #[] #[.pointer (some ⟨bS1, 0, none⟩), .pointer (some ⟨bS2, 0, none⟩)])] ⟨rfl, rfl, rfl, rfl, rfl, trivial⟩ (c_rangeL (γ := ShX) (δ := Nat) (lb := [.pointer (some ⟨bS1, 0, none⟩), .pointer (some ⟨bS2, 0, none⟩)]) (enc := encShX) own78 rfl rfl (YSh w61.heap.size (BrkC r bk7 bk48 w61)) (ZSh (fun i => i = bk7 ∨ i = bk48 ∨ i = (w61.heap.size + 1)) (BrkC r bk7 bk48 w61)) (FSh (fun i => i = bk7 ∨ i = bk48 ∨ i = (w61.heap.size + 1)) (BrkF r bk7 bk48 w61)) (BrkC r bk7 bk48 w61 (shiftsP r l)) (EndF (shiftsP r l) (BrkF r bk7 bk48 w61)) (ZSh.turned BrkC.turned (by simp)) (FSh.turned BrkF.turned (by simp)) (fun _ W W' h hl u => BrkC.turned _ W W' h hl u) (EndF.turned BrkF.turned) ?_ (fun x d => [(1, .slice al l.length cl), (2, .pointer (some ⟨bk2, 0, none⟩)), (4, .pointer (some ⟨bk7, 0, none⟩)), (8, .pointer (some ⟨bk48, 0, none⟩)), (9, .pointer (some ⟨d, 0, none⟩))]) (fun x d W => Blk W d 44 (encShf x.v) ∧ w61.heap.size + 1 < d ∧ YSh w61.heap.size (BrkC r bk7 bk48 w61) x W) (fun d x W W' h hl u => ⟨h.1.keep u (h.1.notLoop hl), h.2.1, YSh.turned BrkC.turned _ _ _ h.2.2 hl u⟩) ?_ ?_ ?_ ?_)
 ·
  intro l_ D R Rf W hD hl hsz hE1 hH hR
  subst hD hl
  refine (shifts1_c r l al bl ol cl _ _ bS1 bS2 (fun i => i = bk7 ∨ i = bk48 ∨ i = (w61.heap.size + 1)) (BrkC r bk7 bk48 w61) (BrkF r bk7 bk48 w61) R Rf W (fun p W W' h u => BrkC.ext p W W' h u) (fun p W W' h u => BrkF.ext p W W' h u) hH (hBS1.kx hE1) (hBS2.kx hE1) (hlS.keep hE1 (fun _ h => h)) hll hok hr rfl (by omega) (show ¬ (bS1 = bk7 ∨ bS1 = bk48 ∨ bS1 = (w61.heap.size + 1)) by omega) (show ¬ (bS2 = bk7 ∨ bS2 = bk48 ∨ bS2 = (w61.heap.size + 1)) by omega) (fun hp => by have h9 := hl.lt hp; show ¬ (bl = bk7 ∨ bl = bk48 ∨ bl = (w61.heap.size + 1)); omega) hR ⟨Ext.to hE1, B65.kx hE1, B66.kx hE1, rfl⟩).mono fun _ _ h => h.1
 ·
  intro lq x W K67 hI hK67
  change WC _ _ _ _ _ _ [(33, .agg #[.int .i64 x.v.b, .int .i64 x.v.e, .int .i64 x.v.w]), (1, .slice al l.length cl), (2, .pointer (some ⟨bk2, 0, none⟩)), (4, .pointer (some ⟨bk7, 0, none⟩)), (8, .pointer (some ⟨bk48, 0, none⟩)), (32, .func (.func 78) #[] #[.pointer (some ⟨bS1, 0, none⟩), .pointer (some ⟨bS2, 0, none⟩)])] _
  obtain ⟨⟨hu0, hc4, hc8, hcn⟩, ⟨hrg, hDW⟩, hux⟩ := id hI
  refine c_region (t_alloc (cs := [.int .i64 0, .int .i64 0, .int .i64 0]) zeroValue44 rfl rfl rfl (fun bk68 w69 ebk68 sbk68 B70 u71 => ?_))
  have zu71 := u71.size
  refine t_st (vs := [.int .i64 x.v.b, .int .i64 x.v.e, .int .i64 x.v.w]) sizeOf44 rfl rfl rfl B70 rfl rfl rfl rfl (fun w73 sw73 B75 u74 => ?_)
  have zu74 := u74.size
  have E76 := ((Upd.refl (fun _ => False) W).nx u71).next u74 (fun i hi h => by omega)
  have B75 : Blk w73 bk68 44 [.int .i64 x.v.b, .int .i64 x.v.e, .int .i64 x.v.w] := B75
  refine t_nil' ?_
  exact hK67 bk68 _ _ ⟨rfl, rfl, rfl, rfl, rfl, trivial⟩ E76 ⟨B75, by omega, BrkC.ext _ _ _ hI.1 E76, ⟨hrg, by have := (E76).size; omega⟩, hux.nx E76⟩
 ·
  intro lq x d w77 hY
  obtain ⟨hbd, hdg, ⟨hu0, hc4, hc8, hcn⟩, ⟨⟨hrg, _⟩, hDW⟩, hux⟩ := hY
  unfold RgSh at hrg
  have hdl := hbd.lt
  have zhu0 := hu0.size
  change WC _ _ _ _ _ _ [(1, .slice al l.length cl), (2, .pointer (some ⟨bk2, 0, none⟩)), (4, .pointer (some ⟨bk7, 0, none⟩)), (8, .pointer (some ⟨bk48, 0, none⟩)), (9, .pointer (some ⟨d, 0, none⟩))] _
  have hcellsR := ((hc4).cellsIn.or (hc8).cellsIn)
  refine c_block (c_seq fun K79 hK79 => (c_seq fun K80 hK80 => (c_region (t_field underlying44 rfl sizeOf3 (1) rfl rfl rfl rfl (t_load isAgg3 rfl rfl rfl (hbd.get rfl) (t_field underlying44 rfl sizeOf3 (0) rfl rfl rfl rfl (t_load isAgg3 rfl rfl rfl (hbd.get rfl) (t_ari rfl rfl rfl rfl rfl (by omega) (t_field underlying100 rfl sizeOf23 (0) rfl rfl rfl rfl (t_field underlying23 rfl sizeOf3 (1) rfl rfl rfl rfl ?_))))))))))
  have B81 := ((B59.kx u62).keep hu0 (by omega))
  refine t_load isAgg3 rfl rfl rfl (B81.get rfl) (t_cmp rfl rfl rfl rfl rfl (t_nil' (hK80 _ _ (c_condp rfl (fun g42 => ?_) (fun g42 => ?_)))))
  ·
   refine c_seq fun K82 hK82 => (c_region (t_st (vs := [.int .i64 2]) sizeOf3 rfl rfl rfl hc4 rfl rfl rfl rfl (fun w83 sw83 B85 u84 => ?_)))
   have zu84 := u84.size
   have B85 : Blk w83 bk7 3 [.int .i64 2] := B85
   refine t_nil' (hK82 _ _ (c_ret ?_))
   have hUr := ((Upd.refl (fun i => i = bk7 ∨ i = bk48) w77).next u84 (fun i hi h => by omega))
   have B87 := (hc8.keep u84 (by omega))
   exact fun a ha => ⟨KeepsFrom.of_upd hUr hcellsR, ⟨⟨(hu0.next u84 (fun i hi h => by omega)), B85, g42, _, B87⟩, ((hux.mono fun i e => .inr (.inr e)).trans ((Upd.refl (fun i => i = bk7 ∨ i = bk48 ∨ i = (w61.heap.size + 1)) _).next u84 (fun i hi h => by omega)))⟩⟩
  refine c_skip (hK79 _ _ (c_seq fun K88 hK88 => (c_region (t_field underlying44 rfl sizeOf3 (2) rfl rfl rfl rfl (t_load isAgg3 rfl rfl rfl (hbd.get rfl) (t_field underlying100 rfl sizeOf23 (0) rfl rfl rfl rfl (t_field underlying23 rfl sizeOf3 (2) rfl rfl rfl rfl (t_load isAgg3 rfl rfl rfl (B81.get rfl) (t_cmp rfl rfl rfl rfl rfl (t_nil' (hK88 _ _ (c_condp rfl (fun g48 => ?_) (fun g48 => ?_)))))))))))))
  ·
   refine c_region (t_st (vs := [.int .i64 3]) sizeOf3 rfl rfl rfl hc8 rfl rfl rfl rfl (fun w89 sw89 B91 u90 => ?_))
   have zu90 := u90.size
   have B91 : Blk w89 bk48 3 [.int .i64 3] := B91
   refine t_nil' ?_
   have hUr := ((Upd.refl (fun i => i = bk7 ∨ i = bk48) w77).next u90 (fun i hi h => by omega))
   have B93 := (hc4.keep u90 (by omega))
   exact fun a ha => ⟨KeepsFrom.of_upd hUr hcellsR, ⟨⟨(hu0.next u90 (fun i hi h => by omega)), B93, (by rw [List.any_append]; simp only [List.any_cons, List.any_nil, Bool.or_false, Bool.or_eq_true, decide_eq_true_eq]; rw [if_pos (.inr g48)]; exact B91), by rw [List.any_append, hcn]; simp only [List.any_cons, List.any_nil, Bool.or_false, Bool.false_or]; exact decide_eq_false g42⟩, ((hux.mono fun i e => .inr (.inr e)).trans ((Upd.refl (fun i => i = bk7 ∨ i = bk48 ∨ i = (w61.heap.size + 1)) _).next u90 (fun i hi h => by omega)))⟩⟩
  refine c_skip ?_
  have hUr := (Upd.refl (fun i => i = bk7 ∨ i = bk48) w77)
  exact fun a ha => ⟨KeepsFrom.of_upd hUr hcellsR, ⟨⟨hu0, hc4, (by rw [List.any_append]; simp only [List.any_cons, List.any_nil, Bool.or_false, decide_eq_false g48]; exact hc8), by rw [List.any_append, hcn]; simp only [List.any_cons, List.any_nil, Bool.or_false, Bool.false_or]; exact decide_eq_false g42⟩, ((hux.mono fun i e => .inr (.inr e)).trans (Upd.refl (fun i => i = bk7 ∨ i = bk48 ∨ i = (w61.heap.size + 1)) _))⟩⟩
 ·
  have D96 := (((((((show Marks w0.heap.size [] w0 from trivial).keep u5 (CellsIn.none _)).keep u10 (CellsIn.none _)).keep u17 (CellsIn.none _)).keep u51 (CellsIn.none _)).keep u54 (B50).cellsIn).keep u62 (CellsIn.none _))
  have hmk0 := D96
  have hmc0 := (show CellsIn (fun i => i = bk7 ∨ i = bk48 ∨ i = (w61.heap.size + 1)) w61 from fun k hk e => by
    rcases e with rfl | rfl | e
    · exact ⟨_, _, _, B65⟩
    · exact ⟨_, _, _, B66⟩
    · omega)
  intro D95 w94 hD95 hE hdD95
  obtain ⟨preF, vF, postF, hshF, hu1, hc4, hspF, v8, hc8⟩ := hE
  have zhu1 := hu1.size
  have mk98 := (hmk0.keep hu1 hmc0).push (D := D95) (by omega) hdD95 (fun d hd D' e => Nat.lt_of_lt_of_le (hmk0.lt d hd D' e) hD95)
  have hmkE := mk98
  refine f_retMc1 (v := .int .i64 2) results52 (.cell mk98 rfl isAgg3 hc4 rfl) mk98 (fun w99 u100 omw99 => ?_)
  have zu100 := u100.size
  have hres : 2 = brokP r l := by
    unfold brokP
    symm; rw [if_neg (by rw [hov]; decide), if_pos (by rw [hshF]; exact List.any_eq_true.2 ⟨vF, by simp, by simpa using hspF⟩)]
  exact ⟨congrArg (Value.int .i64) hres, ((E64.next hu1 (fun i hi h => by omega)).next u100 (fun i hi (h : w0.heap.size ≤ i) => show False by first | omega | assumption))⟩
 ·
  have D104 := (((((((show Marks w0.heap.size [] w0 from trivial).keep u5 (CellsIn.none _)).keep u10 (CellsIn.none _)).keep u17 (CellsIn.none _)).keep u51 (CellsIn.none _)).keep u54 (B50).cellsIn).keep u62 (CellsIn.none _))
  have hmk0 := D104
  have hmc0 := (show CellsIn (fun i => i = bk7 ∨ i = bk48 ∨ i = (w61.heap.size + 1)) w61 from fun k hk e => by
    rcases e with rfl | rfl | e
    · exact ⟨_, _, _, B65⟩
    · exact ⟨_, _, _, B66⟩
    · omega)
  intro D103 w102 hD103 hE hdD103
  obtain ⟨hu1, hc4, hc8, hcn⟩ := hE
  have zhu1 := hu1.size
  have E105 := E64.next hu1 (fun i hi h => by omega)
  have mk106 := (hmk0.keep hu1 hmc0).push (D := D103) (by omega) hdD103 (fun d hd D' e => Nat.lt_of_lt_of_le (hmk0.lt d hd D' e) hD103)
  refine hK57 _ _ (c_seq fun K107 hK107 => (c_seq fun K108 hK108 => (c_region (t_load isAgg3 rfl rfl rfl (hc8.get rfl) (t_cmp rfl rfl rfl rfl rfl (t_nil' (hK108 _ _ (c_condp rfl (fun g50 => ?_) (fun g50 => ?_)))))))))
  ·
   refine c_seq fun K109 hK109 => (c_region (t_load isAgg3 rfl rfl rfl (hc8.get rfl) (t_st (vs := [.int .i64 (if ((shiftsP r l).any fun x => decide (r.work < x.w)) = true then 3 else 0)]) sizeOf3 rfl rfl rfl hc4 rfl rfl rfl rfl (fun w110 sw110 B112 u111 => ?_))))
   have zu111 := u111.size
   have B112 : Blk w110 bk7 3 [.int .i64 (if ((shiftsP r l).any fun x => decide (r.work < x.w)) = true then 3 else 0)] := B112
   refine t_nil' (hK109 _ _ (c_ret ?_))
   have D116 := (mk106.keep u111 (hc4).cellsIn)
   have hmkE := D116
   refine f_retMc1 (v := .int .i64 (if ((shiftsP r l).any fun x => decide (r.work < x.w)) = true then 3 else 0)) results52 (.cell D116 rfl isAgg3 B112 rfl) D116 (fun w114 u115 omw114 => ?_)
   have zu115 := u115.size
   have hres : (if ((shiftsP r l).any fun x => decide (r.work < x.w)) = true then 3 else 0) = brokP r l := by
     unfold brokP
     symm; rw [if_neg (by rw [hov]; decide), if_neg (by rw [hcn]; decide)]
     by_cases h9 : ((shiftsP r l).any fun x => decide (r.work < x.w)) = true
     · rw [if_pos h9, if_pos h9]
     · rw [if_neg h9] at g50; exact absurd rfl g50
   exact ⟨congrArg (Value.int .i64) hres, ((E105.next u111 (fun i hi h => by omega)).next u115 (fun i hi (h : w0.heap.size ≤ i) => show False by first | omega | assumption))⟩
  refine c_skip (hK107 _ _ (c_seq fun K118 hK118 => (c_seq fun K119 hK119 => (c_region (t_move rfl rfl rfl (t_len underlying103 rfl rfl rfl rfl (t_move rfl rfl rfl (t_nil' (hK119 _ _ (c_block (c_loop (γ := Nat) (fun k => [(1, .slice al l.length cl), (2, .pointer (some ⟨bk2, 0, none⟩)), (4, .pointer (some ⟨bk7, 0, none⟩)), (52, .slice al l.length cl), (53, .int .i64 (l.length : Int)), (54, .int .i64 (k : Int))]) (fun k w => Upd (fun _ => False) w102 w ∧ (k ≤ l.length) ∧ (∀ j, j < k → ¬ r.ww < winP r l (nth l j).e)) (fun k => l.length - k) 0 ⟨rfl, rfl, rfl, rfl, rfl, rfl, trivial⟩ ⟨Upd.refl _ _, (Nat.zero_le _), (fun j hj => absurd hj (Nat.not_lt_zero _))⟩ ?_)))))))))))
  intro k w121 hW K120 hK120
  obtain ⟨u122, I123, I124⟩ := hW
  have zu122 := u122.size
  have E125 := E105.nx u122
  have hk := I123; clear I123
  have hnw := I124; clear I124
  refine c_seq fun K126 hK126 => (c_region (t_cmp rfl rfl rfl rfl rfl (t_nil' (hK126 _ _ (c_seq fun K127 hK127 => (c_condp rfl (fun g55 => ?_) (fun g55 => ?_)))))))
  ·
   have hokk := hok _ (nth_mem (xs := l) (i := k) (by omega))
   have hokk2 := hokk
   unfold OkSp at hokk2
   refine c_skip (hK127 _ _ (c_seq fun K128 hK128 => (c_block (c_seq fun K129 hK129 => (c_region ?_)))))
   have i130 : k < l.length := (by omega)
   refine t_index (j := k) underlying103 sizeOf109 rfl rfl rfl rfl ((hl.keep E125 (fun _ h => h)).addr (by omega)) rfl i130 (t_loadN (vs := [.int .i64 ((nth l k).b), .int .i64 ((nth l k).e)]) isAgg109 sizeOf109 rfl rfl rfl (((hl.keep E125 (fun _ h => h)).at_ k (by omega)).sub 0 2) rfl (t_alloc (cs := [.int .i64 0, .int .i64 0]) zeroValue109 rfl rfl rfl (fun bk131 w132 ebk131 sbk131 B133 u134 => ?_)))
   have zu134 := u134.size
   refine t_st (vs := [.int .i64 ((nth l k).b), .int .i64 ((nth l k).e)]) sizeOf109 rfl rfl rfl B133 rfl rfl rfl rfl (fun w136 sw136 B138 u137 => ?_)
   have zu137 := u137.size
   have B138 : Blk w136 bk131 109 [.int .i64 ((nth l k).b), .int .i64 ((nth l k).e)] := B138
   refine t_nil' (hK129 _ _ (c_seq fun K140 hK140 => (c_region (t_assign rfl rfl rfl (t_nil' (hK140 _ _ (c_seq fun K141 hK141 => (c_seq fun K142 hK142 => (c_region (t_move rfl rfl rfl (t_len underlying103 rfl rfl rfl rfl (t_move rfl rfl rfl (t_nil' (hK142 _ _ (c_block (c_loop (γ := Nat) (fun m => [(1, .slice al l.length cl), (2, .pointer (some ⟨bk2, 0, none⟩)), (4, .pointer (some ⟨bk7, 0, none⟩)), (11, .pointer (some ⟨bk131, 0, none⟩)), (12, .int .i64 (sumI2 ((l.take m).map fun s => inW s ((nth l k).e - r.week) (nth l k).e))), (52, .slice al l.length cl), (53, .int .i64 (l.length : Int)), (54, .int .i64 (k : Int)), (58, .slice al l.length cl), (59, .int .i64 (l.length : Int)), (60, .int .i64 (m : Int))]) (fun m w => Upd (fun _ => False) w136 w ∧ (m ≤ l.length)) (fun m => l.length - m) 0 ⟨rfl, rfl, rfl, rfl, rfl, rfl, rfl, rfl, rfl, rfl, rfl, trivial⟩ ⟨Upd.refl _ _, (Nat.zero_le _)⟩ ?_))))))))))))))))
   intro m w144 hW K143 hK143
   obtain ⟨u145, I146⟩ := hW
   have zu145 := u145.size
   have E147 := ((E125.nx u134).next u137 (fun i hi h => by omega)).nx u145
   have hm := I146; clear I146
   have hsw := sumI2_rng (B := 20160) (l := (l.take m).map fun s => inW s ((nth l k).e - r.week) (nth l k).e) (fun x hx => by obtain ⟨s, hs, rfl⟩ := List.mem_map.1 hx; exact inW_rng (hok _ (List.mem_of_mem_take hs)))
   rw [List.length_map, List.length_take] at hsw
   refine c_seq fun K148 hK148 => (c_region (t_cmp rfl rfl rfl rfl rfl (t_nil' (hK148 _ _ (c_seq fun K149 hK149 => (c_condp rfl (fun g61 => ?_) (fun g61 => ?_)))))))
   ·
    have hiw := inW_rng (s := nth l m) (a := (nth l k).e - r.week) (b := (nth l k).e) (hok _ (nth_mem (by omega)))
    refine c_skip (hK149 _ _ (c_seq fun K150 hK150 => (c_block (c_seq fun K151 hK151 => (c_region ?_)))))
    have i152 : m < l.length := (by omega)
    refine t_index (j := m) underlying103 sizeOf109 rfl rfl rfl rfl ((hl.keep E147 (fun _ h => h)).addr (by omega)) rfl i152 (t_loadN (vs := [.int .i64 ((nth l m).b), .int .i64 ((nth l m).e)]) isAgg109 sizeOf109 rfl rfl rfl (((hl.keep E147 (fun _ h => h)).at_ m (by omega)).sub 0 2) rfl (t_alloc (cs := [.int .i64 0, .int .i64 0]) zeroValue109 rfl rfl rfl (fun bk153 w154 ebk153 sbk153 B155 u156 => ?_)))
    have zu156 := u156.size
    refine t_st (vs := [.int .i64 ((nth l m).b), .int .i64 ((nth l m).e)]) sizeOf109 rfl rfl rfl B155 rfl rfl rfl rfl (fun w158 sw158 B160 u159 => ?_)
    have zu159 := u159.size
    have B160 : Blk w158 bk153 109 [.int .i64 ((nth l m).b), .int .i64 ((nth l m).e)] := B160
    refine t_nil' (hK151 _ _ (c_region (t_move rfl rfl rfl (t_loadN (vs := [.int .i64 ((nth l m).b), .int .i64 ((nth l m).e)]) isAgg109 sizeOf109 rfl rfl rfl (B160.at.sub 0 2) rfl (t_field underlying109 rfl sizeOf3 (1) rfl rfl rfl rfl ?_)))))
    have B162 := (((B138.kx u145).kx u156).keep u159 (by omega))
    refine t_load isAgg3 rfl rfl rfl (B162.get rfl) (t_field underlying100 rfl sizeOf23 (0) rfl rfl rfl rfl (t_field underlying23 rfl sizeOf3 (3) rfl rfl rfl rfl ?_))
    have B163 := ((((((((B59.kx u62).keep hu1 (by omega)).kx u122).kx u134).keep u137 (by omega)).kx u145).kx u156).keep u159 (by omega))
    refine t_load isAgg3 rfl rfl rfl (B163.get rfl) (t_ari rfl rfl rfl rfl rfl (by omega) (t_field underlying109 rfl sizeOf3 (1) rfl rfl rfl rfl (t_load isAgg3 rfl rfl rfl (B162.get rfl) (t_call own85 rfl rfl rfl rfl (in_c (nth l m) (((nth l k).e) - r.week) ((nth l k).e) _ (hok _ (nth_mem (by omega))) (by omega) (by omega)) (fun v164 w165 r167 => ?_)))))
    obtain ⟨rfl, u166⟩ := r167
    have zu166 := u166.size
    refine t_ari rfl rfl rfl rfl rfl (by omega) (t_assign rfl rfl rfl (t_nil' (hK150 _ _ (c_region (t_ari rfl rfl rfl rfl rfl (by omega) (t_move rfl rfl rfl (t_nil' ?_)))))))
    exact hK143 (m + 1) _ _ (by omega) ⟨rfl, rfl, rfl, rfl, (congrArg (fun z => some (Value.int .i64 z)) (by rw [take_nth (by omega), List.map_append]; exact (sumI2_snoc _ _).symm)), rfl, rfl, rfl, rfl, rfl, rfl, trivial⟩ ⟨(((u145.nx u156).next u159 (fun i hi h => by omega)).nx u166), (by omega)⟩
   have hml : m = l.length := by omega
   refine c_same 12 (v := .int .i64 (winP r l (nth l k).e)) rfl (by rw [hml, List.take_length]; rfl) (c_exit (hK141 _ _ (c_seq fun K169 hK169 => (c_region (t_move rfl rfl rfl (t_field underlying100 rfl sizeOf23 (0) rfl rfl rfl rfl (t_field underlying23 rfl sizeOf3 (4) rfl rfl rfl rfl ?_)))))))
   have B170 := ((((((B59.kx u62).keep hu1 (by omega)).kx u122).kx u134).keep u137 (by omega)).kx u145)
   refine t_load isAgg3 rfl rfl rfl (B170.get rfl) (t_cmp rfl rfl rfl rfl rfl (t_nil' (hK169 _ _ (c_condp rfl (fun g81 => ?_) (fun g81 => ?_)))))
   ·
    refine c_seq fun K171 hK171 => (c_region ?_)
    have B172 := ((((hc4.kx u122).kx u134).keep u137 (by omega)).kx u145)
    refine t_st (vs := [.int .i64 4]) sizeOf3 rfl rfl rfl B172 rfl rfl rfl rfl (fun w173 sw173 B175 u174 => ?_)
    have zu174 := u174.size
    have B175 : Blk w173 bk7 3 [.int .i64 4] := B175
    refine t_nil' (hK171 _ _ (c_ret ?_))
    have D179 := (((((mk106.keep u122 (CellsIn.none _)).keep u134 (CellsIn.none _)).keep u137 (B133).cellsIn).keep u145 (CellsIn.none _)).keep u174 (B172).cellsIn)
    have hmkE := D179
    refine f_retMc1 (v := .int .i64 4) results52 (.cell D179 rfl isAgg3 B175 rfl) D179 (fun w177 u178 omw177 => ?_)
    have zu178 := u178.size
    have hres : 4 = brokP r l := by
      unfold brokP
      symm; rw [if_neg (by rw [hov]; decide), if_neg (by rw [hcn]; decide), if_neg (fun h9 => g50 (by rw [if_pos h9]; decide)), if_pos (List.any_eq_true.2 ⟨nth l k, nth_mem (by omega), by simpa using g81⟩)]
    exact ⟨congrArg (Value.int .i64) hres, ((E147.next u174 (fun i hi h => by omega)).next u178 (fun i hi (h : w0.heap.size ≤ i) => show False by first | omega | assumption))⟩
   refine c_skip (hK128 _ _ (c_region (t_ari rfl rfl rfl rfl rfl (by omega) (t_move rfl rfl rfl (t_nil' ?_)))))
   exact hK120 (k + 1) _ _ (by omega) ⟨rfl, rfl, rfl, rfl, rfl, rfl, trivial⟩ ⟨(((u122.nx u134).next u137 (fun i hi h => by omega)).nx u145), (by omega), (fun j hj => by
     rcases Nat.lt_or_ge j k with h | h
     · exact hnw j h
     · rw [show j = k by omega]; exact g81)⟩
  refine c_exit (hK118 _ _ (c_seq fun K181 hK181 => (c_region ?_)))
  have B182 := (hc4.kx u122)
  refine t_st (vs := [.int .i64 0]) sizeOf3 rfl rfl rfl B182 rfl rfl rfl rfl (fun w183 sw183 B185 u184 => ?_)
  have zu184 := u184.size
  have B185 : Blk w183 bk7 3 [.int .i64 0] := B185
  refine t_nil' (hK181 _ _ (c_ret ?_))
  have D189 := ((mk106.keep u122 (CellsIn.none _)).keep u184 (B182).cellsIn)
  have hmkE := D189
  refine f_retMc1 (v := .int .i64 0) results52 (.cell D189 rfl isAgg3 B185 rfl) D189 (fun w187 u188 omw187 => ?_)
  have zu188 := u188.size
  have hres : 0 = brokP r l := by
    unfold brokP
    symm; rw [if_neg (by rw [hov]; decide), if_neg (by rw [hcn]; decide), if_neg (fun h9 => g50 (by rw [if_pos h9]; decide)), if_neg (fun h9 => by obtain ⟨s, hs, h9⟩ := List.any_eq_true.1 h9; obtain ⟨j, hj, rfl⟩ := List.mem_iff_getElem.1 hs; have h8 := hnw j (by omega); rw [nth_eq hj] at h8; exact h8 (by simpa using h9))]
  exact ⟨congrArg (Value.int .i64) hres, ((E125.next u184 (fun i hi h => by omega)).next u188 (fun i hi (h : w0.heap.size ≤ i) => show False by first | omega | assumption))⟩

theorem keeps_c (r : Rul) (l : List Sp) (al : Option Addr) (bl ol cl : Nat) (w0 : World) (hl : Sl encSp 2 w0 al bl ol l) (hll : l.length ≤ 100000) (hok : ∀ x ∈ l, OkSp x) (hr : okRul r = true) :
    CallsV Tryz.prog 49 [.agg #[.int .i64 r.rest, .int .i64 r.span, .int .i64 r.work, .int .i64 r.week, .int .i64 r.ww], .slice al l.length cl] w0 (fun v w' => v = .bool (decide (brokP r l = 0)) ∧ Ext w0 w') := by
 refine f_enter (N := 9) func49 rfl rfl rfl (c_seq fun K1 hK1 => (c_region (t_box (cs := [.int .i64 r.rest, .int .i64 r.span, .int .i64 r.work, .int .i64 r.week, .int .i64 r.ww]) rfl rfl rfl rfl (fun bk2 w3 ebk2 sbk2 B4 u5 => ?_))))
 have zu5 := u5.size
 have E6 := (Upd.refl (fun _ => False) w0).nx u5
 refine t_assign rfl rfl rfl (t_nil' (hK1 _ _ (c_seq fun K7 hK7 => (c_region (t_loadN (vs := [.int .i64 r.rest, .int .i64 r.span, .int .i64 r.work, .int .i64 r.week, .int .i64 r.ww]) isAgg100 sizeOf100 rfl rfl rfl (B4.at.sub 0 5) rfl (t_move rfl rfl rfl (t_call own52 rfl rfl rfl rfl (broken_c r l al bl ol cl _ (hl.keep E6 (fun _ h => h)) hll hok hr) (fun v8 w9 r11 => ?_))))))))
 obtain ⟨rfl, u10⟩ := r11
 have zu10 := u10.size
 refine t_cmp rfl rfl rfl rfl rfl (t_assign rfl rfl rfl (t_nil' (hK7 _ _ (c_ret (f_ret1 (v := .bool (decide ((brokP r l) = 0))) results49 rfl ?_)))))
 exact ⟨rfl, (E6.nx u10)⟩

end Go.Proofs.YtagmodjadmecdaaGreat
