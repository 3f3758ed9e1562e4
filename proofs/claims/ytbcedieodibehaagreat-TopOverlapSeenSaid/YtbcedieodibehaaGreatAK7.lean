/-
  Part 7 of the proof: contracts and plain laws. Conditions: none.
-/
import Derived.Test.YtbcedieodibehaaGreatAK6
namespace Go.Proofs.YtbcedieodibehaaGreat
open Go Go.RowKit Go.Proofs.Tryz
set_option maxRecDepth 10000

theorem sh_in {r : Rul} {x : Shf} {l : List Sp} {j : Nat} (hj : j < l.length) (h : (nth l j).b < x.e + r.rest) : shGo r x (l.drop j) = shGo r ⟨x.b, max x.e (nth l j).e, x.w + ((nth l j).e - (nth l j).b)⟩ (l.drop (j + 1)) := by
  rw [drop_nth hj, shGo, if_pos h]
theorem sh_exit {r : Rul} {x : Shf} {l : List Sp} {j : Nat} (h : ¬ (j < l.length ∧ (nth l j).b < x.e + r.rest)) : shGo r x (l.drop j) = x :: shiftsP r (l.drop j) := by
  rcases Nat.lt_or_ge j l.length with hj | hj
  · rw [drop_nth hj, shGo, if_neg (fun q => h ⟨hj, q⟩)]; rfl
  · rw [List.drop_of_length_le hj]; rfl
theorem sh_new {r : Rul} {l : List Sp} {i : Nat} (hi : i < l.length) (hr : 1 ≤ r.rest) (ho : OkSp (nth l i)) : shGo r ⟨(nth l i).b, (nth l i).e, 0⟩ (l.drop i) = shiftsP r (l.drop i) := by
  rw [drop_nth hi]
  rcases sh_first (s := nth l i) (l := l.drop (i + 1)) hr with h | h
  · exact h
  · exact absurd ho.2.1 h
theorem shGo_len {r : Rul} : ∀ {l : List Sp} {x : Shf}, (shGo r x l).length ≤ l.length + 1
  | [], _ => by simp [shGo]
  | s :: l, x => by
    unfold shGo
    split
    · have := shGo_len (r := r) (l := l) (x := ⟨x.b, max x.e s.e, x.w + (s.e - s.b)⟩); simp only [List.length_cons]; omega
    · have := shGo_len (r := r) (l := l) (x := ⟨s.b, s.e, s.e - s.b⟩); simp only [List.length_cons]; omega
theorem shifts_len {r : Rul} : ∀ {l : List Sp}, (shiftsP r l).length ≤ l.length
  | [] => Nat.le_refl _
  | _s :: _l => shGo_len
/-- A shift that is handed out, and those before it. -/
structure ShX where
  pre : List Shf
  v : Shf
  w : World
def encShX (x : ShX) : Value := .agg (encShf x.v).toArray
def RgSh (v : Shf) : Prop := (0 ≤ v.b ∧ v.b ≤ 20160) ∧ (0 ≤ v.e ∧ v.e ≤ 20160) ∧ 0 ≤ v.w
def YSh (D : Nat) (C : List Shf → World → Prop) (x : ShX) (W : World) : Prop := C x.pre W ∧ ((RgSh x.v ∧ x.pre.length < 100000) ∧ D + 1 < W.heap.size) ∧ Upd (· = D + 1) x.w W
def ZSh (T : Nat → Prop) (C : List Shf → World → Prop) (x : ShX) (W : World) : Prop := C (x.pre ++ [x.v]) W ∧ Upd T x.w W
def FSh (T : Nat → Prop) (Cf : List Shf × Shf → World → Prop) (x : ShX) (W : World) : Prop := Cf (x.pre, x.v) W ∧ Upd T x.w W
def EndF (sh : List Shf) (Cf : List Shf × Shf → World → Prop) (W : World) : Prop := ∃ pre v post, sh = pre ++ v :: post ∧ Cf (pre, v) W
theorem YSh.turned {D : Nat} {C : List Shf → World → Prop} (hC : Turned (D + 1) C) : Turned (D + 1) (YSh D C) := fun _x _W _W' h hl u => ⟨hC _ _ _ h.1 hl u, ⟨h.2.1.1, Nat.lt_of_lt_of_le h.2.1.2 u.size⟩, h.2.2.trans u⟩
theorem ZSh.turned {D : Nat} {T : Nat → Prop} {C : List Shf → World → Prop} (hC : Turned (D + 1) C) (hT : T (D + 1)) : Turned (D + 1) (ZSh T C) := fun x W W' h hl u => ⟨hC _ _ _ h.1 hl u, h.2.trans (u.mono fun i e => by subst e; exact hT)⟩
theorem FSh.turned {D : Nat} {T : Nat → Prop} {Cf : List Shf × Shf → World → Prop} (hC : Turned (D + 1) Cf) (hT : T (D + 1)) : Turned (D + 1) (FSh T Cf) := fun x W W' h hl u => ⟨hC _ _ _ h.1 hl u, h.2.trans (u.mono fun i e => by subst e; exact hT)⟩
theorem EndF.turned {D : Nat} {sh : List Shf} {Cf : List Shf × Shf → World → Prop} (hC : Turned (D + 1) Cf) : Turned (D + 1) (fun (_ : Unit) W => EndF sh Cf W) := fun _ W W' h hl u => by
  obtain ⟨pre, v, post, e, h⟩ := h
  exact ⟨pre, v, post, e, hC _ _ _ h hl u⟩
theorem rul_rng {r : Rul} (h : okRul r = true) : (1 ≤ r.rest ∧ r.rest ≤ 20160) ∧ (1 ≤ r.span ∧ r.span ≤ 20160) ∧ (1 ≤ r.work ∧ r.work ≤ 20160) ∧ (1 ≤ r.week ∧ r.week ≤ 20160) ∧ (1 ≤ r.ww ∧ r.ww ≤ 20160) := by simpa only [okRul, decide_eq_true_eq] using h
def okShf (n : Nat) (x : Shf) : Prop := (0 ≤ x.b ∧ x.b ≤ 20160) ∧ (0 ≤ x.e ∧ x.e ≤ 20160) ∧ 0 ≤ x.w ∧ x.w ≤ 20160 * n
theorem inW_rng {s : Sp} {a b : Int} (h : OkSp s) : 0 ≤ inW s a b ∧ inW s a b ≤ 20160 := by unfold OkSp at h; unfold inW; omega
theorem sumI2_rng {B : Int} : ∀ {l : List Int}, (∀ x ∈ l, 0 ≤ x ∧ x ≤ B) → 0 ≤ sumI2 l ∧ sumI2 l ≤ B * l.length
  | [], _ => by simp [sumI2]
  | a :: l, h => by
    have h1 := sumI2_rng (l := l) (fun x hx => h x (List.mem_cons_of_mem _ hx))
    have h2 := h a (by simp)
    have e : B * ((a :: l).length : Int) = B * (l.length : Int) + B := by rw [List.length_cons, Int.natCast_succ, Int.mul_add, Int.mul_one]
    rw [e]
    show 0 ≤ a + sumI2 l ∧ a + sumI2 l ≤ _
    omega
theorem ovl_take {l : List Sp} : ∀ {e : Int}, ovlP e l = true ↔ ∃ k, k < l.length ∧ (nth l k).b < (l.take k).foldl (fun e s => max e s.e) e := by
  induction l with
  | nil => intro e; simp [ovlP]
  | cons s l ih =>
    intro e
    rw [ovlP, Bool.or_eq_true, decide_eq_true_eq, ih]
    constructor
    · rintro (h | ⟨k, hk, h⟩)
      · exact ⟨0, by simp, h⟩
      · exact ⟨k + 1, by simpa using hk, h⟩
    · rintro ⟨k, hk, h⟩
      cases k with
      | zero => exact .inl h
      | succ k => exact .inr ⟨k, by simpa using hk, h⟩
/-- The greatest end of the first times. -/
def mxE (l : List Sp) (k : Nat) : Int := (l.take k).foldl (fun e s => max e s.e) 0
theorem mxE_succ {l : List Sp} {k : Nat} (hk : k < l.length) : mxE l (k + 1) = max (mxE l k) (nth l k).e := by unfold mxE; rw [take_nth hk, List.foldl_append]; rfl
theorem ovl_not {l : List Sp} (h : ∀ k, k < l.length → ¬ (nth l k).b < mxE l k) : ovlP 0 l = false := by
  cases hq : ovlP 0 l with
  | false => rfl
  | true => obtain ⟨k, hk, h2⟩ := ovl_take.1 hq; exact absurd h2 (h k hk)
theorem ovl_yes {l : List Sp} {k : Nat} (hk : k < l.length) (h : (nth l k).b < mxE l k) : ovlP 0 l = true := ovl_take.2 ⟨k, hk, h⟩
/-- What broken's variables hold when these shifts have been looked at. -/
def BrkC (r : Rul) (b4 b8 : Nat) (wR : World) (pre : List Shf) (W : World) : Prop :=
  Upd (fun i => i = b4 ∨ i = b8 ∨ i = (wR.heap.size + 1)) wR W ∧ Blk W b4 3 [.int .i64 0] ∧ Blk W b8 3 [.int .i64 (if (pre.any fun x => decide (r.work < x.w)) = true then 3 else 0)] ∧ (pre.any fun x => decide (r.span < x.e - x.b)) = false
def BrkF (r : Rul) (b4 b8 : Nat) (wR : World) (p : List Shf × Shf) (W : World) : Prop :=
  Upd (fun i => i = b4 ∨ i = b8 ∨ i = (wR.heap.size + 1)) wR W ∧ Blk W b4 3 [.int .i64 2] ∧ r.span < p.2.e - p.2.b ∧ ∃ v, Blk W b8 3 [v]
theorem BrkC.ext {r : Rul} {b4 b8 : Nat} {wR : World} (pre : List Shf) (W W' : World) (h : BrkC r b4 b8 wR pre W) (u : Ext W W') : BrkC r b4 b8 wR pre W' := ⟨h.1.nx u, h.2.1.kx u, h.2.2.1.kx u, h.2.2.2⟩
theorem BrkF.ext {r : Rul} {b4 b8 : Nat} {wR : World} (p : List Shf × Shf) (W W' : World) (h : BrkF r b4 b8 wR p W) (u : Ext W W') : BrkF r b4 b8 wR p W' := by
  obtain ⟨h1, h2, h3, v, h4⟩ := h
  exact ⟨h1.nx u, h2.kx u, h3, v, h4.kx u⟩
theorem BrkC.turned {r : Rul} {b4 b8 : Nat} {wR : World} : Turned (wR.heap.size + 1) (BrkC r b4 b8 wR) := fun _pre _W _W' h hl u =>
  ⟨h.1.trans (u.mono fun _i e => .inr (.inr e)), h.2.1.keep u (h.2.1.notLoop hl), h.2.2.1.keep u (h.2.2.1.notLoop hl), h.2.2.2⟩
theorem BrkF.turned {r : Rul} {b4 b8 : Nat} {wR : World} : Turned (wR.heap.size + 1) (BrkF r b4 b8 wR) := fun p W W' h hl u => by
  obtain ⟨h1, h2, h3, v, h4⟩ := h
  exact ⟨h1.trans (u.mono fun i e => .inr (.inr e)), h2.keep u (h2.notLoop hl), h3, v, h4.keep u (h4.notLoop hl)⟩
theorem own56 : Own Tryz.prog 56 := ⟨Tryz.f56, func56, by kernel_rfl, by kernel_rfl⟩
theorem shifts_c (r : Rul) (l : List Sp) (al : Option Addr) (_bl _ol cl : Nat) (w0 : World) :
    CallsV Tryz.prog 35 [.agg #[.int .i64 r.rest, .int .i64 r.span, .int .i64 r.work, .int .i64 r.week, .int .i64 r.ww], .slice al l.length cl] w0 (fun v w' => (∃ b1 b2, v = .func (.func 56) #[] #[.pointer (some ⟨b1, 0, none⟩), .pointer (some ⟨b2, 0, none⟩)] ∧ Blk w' b1 58 [.slice al l.length cl] ∧ Blk w' b2 55 [.int .i64 r.rest, .int .i64 r.span, .int .i64 r.work, .int .i64 r.week, .int .i64 r.ww] ∧ w0.heap.size ≤ b1 ∧ w0.heap.size ≤ b2) ∧ Ext w0 w') := by
 refine f_n func35 ?_
 refine go ?_
 refine x_b fun bk2 w3 ebk2 sbk2 B4 u5 => ?_
 refine x_b fun bk7 w8 ebk7 sbk7 B9 u10 => ?_
 refine go ?_
 refine t_mkfunc (vs := []) (us := [.pointer (some ⟨bk7, 0, none⟩), .pointer (some ⟨bk2, 0, none⟩)]) rfl rfl rfl rfl ?_
 refine go ?_
 refine f_1 results35 ?_
 have B13 := (B4.kx u10)
 exact ⟨⟨bk7, bk2, rfl, B9, B13, by omega, by omega⟩, u_d⟩
set_option maxHeartbeats 4000000 in
theorem shifts1_c (r : Rul) (l : List Sp) (al : Option Addr) (bl ol cl ly D b1 b2 : Nat) (T : Nat → Prop) (C : List Shf → World → Prop) (Cf : List Shf × Shf → World → Prop) (R Rf : World → Prop) (w0 : World) (hC : ∀ pre W W', C pre W → Ext W W' → C pre W') (_hCf : ∀ p W W', Cf p W → Ext W W' → Cf p W') (hH : HandsL Tryz.prog ly D encShX (YSh D C) (ZSh T C) (FSh T Cf) R Rf) (h1 : Blk w0 b1 58 [.slice al l.length cl]) (h2 : Blk w0 b2 55 [.int .i64 r.rest, .int .i64 r.span, .int .i64 r.work, .int .i64 r.week, .int .i64 r.ww]) (hl : Sl encSp 2 w0 al bl ol l) (hll : l.length ≤ 100000) (hok : ∀ x ∈ l, OkSp x) (hr : okRul r = true) (_hly : ly = D + 1) (hD : D + 1 < w0.heap.size) (hT1 : ¬ T b1) (hT2 : ¬ T b2) (hTl : 0 < l.length → ¬ T bl) (hR0 : R w0) (hC0 : C [] w0) :
    CallsV Tryz.prog 56 [.func (.yield ly) #[] #[], .pointer (some ⟨b1, 0, none⟩), .pointer (some ⟨b2, 0, none⟩)] w0 (fun _ w' => ((C (shiftsP r l) w' ∧ R w') ∨ (EndF (shiftsP r l) Cf w' ∧ Rf w')) ∧ Upd T w0 w') := by
 have hR : ∀ (_ _ : Unit) W W', R W → Ext W W' → R W' := fun _ _ W W' h u => hH.keep h u (fun h => h) (fun h => h)
 have hCc : ∀ (_ : Unit) pre W W', C pre W → Ext W W' → C pre W' := fun _ => hC
 have hrr := rul_rng hr
 have hb1l := h1.lt
 have hb2l := h2.lt
 refine f_n func56 ?_
 refine go ?_
 refine x_l2 (fun i => T i) [0, 1, 2] (fun (p : Nat) (pre : List Shf) => [(4, .int .i64 (p : Int))]) (fun p pre w => (p ≤ l.length) ∧ (shiftsP r l = pre ++ shiftsP r (l.drop p)) ∧ (C pre w) ∧ (R w)) (fun p pre => l.length - p) 0 ([]) ⟨(Nat.zero_le _), rfl, hC0, hR0⟩ ?_
 rintro p pre w3 ⟨hi, hsp, hCk, hRk⟩ u4 zu4 K2 hK2
 have E5 := Sc.mk ((Upd.refl (fun i => T i) w0).next u4 (fun i hi (h : T i) => show T i by first | omega | assumption))
 refine go ?_
 refine q_p (fun g9 => ?_) fun g9 => ?_
 ·
  refine go ?_
  refine c_drawnM follows (fun _ => False) (OTl [0, 2, 4, 6, 8, 10, 12, 14, 16, 18, 20, 23, 25]) (by kernel_rfl) fun w9 u10 => ?_
  have zu10 := u10.size
  refine go ?_
  have D12 := ((hl.keep u4 (fun hp => by have hq_ := hTl hp; have hq2_ := hl.lt hp; show ¬ (T bl); first | exact hq_ | omega)).keep u10 (fun _ h => h))
  refine y_i p D12 (fun _ => ?_)
  refine go ?_
  refine y_i p D12 (fun _ => ?_)
  refine go ?_
  refine x_n fun bk15 w16 ebk15 sbk15 B17 u18 => ?_
  refine go ?_
  refine x_s fun w20 sw20 B22 u21 => ?_
  refine go ?_
  have hbll := hl.lt (show 0 < l.length by omega)
  have hoi := hok _ (nth_mem (xs := l) (i := p) (by omega))
  have hnew := sh_new (r := r) (l := l) (i := p) (by omega) hrr.1.1 hoi
  unfold OkSp at hoi
  refine x_l2 (fun i => i = bk15) [0, 1, 2, 5] (fun (j : Nat) (x : Shf) => [(4, .int .i64 (j : Int))]) (fun j x w => Blk w bk15 91 [.int .i64 x.b, .int .i64 x.e, .int .i64 x.w] ∧ (j ≤ l.length) ∧ (shGo r x (l.drop j) = shiftsP r (l.drop p)) ∧ (okShf j x) ∧ ((j = p ∧ x.e = (nth l p).e) ∨ p < j)) (fun j x => l.length - j) p (⟨(nth l p).b, (nth l p).e, 0⟩) ⟨B22, (by show p ≤ _; omega), hnew, (by show okShf p ⟨_, _, _⟩; unfold okShf; simp only []; omega), (.inl ⟨rfl, rfl⟩)⟩ ?_
  rintro j x w26 ⟨I28, hj, hsg, hox, hij⟩ u27 zu27 K25 hK25
  unfold okShf at hox
  refine st1 ?_
  refine x_k1 (fun _ => False) [0, 1, 2, 4, 5] (fun (q : Bool) => [(38, .bool q)]) (fun q w => (q = true ↔ (j < l.length ∧ (nth l j).b < x.e + r.rest))) (fun K35 hK35 => ?_) ?_
  ·
   refine c_drawnM follows (fun _ => False) (OTl [0, 2, 4, 6, 8, 10, 12, 14, 16, 18, 20, 22, 24, 26, 28, 30, 32, 34]) (by kernel_rfl) fun w38 u39 => ?_
   have zu39 := u39.size
   refine go ?_
   refine y_splitp 25 rfl (fun g25 => ?_) (fun g25 => ?_)
   ·
    refine go ?_
    have D41 := ((((D12.keep u18 (fun _ h => h)).keep u21 (fun hp => by have hq_ := hTl hp; have hq2_ := hl.lt hp; show ¬ (bl = bk15); first | exact hq_ | omega)).keep u27 (fun hp => by have hq_ := hTl hp; have hq2_ := hl.lt hp; show ¬ (bl = bk15); first | exact hq_ | omega)).keep u39 (fun _ h => h))
    refine y_i j D41 (fun _ => ?_)
    refine go ?_
    exact hK35 (decide ((nth l j).b < (x.e + r.rest))) (decide_eq_true_iff.trans ⟨fun h => ⟨by omega, by omega⟩, fun h => by omega⟩)
   refine go ?_
   exact hK35 false (⟨fun h => (by cases h), fun h => absurd h.1 (by omega)⟩)
  rintro q w36 hq u37 zu37
  refine q_b (fun g38 => ?_) fun g38 => ?_
  ·
   have hq8 := hq.1 g38
   have hoj := hok _ (nth_mem (xs := l) (i := j) (by omega))
   unfold OkSp at hoj
   refine go ?_
   refine c_drawnM follows (fun i => i = bk15) (.look 0 (.look 2 (.look 3 (.look 4 (.look 5 (.look 6 (.look 8 (.look 10 (.look 11 (.look 12 (.look 13 (.act 1 (.look 7 (.act 9 (.look 16 (.act 14 (.look 15 (.act 17 (.look 18 (.act 19 .done .stop)) .stop)) .stop)) (.act 14 (.act 9 (.look 15 (.look 16 (.act 17 (.look 18 (.act 19 .done .stop)) .stop))) .stop) .stop))) (.act 9 (.act 1 (.look 7 (.look 16 (.act 14 (.look 15 (.act 17 (.look 18 (.act 19 .done .stop)) .stop)) .stop))) (.act 14 (.look 15 (.act 1 (.look 7 (.look 16 (.act 17 (.look 18 (.act 19 .done .stop)) .stop))) .stop)) .stop)) (.act 14 (.act 1 (.look 7 (.act 9 (.look 15 (.look 16 (.act 17 (.look 18 (.act 19 .done .stop)) .stop))) .stop)) (.act 9 (.look 15 (.act 1 (.look 7 (.look 16 (.act 17 (.look 18 (.act 19 .done .stop)) .stop))) .stop)) .stop)) .stop)))))))))))))) (by kernel_rfl) fun w45 u46 => ?_
   have zu46 := u46.size
   refine go ?_
   have D48 := (((((D12.keep u18 (fun _ h => h)).keep u21 (fun hp => by have hq_ := hTl hp; have hq2_ := hl.lt hp; show ¬ (bl = bk15); first | exact hq_ | omega)).keep u27 (fun hp => by have hq_ := hTl hp; have hq2_ := hl.lt hp; show ¬ (bl = bk15); first | exact hq_ | omega)).keep u37 (fun _ h => h)).keep u46 (fun _ h => h))
   refine y_i j D48 (fun _ => ?_)
   refine go ?_
   refine y_i j D48 (fun _ => ?_)
   refine go ?_
   refine s_or ?_ ?_
   ·
    refine go ?_
    refine y_max rfl rfl rfl rfl (s_or ?_ ?_)
    ·
     refine go ?_
     refine x_c func57 rfl rfl (work_c (nth l j) _ (hok _ (nth_mem (by omega)))) ?_
     rintro _ w52 ⟨rfl, u53⟩ zu53
     refine go ?_
     refine x_s fun w56 sw56 B58 u57 => ?_
     refine go ?_
     refine x_s fun w60 sw60 B62 u61 => ?_
     refine go ?_
     exact hK25 (j + 1) (⟨x.b, max x.e (nth l j).e, x.w + ((nth l j).e - (nth l j).b)⟩) ⟨B62, (by show j + 1 ≤ _; omega), (by show shGo r ⟨_, _, _⟩ (l.drop (j + 1)) = _; rw [← sh_in (by omega) (by omega)]; exact hsg), (by show okShf (j + 1) ⟨_, _, _⟩; unfold okShf; simp only []; omega), (.inr (by show p < j + 1; omega))⟩ (hm := (by show l.length - (j + 1) < l.length - j; omega))
    refine go ?_
    refine x_c func57 rfl rfl (work_c (nth l j) _ (hok _ (nth_mem (by omega)))) ?_
    rintro _ w65 ⟨rfl, u66⟩ zu66
    refine go ?_
    refine x_s fun w69 sw69 B71 u70 => ?_
    refine go ?_
    refine x_s fun w73 sw73 B75 u74 => ?_
    refine go ?_
    exact hK25 (j + 1) (⟨x.b, max x.e (nth l j).e, x.w + ((nth l j).e - (nth l j).b)⟩) ⟨B75, (by show j + 1 ≤ _; omega), (by show shGo r ⟨_, _, _⟩ (l.drop (j + 1)) = _; rw [← sh_in (by omega) (by omega)]; exact hsg), (by show okShf (j + 1) ⟨_, _, _⟩; unfold okShf; simp only []; omega), (.inr (by show p < j + 1; omega))⟩ (hm := (by show l.length - (j + 1) < l.length - j; omega))
   refine s_or ?_ ?_
   ·
    refine go ?_
    refine s_or ?_ ?_
    ·
     refine go ?_
     refine y_max rfl rfl rfl rfl ?_
     refine go ?_
     refine x_c func57 rfl rfl (work_c (nth l j) _ (hok _ (nth_mem (by omega)))) ?_
     rintro _ w78 ⟨rfl, u79⟩ zu79
     refine go ?_
     refine x_s fun w82 sw82 B84 u83 => ?_
     refine go ?_
     refine x_s fun w86 sw86 B88 u87 => ?_
     refine go ?_
     exact hK25 (j + 1) (⟨x.b, max x.e (nth l j).e, x.w + ((nth l j).e - (nth l j).b)⟩) ⟨B88, (by show j + 1 ≤ _; omega), (by show shGo r ⟨_, _, _⟩ (l.drop (j + 1)) = _; rw [← sh_in (by omega) (by omega)]; exact hsg), (by show okShf (j + 1) ⟨_, _, _⟩; unfold okShf; simp only []; omega), (.inr (by show p < j + 1; omega))⟩ (hm := (by show l.length - (j + 1) < l.length - j; omega))
    refine go ?_
    refine x_c func57 rfl rfl (work_c (nth l j) _ (hok _ (nth_mem (by omega)))) ?_
    rintro _ w91 ⟨rfl, u92⟩ zu92
    refine go ?_
    refine y_max rfl rfl rfl rfl ?_
    refine go ?_
    refine x_s fun w95 sw95 B97 u96 => ?_
    refine go ?_
    refine x_s fun w99 sw99 B101 u100 => ?_
    refine go ?_
    exact hK25 (j + 1) (⟨x.b, max x.e (nth l j).e, x.w + ((nth l j).e - (nth l j).b)⟩) ⟨B101, (by show j + 1 ≤ _; omega), (by show shGo r ⟨_, _, _⟩ (l.drop (j + 1)) = _; rw [← sh_in (by omega) (by omega)]; exact hsg), (by show okShf (j + 1) ⟨_, _, _⟩; unfold okShf; simp only []; omega), (.inr (by show p < j + 1; omega))⟩ (hm := (by show l.length - (j + 1) < l.length - j; omega))
   refine go ?_
   refine x_c func57 rfl rfl (work_c (nth l j) _ (hok _ (nth_mem (by omega)))) ?_
   rintro _ w104 ⟨rfl, u105⟩ zu105
   refine go ?_
   refine s_or ?_ ?_
   ·
    refine go ?_
    refine y_max rfl rfl rfl rfl ?_
    refine go ?_
    refine x_s fun w108 sw108 B110 u109 => ?_
    refine go ?_
    refine x_s fun w112 sw112 B114 u113 => ?_
    refine go ?_
    exact hK25 (j + 1) (⟨x.b, max x.e (nth l j).e, x.w + ((nth l j).e - (nth l j).b)⟩) ⟨B114, (by show j + 1 ≤ _; omega), (by show shGo r ⟨_, _, _⟩ (l.drop (j + 1)) = _; rw [← sh_in (by omega) (by omega)]; exact hsg), (by show okShf (j + 1) ⟨_, _, _⟩; unfold okShf; simp only []; omega), (.inr (by show p < j + 1; omega))⟩ (hm := (by show l.length - (j + 1) < l.length - j; omega))
   refine go ?_
   refine y_max rfl rfl rfl rfl ?_
   refine go ?_
   refine x_s fun w116 sw116 B118 u117 => ?_
   refine go ?_
   refine x_s fun w120 sw120 B122 u121 => ?_
   refine go ?_
   exact hK25 (j + 1) (⟨x.b, max x.e (nth l j).e, x.w + ((nth l j).e - (nth l j).b)⟩) ⟨B122, (by show j + 1 ≤ _; omega), (by show shGo r ⟨_, _, _⟩ (l.drop (j + 1)) = _; rw [← sh_in (by omega) (by omega)]; exact hsg), (by show okShf (j + 1) ⟨_, _, _⟩; unfold okShf; simp only []; omega), (.inr (by show p < j + 1; omega))⟩ (hm := (by show l.length - (j + 1) < l.length - j; omega))
  have hq9 : ¬ (j < l.length ∧ (nth l j).b < x.e + r.rest) := fun h => by rw [hq.2 h] at g38; cases g38
  have hlt : p < j := by
    rcases hij with h | h
    · exact absurd ⟨by omega, by rw [h.1]; omega⟩ hq9
    · exact h
  have hpl : pre.length < 100000 := by
    have h9 := shifts_len (r := r) (l := l)
    rw [hsp, ← hsg, sh_exit hq9, List.length_append, List.length_cons] at h9; omega
  refine go ?_
  refine t_yield (vs := [.agg #[.int .i64 x.b, .int .i64 x.e, .int .i64 x.w]]) rfl rfl rfl rfl (hH.hand ⟨pre, x, w36⟩ _ ⟨(hC _ _ _ hCk ((((((Upd.refl (fun _ => False) _).nx u10).nx u18).next u21 (fun i hi (h : i = bk15) => show False by first | omega | assumption)).next u27 (fun i hi (h : i = bk15) => show False by first | omega | assumption)).nx u37)), ⟨⟨by show (0 ≤ x.b ∧ x.b ≤ 20160) ∧ (0 ≤ x.e ∧ x.e ≤ 20160) ∧ 0 ≤ x.w; omega, hpl⟩, by omega⟩, Upd.refl _ _⟩ (hR () () _ _ hRk ((((((Upd.refl (fun _ => False) _).nx u10).nx u18).next u21 (fun i hi (h : i = bk15) => show False by first | omega | assumption)).next u27 (fun i hi (h : i = bk15) => show False by first | omega | assumption)).nx u37))) (by rintro e w' (⟨rfl, _⟩ | ⟨rfl, _⟩) <;> exact ⟨_, rfl⟩) (fun v125 w126 r127 => ?_)
  rcases r127 with ⟨hvr127, hrr127⟩ | ⟨hvr127, hrr127⟩ <;> injection hvr127 with hvr127 <;> subst hvr127
  ·
   obtain ⟨⟨hzC, u128⟩, hzR⟩ := hrr127
   have zu128 := u128.size
   refine go ?_
   exact hK2 j (pre ++ [x]) ⟨(by omega), (by show _ = (pre ++ [x]) ++ _; rw [hsp, ← hsg, sh_exit hq9, List.append_assoc]; rfl), hzC, hzR⟩ (hm := (by show l.length - j < l.length - p; omega)) (hu := ((((((u4.nx u10).nx u18).next u21 (fun i hi (h : i = bk15) => show T i by first | omega | assumption)).next u27 (fun i hi (h : i = bk15) => show T i by first | omega | assumption)).nx u37).next u128 (fun i hi (h : T i) => show T i by first | omega | assumption)))
  obtain ⟨⟨hzF, u128⟩, hzR⟩ := hrr127
  have zu128 := u128.size
  refine go ?_
  refine f_ret0 results56 ?_
  exact ⟨.inr ⟨⟨pre, x, shiftsP r (l.drop j), by rw [hsp, ← hsg, sh_exit hq9], hzF⟩, hzR⟩, ((((((E5.u.nx u10).nx u18).next u21 (fun i hi (h : i = bk15) => show T i by first | omega | assumption)).next u27 (fun i hi (h : i = bk15) => show T i by first | omega | assumption)).nx u37).next u128 (fun i hi (h : T i) => show T i by first | omega | assumption))⟩
 refine go ?_
 refine f_ret0 results56 ?_
 exact ⟨.inl ⟨by rw [show shiftsP r l = pre by rw [hsp, List.drop_of_length_le (by omega), shiftsP, List.append_nil]]; exact hCk, hRk⟩, E5.u⟩
set_option maxHeartbeats 4000000 in
theorem broken_c (r : Rul) (l : List Sp) (al : Option Addr) (bl ol cl : Nat) (w0 : World) (hl : Sl encSp 2 w0 al bl ol l) (hll : l.length ≤ 100000) (hok : ∀ x ∈ l, OkSp x) (hr : okRul r = true) :
    CallsV Tryz.prog 17 [.agg #[.int .i64 r.rest, .int .i64 r.span, .int .i64 r.work, .int .i64 r.week, .int .i64 r.ww], .slice al l.length cl] w0 (fun v w' => v = .int .i64 (brokP r l) ∧ Ext w0 w') := by
 have hrr := rul_rng hr
 refine f_enterM (N := 83) func17 rfl rfl rfl (q_of ?_)
 refine go ?_
 refine x_b fun bk2 w3 ebk2 sbk2 B4 u5 => ?_
 refine x_n fun bk7 w8 ebk7 sbk7 B9 u10 => ?_
 refine go ?_
 refine x_l1 (fun _ => False) [1, 2, 4, 15, 16] (fun (k : Nat) => [(5, .int .i64 (mxE l k)), (17, .int .i64 (k : Int))]) (fun k w => (k ≤ l.length) ∧ (∀ j, j < k → ¬ (nth l j).b < mxE l j)) (fun k => l.length - k) 0 ⟨(Nat.zero_le _), (fun j hj => absurd hj (Nat.not_lt_zero _))⟩ ?_
 rintro k w16 ⟨hk, hno⟩ u17 zu17 K15 hK15
 have E18 := Sc.mk ((((Upd.refl (fun _ => False) w0).nx u5).nx u10).nx u17)
 refine go ?_
 refine q_p (fun g18 => ?_) fun g18 => ?_
 ·
  have hokk := hok _ (nth_mem (xs := l) (i := k) (by omega))
  unfold OkSp at hokk
  refine go ?_
  refine g_i k (hl.keep E18.u (fun _ h => h)) (fun _ => ?_)
  refine go ?_
  refine x_n fun bk24 w25 ebk24 sbk24 B26 u27 => ?_
  refine x_s fun w29 sw29 B31 u30 => ?_
  refine go ?_
  refine q_p (fun g24 => ?_) fun g24 => ?_
  ·
   refine go ?_
   have B36 := (((B9.kx u17).kx u27).keep u30 (by omega))
   refine x_s fun w37 sw37 B39 u38 => ?_
   refine go ?_
   have D43 := (((((((show Marks w0.heap.size [] w0 from trivial).keep u5 (CellsIn.none _)).keep u10 (CellsIn.none _)).keep u17 (CellsIn.none _)).keep u27 (CellsIn.none _)).keep u30 (B26).cellsIn).keep u38 (B36).cellsIn)
   have hmkE := D43
   refine f_retMc1 (v := .int .i64 1) results17 (.cell D43 rfl isAgg3 B39 rfl) D43 (fun w41 u42 omw41 => ?_)
   have zu42 := u42.size
   have hres : 1 = brokP r l := by
     unfold brokP
     symm; rw [if_pos (ovl_yes (k := k) (by omega) g24)]
   exact ⟨congrArg (Value.int .i64) hres, ((((E18.u.nx u27).next u30 (fun i hi h => by omega)).next u38 (fun i hi h => by omega)).next u42 (fun i hi (h : w0.heap.size ≤ i) => show False by first | omega | assumption))⟩
  refine go ?_
  refine t_max rfl rfl rfl rfl ?_
  refine go ?_
  exact hK15 (k + 1) ⟨(by omega), (fun j hj => by
    rcases Nat.lt_or_ge j k with h | h
    · exact hno j h
    · rw [show j = k by omega]; exact g24)⟩ (hs := by exact ⟨(congrArg (fun z => some (Value.int .i64 z)) (mxE_succ (by omega)).symm), rfl, rfl, rfl, rfl, rfl, rfl, trivial⟩)
 have hov : ovlP 0 l = false := ovl_not (fun j hj => hno j (by omega))
 refine go ?_
 refine x_n fun bk46 w47 ebk46 sbk46 B48 u49 => ?_
 refine x_s fun w51 sw51 B53 u52 => ?_
 refine go ?_
 refine x_c func35 rfl rfl (shifts_c r l al bl ol cl _) ?_
 rintro _ w58 ⟨⟨bS1, bS2, rfl, hBS1, hBS2, gS1, gS2⟩, u59⟩ zu59
 have E61 := Sc.mk (((E18.u.nx u49).next u52 (fun i hi h => by omega)).nx u59)
 refine go ?_
 have B62 := ((((B9.kx u17).kx u49).keep u52 (by omega)).kx u59)
 have B63 := (B53.kx u59)
 have lw4 := B62.lt
 have lw8 := B63.lt
 have lwS1 := hBS1.lt
 have lwS2 := hBS2.lt
 have hlS := (hl.keep E61.u (fun _ h => h))
 refine WC.weak [(1, .slice al l.length cl), (2, .pointer (some ⟨bk2, 0, none⟩)), (4, .pointer (some ⟨bk7, 0, none⟩)), (8, .pointer (some ⟨bk46, 0, none⟩)), (32, .func (.func 56) #[] #[.pointer (some ⟨bS1, 0, none⟩), .pointer (some ⟨bS2, 0, none⟩)])] ⟨rfl, rfl, rfl, rfl, rfl, trivial⟩ (c_rangeL (γ := ShX) (δ := Nat) (lb := [.pointer (some ⟨bS1, 0, none⟩), .pointer (some ⟨bS2, 0, none⟩)]) (enc := encShX) own56 rfl rfl (YSh w58.heap.size (BrkC r bk7 bk46 w58)) (ZSh (fun i => i = bk7 ∨ i = bk46 ∨ i = (w58.heap.size + 1)) (BrkC r bk7 bk46 w58)) (FSh (fun i => i = bk7 ∨ i = bk46 ∨ i = (w58.heap.size + 1)) (BrkF r bk7 bk46 w58)) (BrkC r bk7 bk46 w58 (shiftsP r l)) (EndF (shiftsP r l) (BrkF r bk7 bk46 w58)) (ZSh.turned BrkC.turned (by simp)) (FSh.turned BrkF.turned (by simp)) (fun _ W W' h hl u => BrkC.turned _ W W' h hl u) (EndF.turned BrkF.turned) ?_ (fun x d => [(1, .slice al l.length cl), (2, .pointer (some ⟨bk2, 0, none⟩)), (4, .pointer (some ⟨bk7, 0, none⟩)), (8, .pointer (some ⟨bk46, 0, none⟩)), (9, .pointer (some ⟨d, 0, none⟩))]) (fun x d W => Blk W d 91 (encShf x.v) ∧ w58.heap.size + 1 < d ∧ YSh w58.heap.size (BrkC r bk7 bk46 w58) x W) (fun d x W W' h hl u => ⟨h.1.keep u (h.1.notLoop hl), h.2.1, YSh.turned BrkC.turned _ _ _ h.2.2 hl u⟩) ?_ ?_ ?_ ?_)
 ·
  intro l_ D R Rf W hD hl hsz hE1 hH hR
  subst hD hl
  refine (shifts1_c r l al bl ol cl _ _ bS1 bS2 (fun i => i = bk7 ∨ i = bk46 ∨ i = (w58.heap.size + 1)) (BrkC r bk7 bk46 w58) (BrkF r bk7 bk46 w58) R Rf W (fun p W W' h u => BrkC.ext p W W' h u) (fun p W W' h u => BrkF.ext p W W' h u) hH (hBS1.kx hE1) (hBS2.kx hE1) (hlS.keep hE1 (fun _ h => h)) hll hok hr rfl (by omega) (show ¬ (bS1 = bk7 ∨ bS1 = bk46 ∨ bS1 = (w58.heap.size + 1)) by omega) (show ¬ (bS2 = bk7 ∨ bS2 = bk46 ∨ bS2 = (w58.heap.size + 1)) by omega) (fun hp => by have h9 := hl.lt hp; show ¬ (bl = bk7 ∨ bl = bk46 ∨ bl = (w58.heap.size + 1)); omega) hR ⟨Ext.to hE1, B62.kx hE1, B63.kx hE1, rfl⟩).mono fun _ _ h => h.1
 ·
  intro lq x W K64 hI hK64
  change WC _ _ _ _ _ _ [(33, .agg #[.int .i64 x.v.b, .int .i64 x.v.e, .int .i64 x.v.w]), (1, .slice al l.length cl), (2, .pointer (some ⟨bk2, 0, none⟩)), (4, .pointer (some ⟨bk7, 0, none⟩)), (8, .pointer (some ⟨bk46, 0, none⟩)), (32, .func (.func 56) #[] #[.pointer (some ⟨bS1, 0, none⟩), .pointer (some ⟨bS2, 0, none⟩)])] _
  refine (q_of ?_)
  obtain ⟨⟨hu0, hc4, hc8, hcn⟩, ⟨hrg, hDW⟩, hux⟩ := id hI
  refine go ?_
  refine x_n fun bk65 w66 ebk65 sbk65 B67 u68 => ?_
  refine x_s fun w70 sw70 B72 u71 => ?_
  have E73 := Sc.mk (((Upd.refl (fun _ => False) W).nx u68).next u71 (fun i hi h => by omega))
  refine go ?_
  exact hK64 bk65 _ _ ⟨rfl, rfl, rfl, rfl, rfl, trivial⟩ E73.u ⟨B72, by omega, BrkC.ext _ _ _ hI.1 E73.u, ⟨hrg, by have := (E73.u).size; omega⟩, hux.nx E73.u⟩
 ·
  intro lq x d w74 hY
  obtain ⟨hbd, hdg, ⟨hu0, hc4, hc8, hcn⟩, ⟨⟨hrg, _⟩, hDW⟩, hux⟩ := hY
  unfold RgSh at hrg
  have hdl := hbd.lt
  have zhu0 := hu0.size
  change WC _ _ _ _ _ _ [(1, .slice al l.length cl), (2, .pointer (some ⟨bk2, 0, none⟩)), (4, .pointer (some ⟨bk7, 0, none⟩)), (8, .pointer (some ⟨bk46, 0, none⟩)), (9, .pointer (some ⟨d, 0, none⟩))] _
  refine (q_of ?_)
  have hcellsR := ((hc4).cellsIn.or (hc8).cellsIn)
  refine go ?_
  have k78 := ((((((B4.kx u10).kx u17).kx u49).keep u52 (by omega)).kx u59).keep hu0 (by omega))
  refine go ?_
  refine q_p (fun g42 => ?_) fun g42 => ?_
  ·
   refine go ?_
   refine x_s fun w80 sw80 B82 u81 => ?_
   refine go ?_
   have hUr := ((Upd.refl (fun i => i = bk7 ∨ i = bk46) w74).next u81 (fun i hi h => by omega))
   have B84 := (hc8.keep u81 (by omega))
   exact ⟨fun a ha => ⟨KeepsFrom.of_upd hUr hcellsR, ⟨⟨(hu0.next u81 (fun i hi h => by omega)), B82, g42, _, B84⟩, ((hux.mono fun i e => .inr (.inr e)).trans ((Upd.refl (fun i => i = bk7 ∨ i = bk46 ∨ i = (w58.heap.size + 1)) _).next u81 (fun i hi h => by omega)))⟩⟩⟩
  refine go ?_
  refine q_p (fun g48 => ?_) fun g48 => ?_
  ·
   refine go ?_
   refine x_s fun w86 sw86 B88 u87 => ?_
   refine go ?_
   have hUr := ((Upd.refl (fun i => i = bk7 ∨ i = bk46) w74).next u87 (fun i hi h => by omega))
   have B90 := (hc4.keep u87 (by omega))
   exact ⟨fun a ha => ⟨KeepsFrom.of_upd hUr hcellsR, ⟨⟨(hu0.next u87 (fun i hi h => by omega)), B90, (by rw [List.any_append]; simp only [List.any_cons, List.any_nil, Bool.or_false, Bool.or_eq_true, decide_eq_true_eq]; rw [if_pos (.inr g48)]; exact B88), by rw [List.any_append, hcn]; simp only [List.any_cons, List.any_nil, Bool.or_false, Bool.false_or]; exact decide_eq_false g42⟩, ((hux.mono fun i e => .inr (.inr e)).trans ((Upd.refl (fun i => i = bk7 ∨ i = bk46 ∨ i = (w58.heap.size + 1)) _).next u87 (fun i hi h => by omega)))⟩⟩⟩
  refine go ?_
  have hUr := (Upd.refl (fun i => i = bk7 ∨ i = bk46) w74)
  exact ⟨fun a ha => ⟨KeepsFrom.of_upd hUr hcellsR, ⟨⟨hu0, hc4, (by rw [List.any_append]; simp only [List.any_cons, List.any_nil, Bool.or_false, decide_eq_false g48]; exact hc8), by rw [List.any_append, hcn]; simp only [List.any_cons, List.any_nil, Bool.or_false, Bool.false_or]; exact decide_eq_false g42⟩, ((hux.mono fun i e => .inr (.inr e)).trans (Upd.refl (fun i => i = bk7 ∨ i = bk46 ∨ i = (w58.heap.size + 1)) _))⟩⟩⟩
 ·
  have D93 := (((((((show Marks w0.heap.size [] w0 from trivial).keep u5 (CellsIn.none _)).keep u10 (CellsIn.none _)).keep u17 (CellsIn.none _)).keep u49 (CellsIn.none _)).keep u52 (B48).cellsIn).keep u59 (CellsIn.none _))
  have hmk0 := D93
  have hmc0 := (show CellsIn (fun i => i = bk7 ∨ i = bk46 ∨ i = (w58.heap.size + 1)) w58 from fun k hk e => by
    rcases e with rfl | rfl | e
    · exact ⟨_, _, _, B62⟩
    · exact ⟨_, _, _, B63⟩
    · omega)
  intro D92 w91 hD92 hE hdD92
  obtain ⟨preF, vF, postF, hshF, hu1, hc4, hspF, v8, hc8⟩ := hE
  have zhu1 := hu1.size
  have mk95 := (hmk0.keep hu1 hmc0).push (D := D92) (by omega) hdD92 (fun d hd D' e => Nat.lt_of_lt_of_le (hmk0.lt d hd D' e) hD92)
  refine go ?_
  have hmkE := mk95
  refine f_retMc1 (v := .int .i64 2) results17 (.cell mk95 rfl isAgg3 hc4 rfl) mk95 (fun w96 u97 omw96 => ?_)
  have zu97 := u97.size
  have hres : 2 = brokP r l := by
    unfold brokP
    symm; rw [if_neg (by rw [hov]; decide), if_pos (by rw [hshF]; exact List.any_eq_true.2 ⟨vF, by simp, by simpa using hspF⟩)]
  exact ⟨congrArg (Value.int .i64) hres, ((E61.u.next hu1 (fun i hi h => by omega)).next u97 (fun i hi (h : w0.heap.size ≤ i) => show False by first | omega | assumption))⟩
 ·
  have D101 := (((((((show Marks w0.heap.size [] w0 from trivial).keep u5 (CellsIn.none _)).keep u10 (CellsIn.none _)).keep u17 (CellsIn.none _)).keep u49 (CellsIn.none _)).keep u52 (B48).cellsIn).keep u59 (CellsIn.none _))
  have hmk0 := D101
  have hmc0 := (show CellsIn (fun i => i = bk7 ∨ i = bk46 ∨ i = (w58.heap.size + 1)) w58 from fun k hk e => by
    rcases e with rfl | rfl | e
    · exact ⟨_, _, _, B62⟩
    · exact ⟨_, _, _, B63⟩
    · omega)
  intro D100 w99 hD100 hE hdD100
  obtain ⟨hu1, hc4, hc8, hcn⟩ := hE
  have zhu1 := hu1.size
  have E102 := Sc.mk (E61.u.next hu1 (fun i hi h => by omega))
  have mk103 := (hmk0.keep hu1 hmc0).push (D := D100) (by omega) hdD100 (fun d hd D' e => Nat.lt_of_lt_of_le (hmk0.lt d hd D' e) hD100)
  refine go ?_
  refine q_p (fun g50 => ?_) fun g50 => ?_
  ·
   refine go ?_
   refine x_s fun w107 sw107 B109 u108 => ?_
   refine go ?_
   have D113 := (mk103.keep u108 (hc4).cellsIn)
   have hmkE := D113
   refine f_retMc1 (v := .int .i64 (if ((shiftsP r l).any fun x => decide (r.work < x.w)) = true then 3 else 0)) results17 (.cell D113 rfl isAgg3 B109 rfl) D113 (fun w111 u112 omw111 => ?_)
   have zu112 := u112.size
   have hres : (if ((shiftsP r l).any fun x => decide (r.work < x.w)) = true then 3 else 0) = brokP r l := by
     unfold brokP
     symm; rw [if_neg (by rw [hov]; decide), if_neg (by rw [hcn]; decide)]
     by_cases h9 : ((shiftsP r l).any fun x => decide (r.work < x.w)) = true
     · rw [if_pos h9, if_pos h9]
     · rw [if_neg h9] at g50; exact absurd rfl g50
   exact ⟨congrArg (Value.int .i64) hres, ((E102.u.next u108 (fun i hi h => by omega)).next u112 (fun i hi (h : w0.heap.size ≤ i) => show False by first | omega | assumption))⟩
  refine go ?_
  refine x_l1 (fun _ => False) [1, 2, 4, 52, 53] (fun (k : Nat) => [(54, .int .i64 (k : Int))]) (fun k w => (k ≤ l.length) ∧ (∀ j, j < k → ¬ r.ww < winP r l (nth l j).e)) (fun k => l.length - k) 0 ⟨(Nat.zero_le _), (fun j hj => absurd hj (Nat.not_lt_zero _))⟩ ?_
  rintro k w118 ⟨hk, hnw⟩ u119 zu119 K117 hK117
  have E120 := Sc.mk (E102.u.nx u119)
  refine go ?_
  refine q_p (fun g55 => ?_) fun g55 => ?_
  ·
   have hokk := hok _ (nth_mem (xs := l) (i := k) (by omega))
   have hokk2 := hokk
   unfold OkSp at hokk2
   refine go ?_
   refine g_i k (hl.keep E120.u (fun _ h => h)) (fun _ => ?_)
   refine go ?_
   refine x_n fun bk126 w127 ebk126 sbk126 B128 u129 => ?_
   refine x_s fun w131 sw131 B133 u132 => ?_
   refine go ?_
   refine x_l1 (fun _ => False) [1, 2, 4, 11, 52, 53, 54, 58, 59] (fun (m : Nat) => [(12, .int .i64 (sumI2 ((l.take m).map fun s => inW s ((nth l k).e - r.week) (nth l k).e))), (60, .int .i64 (m : Int))]) (fun m w => (m ≤ l.length)) (fun m => l.length - m) 0 (Nat.zero_le _) ?_
   rintro m w139 hm u140 zu140 K138 hK138
   have E141 := Sc.mk (((E120.u.nx u129).next u132 (fun i hi h => by omega)).nx u140)
   have hsw := sumI2_rng (B := 20160) (l := (l.take m).map fun s => inW s ((nth l k).e - r.week) (nth l k).e) (fun x hx => by obtain ⟨s, hs, rfl⟩ := List.mem_map.1 hx; exact inW_rng (hok _ (List.mem_of_mem_take hs)))
   rw [List.length_map, List.length_take] at hsw
   refine go ?_
   refine q_p (fun g61 => ?_) fun g61 => ?_
   ·
    have hiw := inW_rng (s := nth l m) (a := (nth l k).e - r.week) (b := (nth l k).e) (hok _ (nth_mem (by omega)))
    refine go ?_
    refine g_i m (hl.keep E141.u (fun _ h => h)) (fun _ => ?_)
    refine go ?_
    refine x_n fun bk147 w148 ebk147 sbk147 B149 u150 => ?_
    refine x_s fun w152 sw152 B154 u153 => ?_
    refine go ?_
    have k156 := ((((((B4.kx u10).kx u17).kx u49).keep u52 (by omega)).kx u59).keep hu1 (by omega))
    refine go ?_
    refine x_c func36 rfl rfl (in_c (nth l m) (((nth l k).e) - r.week) ((nth l k).e) _ (hok _ (nth_mem (by omega))) (by omega) (by omega)) ?_
    rintro _ w158 ⟨rfl, u159⟩ zu159
    refine go ?_
    exact hK138 (m + 1) (by omega) (hs := by exact ⟨(congrArg (fun z => some (Value.int .i64 z)) (by rw [take_nth (by omega), List.map_append]; exact (sumI2_snoc _ _).symm)), rfl, rfl, rfl, rfl, rfl, rfl, rfl, rfl, rfl, rfl, trivial⟩)
   have hml : m = l.length := by omega
   refine c_same 12 (v := .int .i64 (winP r l (nth l k).e)) rfl (by rw [hml, List.take_length]; rfl) ?_
   refine go ?_
   have k163 := ((((((B4.kx u10).kx u17).kx u49).keep u52 (by omega)).kx u59).keep hu1 (by omega))
   refine go ?_
   refine q_p (fun g81 => ?_) fun g81 => ?_
   ·
    refine go ?_
    have B165 := ((((hc4.kx u119).kx u129).keep u132 (by omega)).kx u140)
    refine x_s fun w166 sw166 B168 u167 => ?_
    refine go ?_
    have D172 := (((((mk103.keep u119 (CellsIn.none _)).keep u129 (CellsIn.none _)).keep u132 (B128).cellsIn).keep u140 (CellsIn.none _)).keep u167 (B165).cellsIn)
    have hmkE := D172
    refine f_retMc1 (v := .int .i64 4) results17 (.cell D172 rfl isAgg3 B168 rfl) D172 (fun w170 u171 omw170 => ?_)
    have zu171 := u171.size
    have hres : 4 = brokP r l := by
      unfold brokP
      symm; rw [if_neg (by rw [hov]; decide), if_neg (by rw [hcn]; decide), if_neg (fun h9 => g50 (by rw [if_pos h9]; decide)), if_pos (List.any_eq_true.2 ⟨nth l k, nth_mem (by omega), by simpa using g81⟩)]
    exact ⟨congrArg (Value.int .i64) hres, ((E141.u.next u167 (fun i hi h => by omega)).next u171 (fun i hi (h : w0.heap.size ≤ i) => show False by first | omega | assumption))⟩
   refine go ?_
   exact hK117 (k + 1) ⟨(by omega), (fun j hj => by
     rcases Nat.lt_or_ge j k with h | h
     · exact hnw j h
     · rw [show j = k by omega]; exact g81)⟩
  refine go ?_
  have B175 := (hc4.kx u119)
  refine x_s fun w176 sw176 B178 u177 => ?_
  refine go ?_
  have D182 := ((mk103.keep u119 (CellsIn.none _)).keep u177 (B175).cellsIn)
  have hmkE := D182
  refine f_retMc1 (v := .int .i64 0) results17 (.cell D182 rfl isAgg3 B178 rfl) D182 (fun w180 u181 omw180 => ?_)
  have zu181 := u181.size
  have hres : 0 = brokP r l := by
    unfold brokP
    symm; rw [if_neg (by rw [hov]; decide), if_neg (by rw [hcn]; decide), if_neg (fun h9 => g50 (by rw [if_pos h9]; decide)), if_neg (fun h9 => by obtain ⟨s, hs, h9⟩ := List.any_eq_true.1 h9; obtain ⟨j, hj, rfl⟩ := List.mem_iff_getElem.1 hs; have h8 := hnw j (by omega); rw [nth_eq hj] at h8; exact h8 (by simpa using h9))]
  exact ⟨congrArg (Value.int .i64) hres, ((E120.u.next u177 (fun i hi h => by omega)).next u181 (fun i hi (h : w0.heap.size ≤ i) => show False by first | omega | assumption))⟩
theorem keeps_c (r : Rul) (l : List Sp) (al : Option Addr) (bl ol cl : Nat) (w0 : World) (hl : Sl encSp 2 w0 al bl ol l) (hll : l.length ≤ 100000) (hok : ∀ x ∈ l, OkSp x) (hr : okRul r = true) :
    CallsV Tryz.prog 12 [.agg #[.int .i64 r.rest, .int .i64 r.span, .int .i64 r.work, .int .i64 r.week, .int .i64 r.ww], .slice al l.length cl] w0 (fun v w' => v = .bool (decide (brokP r l = 0)) ∧ Ext w0 w') := by
 refine f_n func12 ?_
 refine go ?_
 refine x_b fun bk2 w3 ebk2 sbk2 B4 u5 => ?_
 refine go ?_
 refine x_c func17 rfl rfl (broken_c r l al bl ol cl _ (hl.keep ((Upd.refl (fun _ => False) w0).nx u5) (fun _ h => h)) hll hok hr) ?_
 rintro _ w9 ⟨rfl, u10⟩ zu10
 refine go ?_
 refine f_1 results12 ?_
 exact ⟨rfl, u_d⟩

end Go.Proofs.YtbcedieodibehaaGreat
namespace Go.Proofs.YtbcedieodibehaaGreat
open Go Go.RowKit Go.Proofs.Tryz
set_option maxRecDepth 10000

theorem chk_ok {r : Rul} {l : List Dty} (h : chkRD r l = 0) : okRul r = true ∧ l.length ≤ 20 ∧ ∀ d ∈ l, okDty d = true := by
  unfold chkRD chkR chkD at h
  by_cases h1 : okRul r = true
  · rw [if_pos h1, if_neg (by decide)] at h
    by_cases h2 : 20 < l.length
    · rw [if_pos h2] at h; cases h
    · rw [if_neg h2] at h
      by_cases h3 : (l.any fun d => !okDty d) = true
      · rw [if_pos h3] at h; cases h
      · refine ⟨h1, by omega, fun d hd => ?_⟩
        cases hq : okDty d with
        | true => rfl
        | false => exact absurd (List.any_eq_true.2 ⟨d, hd, by simp [hq]⟩) h3
  · rw [if_neg h1, if_pos (by decide)] at h; cases h
theorem shts_ok {l : List Dty} (h : ∀ d ∈ l, okDty d = true) : ∀ x ∈ srtS (l.map shtS), OkSp x := srt_ok fun x hx => by
  obtain ⟨d, hd, rfl⟩ := List.mem_map.1 hx; exact sht_ok (h d hd)
/-- The rule that the longest times of the first duties break. -/
def brkK (r : Rul) (l : List Dty) (k : Nat) : Int := brokP r (srtS ((l.take k).map lngS))
/-- What Rested returns, where all is valid. -/
def RestR (r : Rul) (l : List Dty) (at_ rule : Int) : Prop :=
  (at_ = -1 ∧ rule = 0 ∧ ∀ k, k < l.length → brkK r l (k + 1) = 0) ∨ ∃ k : Nat, k < l.length ∧ at_ = k ∧ rule = brkK r l (k + 1) ∧ rule ≠ 0 ∧ ∀ j, j < k → brkK r l (j + 1) = 0
def RestA (r : Rul) (l : List Dty) (at_ rule : Int) (pos : Bool) (e : Int) : Prop :=
  (chkRD r l ≠ 0 ∧ e = chkRD r l ∧ at_ = 0 ∧ rule = 0 ∧ pos = false) ∨ (chkRD r l = 0 ∧ e = 0 ∧ RestR r l at_ rule ∧ pos = decide (brokP r (srtS (l.map shtS)) = 0))
theorem with_c (l : List Sp) (al : Option Addr) (bl ol cl : Nat) (s : Sp) (w0 : World) (hl : Sl encSp 2 w0 al bl ol l) (hll : l.length ≤ 100000) (hs : Srt l) (hpos : 0 < w0.heap.size) :
    CallsV Tryz.prog 15 [.slice al l.length cl, .agg #[.int .i64 s.b, .int .i64 s.e]] w0 (fun v w' => (∃ ao g cp, v = .slice ao (List.length (insS s l)) cp ∧ Acc encSp 2 63 w0.heap.size w' ao g cp (insS s l)) ∧ Ext w0 w') := by
 refine f_n func15 ?_
 refine go ?_
 refine x_b fun bk2 w3 ebk2 sbk2 B4 u5 => ?_
 have E6 := Sc.mk ((Upd.refl (fun _ => False) w0).nx u5)
 refine go ?_
 refine x_c func32 rfl rfl (search_c l al bl ol cl s _ (hl.keep E6.u (fun _ h => h)) hll hs) ?_
 rintro _ w9 ⟨⟨kS, bS, rfl, hkS, hkl, hkr⟩, u10⟩ zu10
 refine go ?_
 refine c_drawnM follows (fun _ => False) (.look 0 (.look 2 (.look 3 (.act 1 (.act 4 (.act 5 (.look 6 .done) .stop) .stop) (.act 4 (.act 1 (.act 5 (.look 6 .done) .stop) .stop) .stop))))) (by kernel_rfl) fun w14 u15 => ?_
 have zu15 := u15.size
 have E16 := Sc.mk ((E6.u.nx u10).nx u15)
 refine go ?_
 refine s_or ?_ ?_
 ·
  refine go ?_
  refine x_c func34 rfl rfl (clone_c l al bl ol cl _ (hl.keep E16.u (fun _ h => h)) hll (by omega)) ?_
  rintro _ w19 ⟨⟨aoC17, gC17, cC17, rfl, hacC17⟩, u20⟩ zu20
  have lt_gC17 := hacC17.lt
  refine go ?_
  refine x_l fun bk23 w24 ebk23 sbk23 B25 u26 => ?_
  refine go ?_
  have D28 := (hacC17.keep u26 (fun _ h => h))
  refine x_c func33 rfl rfl (insert_c l aoC17 gC17 cC17 w14.heap.size kS bk23 s _ D28 hkS hll (by omega) B25 (fun h => by omega)) ?_
  rintro _ w30 ⟨⟨aoI, gI, cI, rfl, hacI⟩, u31⟩ zu31
  rw [← ins_at hkS hkl hkr] at hacI
  have lt_gI := hacI.lt
  refine t_same 18 (v := .slice aoI ((insS s l).length) cI) rfl (by rw [ins_at hkS hkl hkr]) ?_
  refine go ?_
  refine f_1 results15 ?_
  obtain ⟨g9, ha9⟩ := Acc.lower (base' := w0.heap.size) hacI (by omega) hpos
  exact ⟨⟨aoI, g9, cI, rfl, ha9⟩, u_d⟩
 refine go ?_
 refine x_l fun bk34 w35 ebk34 sbk34 B36 u37 => ?_
 refine go ?_
 refine x_c func34 rfl rfl (clone_c l al bl ol cl _ (hl.keep (E16.u.nx u37) (fun _ h => h)) hll (by omega)) ?_
 rintro _ w41 ⟨⟨aoC39, gC39, cC39, rfl, hacC39⟩, u42⟩ zu42
 have lt_gC39 := hacC39.lt
 refine go ?_
 have B45 := (B36.kx u42)
 refine x_c func33 rfl rfl (insert_c l aoC39 gC39 cC39 w35.heap.size kS bk34 s _ hacC39 hkS hll (by omega) B45 (fun h => by omega)) ?_
 rintro _ w47 ⟨⟨aoI, gI, cI, rfl, hacI⟩, u48⟩ zu48
 rw [← ins_at hkS hkl hkr] at hacI
 have lt_gI := hacI.lt
 refine t_same 18 (v := .slice aoI ((insS s l).length) cI) rfl (by rw [ins_at hkS hkl hkr]) ?_
 refine go ?_
 refine f_1 results15 ?_
 obtain ⟨g9, ha9⟩ := Acc.lower (base' := w0.heap.size) hacI (by omega) hpos
 exact ⟨⟨aoI, g9, cI, rfl, ha9⟩, u_d⟩
set_option maxHeartbeats 4000000 in
theorem Rested_c (r : Rul) (l : List Dty) (al : Option Addr) (bl ol cl : Nat) (w0 : World) (hl : Sl encDty 4 w0 al bl ol l) (hll : l.length ≤ 1000000) (hpos : 0 < w0.heap.size) :
    CallsV Tryz.prog 4 [.agg #[.int .i64 r.rest, .int .i64 r.span, .int .i64 r.work, .int .i64 r.week, .int .i64 r.ww], .slice al l.length cl] w0 (fun v w' => (∃ at_ rule pos e, v = .tuple #[.int .i64 at_, .int .i64 rule, .bool pos, .int .i64 e] ∧ RestA r l at_ rule pos e) ∧ Ext w0 w') := by
 refine f_n func4 ?_
 refine go ?_
 refine x_b fun bk2 w3 ebk2 sbk2 B4 u5 => ?_
 have E6 := Sc.mk ((Upd.refl (fun _ => False) w0).nx u5)
 refine go ?_
 refine x_c func11 rfl rfl (check_c r l al bl ol cl _ (hl.keep E6.u (fun _ h => h)) hll) ?_
 rintro _ w10 ⟨rfl, u11⟩ zu11
 refine go ?_
 refine q_p (fun g17 => ?_) fun g17 => ?_
 ·
  refine go ?_
  refine f_ret4 (v1 := .int .i64 0) (v2 := .int .i64 0) (v3 := .bool false) (v4 := .int .i64 (chkRD r l)) results4 rfl rfl rfl rfl ?_
  exact ⟨⟨0, 0, false, _, rfl, .inl ⟨g17, rfl, rfl, rfl, rfl⟩⟩, u_d⟩
 have hc0 : chkRD r l = 0 := Decidable.not_not.1 g17
 obtain ⟨hr, hl20, hod⟩ := chk_ok hc0
 refine go ?_
 refine x_n fun bk17 w18 ebk17 sbk17 B19 u20 => ?_
 refine x_s fun w22 sw22 B24 u23 => ?_
 refine go ?_
 refine c_drawnM follows (fun _ => False) (OTl [0, 2, 5, 7, 8]) (by kernel_rfl) fun w27 u28 => ?_
 have zu28 := u28.size
 have E29 := Sc.mk ((((E6.u.nx u11).nx u20).next u23 (fun i hi h => by omega)).nx u28)
 refine go ?_
 refine x_c func13 rfl rfl (rosterS_c l al bl ol cl _ (hl.keep E29.u (fun _ h => h)) (by omega) (by omega)) ?_
 rintro _ w32 ⟨⟨aoR30, gR30, cR30, rfl, haR30⟩, u33⟩ zu33
 have lt_gR30 := haR30.lt
 have hlR30 : (srtS (l.map shtS)).length = l.length := by rw [srt_len, List.length_map]
 refine go ?_
 refine x_c func12 rfl rfl (keeps_c r (srtS (l.map shtS)) aoR30 gR30 0 cR30 _ (haR30.sl (fun _ => rfl)) (by rw [srt_len, List.length_map]; omega) (shts_ok hod) hr) ?_
 rintro _ w37 ⟨rfl, u38⟩ zu38
 refine go ?_
 refine x_l5 (fun _ => False) [9, 25, 26] (fun (k : Nat) (ao : Option Addr) (gt : Nat) (ct : Nat) (ts : List Sp) => [(6, .bool (decide (brokP r (srtS (l.map shtS)) = 0))), (10, .slice ao ts.length ct), (27, .int .i64 (k : Int))]) (fun k ao gt ct ts w => (k ≤ l.length) ∧ (Sl encSp 2 w ao gt 0 ts) ∧ (ts = (srtS ((l.take k).map lngS))) ∧ (∀ j, j < k → brkK r l (j + 1) = 0)) (fun k ao gt ct ts => l.length - k) 0 none 0 0 ([]) ⟨(Nat.zero_le _), (Sl.nil _ _ _ _ _ _), rfl, (fun j hj => absurd hj (Nat.not_lt_zero _))⟩ ?_
 rintro k ao gt ct ts w45 ⟨hk, hts, hte, hno⟩ u46 zu46 K44 hK44
 have htl : ts.length = k := by rw [hte, srt_len, List.length_map, List.length_take]; omega
 have hos : Srt ts := by rw [hte]; exact srt_srt _
 have hok1 : ∀ x ∈ ts, OkSp x := by rw [hte]; exact srt_ok fun x hx => by obtain ⟨d, hd, rfl⟩ := List.mem_map.1 hx; exact lng_ok (hod d (List.mem_of_mem_take hd))
 refine go ?_
 refine q_p (fun g28 => ?_) fun g28 => ?_
 ·
  have hw1 : insS (lngS (nth l k)) ts = (srtS ((l.take (k + 1)).map lngS)) := by rw [hte, ins_srtS, take_nth (by omega), List.map_append]; rfl
  have hb1 : brokP r (insS (lngS (nth l k)) ts) = brkK r l (k + 1) := by unfold brkK; rw [hw1]
  have hokw : ∀ x ∈ insS (lngS (nth l k)) ts, OkSp x := ins_ok (lng_ok (hod _ (nth_mem (by omega)))) hok1
  refine go ?_
  refine g_i k (hl.keep (((E29.u.nx u33).nx u38).nx u46) (fun _ h => h)) (fun _ => ?_)
  refine go ?_
  refine x_n fun bk53 w54 ebk53 sbk53 B55 u56 => ?_
  refine go ?_
  refine x_s fun w58 sw58 B60 u59 => ?_
  refine go ?_
  refine x_c func16 rfl rfl (longest_c (nth l k) _) ?_
  rintro _ w64 ⟨rfl, u65⟩ zu65
  have D68 := (((hts.keep u56 (fun _ h => h)).keep u59 (fun hp => by have h9 := hts.lt hp; show ¬ (gt = bk53); omega)).keep u65 (fun _ h => h))
  refine x_c func15 rfl rfl (with_c ts ao gt 0 ct (lngS (nth l k)) _ D68 (by rw [htl]; omega) hos (by omega)) ?_
  rintro _ w71 ⟨⟨aoW69, gW69, cW69, rfl, haW69⟩, u72⟩ zu72
  have lt_gW69 := haW69.lt
  refine go ?_
  refine x_c func17 rfl rfl (broken_c r (insS (lngS (nth l k)) ts) aoW69 gW69 0 cW69 _ (haW69.sl (fun _ => rfl)) (by rw [ins_len]; omega) hokw hr) ?_
  rintro _ w77 ⟨rfl, u78⟩ zu78
  refine go ?_
  refine q_p (fun g40 => ?_) fun g40 => ?_
  ·
   refine go ?_
   refine f_ret4 (v1 := .int .i64 (k : Int)) (v2 := .int .i64 (brokP r (insS (lngS (nth l k)) ts))) (v3 := .bool (decide (brokP r (srtS (l.map shtS)) = 0))) (v4 := .int .i64 0) results4 rfl rfl rfl rfl ?_
   exact ⟨⟨_, _, _, _, rfl, .inr ⟨hc0, rfl, .inr ⟨k, by omega, rfl, hb1, g40, hno⟩, rfl⟩⟩, u_d⟩
  refine go ?_
  have D83 := (haW69.keep u78 (fun _ h => h))
  exact hK44 (k + 1) aoW69 gW69 cW69 (insS (lngS (nth l k)) ts) ⟨(by omega), (D83.sl (fun _ => rfl)), hw1, (fun j hj => by
    rcases Nat.lt_or_ge j k with h | h
    · exact hno j h
    · rw [show j = k by omega]; exact hb1.symm.trans (Decidable.not_not.1 g40))⟩
 refine go ?_
 refine f_ret4 (v1 := .int .i64 (-1)) (v2 := .int .i64 0) (v3 := .bool (decide (brokP r (srtS (l.map shtS)) = 0))) (v4 := .int .i64 0) results4 rfl rfl rfl rfl ?_
 exact ⟨⟨_, _, _, _, rfl, .inr ⟨hc0, rfl, .inl ⟨rfl, rfl, fun j hj => hno j (by omega)⟩, rfl⟩⟩, u_d⟩

end Go.Proofs.YtbcedieodibehaaGreat
