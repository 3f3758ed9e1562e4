/-
  Crews: keeping the rules, minute by minute. Conditions: none.
-/
import Derived.Test.YtagmodjadmecdaaGreatA16
namespace Go.Proofs.YtagmodjadmecdaaGreat
open Go Go.RowKit

/-- Two times, in any order, do not overlap. -/
def Apart (x y : Sp) : Prop := (¬ LtS y x → x.e ≤ y.b) ∧ (¬ LtS x y → y.e ≤ x.b)
theorem Apart.symm {x y : Sp} (h : Apart x y) : Apart y x := ⟨h.2, h.1⟩
theorem lin_apart {l : List Sp} (hs : Srt l) : Lin l ↔ l.Pairwise Apart := by
  induction l with
  | nil => simp [Lin]
  | cons s l ih =>
    unfold Lin at ih ⊢
    rw [List.pairwise_cons, List.pairwise_cons, ih (List.Pairwise.of_cons hs)]
    have h1 : ∀ y ∈ l, ¬ LtS y s := fun y hy => List.rel_of_pairwise_cons hs hy
    constructor
    · rintro ⟨h2, h3⟩
      refine ⟨fun y hy => ?_, h3⟩
      have := h1 y hy; have := h2 y hy
      unfold Apart LtS at *; omega
    · rintro ⟨h2, h3⟩
      exact ⟨fun y hy => (h2 y hy).1 (h1 y hy), h3⟩
theorem lin_srtS (l : List Sp) : Lin (srtS l) ↔ l.Pairwise Apart := by
  rw [lin_apart (srt_srt l)]
  exact List.Perm.pairwise_iff (fun h => Apart.symm h) (srt_perm l)
/-- What the statement calls an overlap: the time i begins before the end of one that comes before it. -/
def Bad (l : List Sp) (i k : Nat) : Prop := k ≠ i ∧ ((nth l k).b < (nth l i).b ∨ ((nth l k).b = (nth l i).b ∧ ((nth l k).e < (nth l i).e ∨ ((nth l k).e = (nth l i).e ∧ k < i)))) ∧ (nth l i).b < (nth l k).e
theorem apart_bad {l : List Sp} : l.Pairwise Apart ↔ ∀ i k, i < l.length → k < l.length → ¬ Bad l i k := by
  rw [List.pairwise_iff_getElem]
  constructor
  · intro h i k hi hk hb
    unfold Bad at hb
    rcases Nat.lt_trichotomy i k with q | q | q
    · have := h i k hi hk q
      rw [← nth_eq, ← nth_eq] at this
      unfold Apart LtS at this; omega
    · omega
    · have := h k i hk hi q
      rw [← nth_eq, ← nth_eq] at this
      unfold Apart LtS at this; omega
  · intro h i k hi hk q
    have h1 := h i k hi hk; have h2 := h k i hk hi
    rw [← nth_eq, ← nth_eq]
    unfold Bad at h1 h2; unfold Apart LtS; omega
/-- How far a shift that has begun goes: its end, its work, and the times behind it. -/
def exG (r : Rul) (e w : Int) : List Sp → Int × Int × List Sp
  | [] => (e, w, [])
  | s :: l => if s.b < e + r.rest then exG r (max e s.e) (w + (s.e - s.b)) l else (e, w, s :: l)
theorem shGo_ex (r : Rul) (b : Int) : ∀ (l : List Sp) (e w : Int), shGo r ⟨b, e, w⟩ l = ⟨b, (exG r e w l).1, (exG r e w l).2.1⟩ :: shiftsP r (exG r e w l).2.2
  | [], e, w => rfl
  | s :: l, e, w => by
    rw [shGo, exG]
    by_cases h : s.b < e + r.rest
    · rw [if_pos h, if_pos h]; exact shGo_ex r b l _ _
    · rw [if_neg h, if_neg h]; rfl
def wrk (l : List Sp) : Int := sumI2 (l.map fun s => s.e - s.b)
/-- The times of a shift that has begun. -/
theorem ex_split (r : Rul) (hr : 0 ≤ r.rest) : ∀ (l : List Sp) (e w : Int), l.Pairwise (fun a b => a.b ≤ b.b) → ∃ c, l = c ++ (exG r e w l).2.2 ∧ e ≤ (exG r e w l).1 ∧ (∀ s ∈ c, s.e ≤ (exG r e w l).1) ∧ (∀ s ∈ (exG r e w l).2.2, (exG r e w l).1 + r.rest ≤ s.b) ∧ (exG r e w l).2.1 = w + wrk c ∧
      ∀ M, e ≤ M → (∀ s ∈ c, s.b < M + r.rest → s.e ≤ M) → (exG r e w l).1 ≤ M
  | [], e, w, _ => ⟨[], rfl, Int.le_refl _, by simp, by simp [exG], by simp [exG, wrk, sumI2], fun M h _ => h⟩
  | s :: l, e, w, hp => by
    rw [exG]
    by_cases h : s.b < e + r.rest
    · rw [if_pos h]
      obtain ⟨c, h1, h2, h3, h4, h5, h6⟩ := ex_split r hr l (max e s.e) (w + (s.e - s.b)) (List.Pairwise.of_cons hp)
      refine ⟨s :: c, by rw [List.cons_append, ← h1], by omega, fun x hx => ?_, h4, ?_, fun M hM hc => ?_⟩
      · rcases List.mem_cons.1 hx with e1 | hx
        · subst e1; omega
        · exact h3 x hx
      · rw [h5]; show _ = w + ((s.e - s.b) + wrk c); omega
      · have := hc s (by simp) (by omega)
        exact h6 M (by omega) fun x hx => hc x (by simp [hx])
    · rw [if_neg h]
      refine ⟨[], rfl, Int.le_refl _, by simp, fun x hx => ?_, by simp [wrk, sumI2], fun M hM _ => hM⟩
      rcases List.mem_cons.1 hx with e1 | hx
      · subst e1; omega
      · have : s.b ≤ x.b := List.rel_of_pairwise_cons hp hx
        omega
/-- A shift's times among all times. -/
def Piece (r : Rul) (q : List Sp) (y : Shf) (a c d : List Sp) : Prop := q = a ++ c ++ d ∧ (∃ s0 c', c = s0 :: c' ∧ y.b = s0.b ∧ s0.e ≤ y.e ∧ ∀ M, s0.e ≤ M → (∀ s ∈ c, s.b < M + r.rest → s.e ≤ M) → y.e ≤ M) ∧ (∀ s ∈ a, s.e ≤ y.b) ∧ (∀ s ∈ d, y.e + r.rest ≤ s.b) ∧ (∀ s ∈ c, y.b ≤ s.b ∧ s.e ≤ y.e) ∧ y.w = wrk c
theorem pieces (r : Rul) (hr : 0 ≤ r.rest) : ∀ (n : Nat) (a l : List Sp), l.length ≤ n → Lin (a ++ l) → (∀ x ∈ a ++ l, OkSp x) →
    (∀ y ∈ shiftsP r l, ∃ a' c d, Piece r (a ++ l) y a' c d) ∧ ∀ s ∈ l, ∃ y ∈ shiftsP r l, ∃ a' c d, Piece r (a ++ l) y a' c d ∧ s ∈ c
  | _, a, [], _, _, _ => ⟨by simp [shiftsP], by simp⟩
  | 0, a, s :: l, hn, _, _ => absurd hn (by simp)
  | n + 1, a, s :: l, hn, hl, ho => by
    have hl2 : Lin (s :: l) := (List.pairwise_append.1 hl).2.1
    have hbg := lin_begins hl2 fun x hx => ho x (by simp at hx ⊢; exact .inr hx)
    obtain ⟨c, h1, h2, h3, h4, h5, h6⟩ := ex_split r hr l s.e (s.e - s.b) (List.Pairwise.of_cons hbg)
    have e : shiftsP r (s :: l) = ⟨s.b, (exG r s.e (s.e - s.b) l).1, (exG r s.e (s.e - s.b) l).2.1⟩ :: shiftsP r (exG r s.e (s.e - s.b) l).2.2 := shGo_ex r s.b l s.e (s.e - s.b)
    generalize hx : exG r s.e (s.e - s.b) l = X at *
    obtain ⟨E, W, d⟩ := X
    simp only [] at *
    have hq : a ++ s :: l = a ++ (s :: c) ++ d := by rw [h1]; simp
    have hp1 : Piece r (a ++ s :: l) ⟨s.b, E, W⟩ a (s :: c) d := by
      refine ⟨hq, ⟨s, c, rfl, rfl, h2, fun M hM hc => h6 M hM fun x hx => hc x (by simp [hx])⟩, fun x hx => (List.pairwise_append.1 hl).2.2 x hx s (by simp), h4, fun x hx => ?_, ?_⟩
      · rcases List.mem_cons.1 hx with e1 | hx
        · subst e1; exact ⟨Int.le_refl _, h2⟩
        · exact ⟨List.rel_of_pairwise_cons hbg (by rw [h1]; simp [hx]), h3 x hx⟩
      · show W = (s.e - s.b) + wrk c; exact h5
    have hd : d.length ≤ n := by
      have := congrArg List.length h1
      simp at this hn; omega
    obtain ⟨i1, i2⟩ := pieces r hr n (a ++ (s :: c)) d hd (by rw [← hq]; exact hl) (by rw [← hq]; exact ho)
    rw [← hq] at i1 i2
    rw [e]
    constructor
    · intro y hy
      rcases List.mem_cons.1 hy with e1 | hy
      · subst e1; exact ⟨_, _, _, hp1⟩
      · exact i1 y hy
    · intro x hx
      have hx2 : x ∈ (s :: c) ++ d := by
        rw [h1] at hx; simpa using hx
      rcases List.mem_append.1 hx2 with hx2 | hx2
      · exact ⟨_, List.mem_cons_self, _, _, _, hp1, hx2⟩
      · obtain ⟨y, hy, r2⟩ := i2 x hx2
        exact ⟨y, List.mem_cons_of_mem _ hy, r2⟩
theorem sumW_app (a b : List Sp) (x y : Int) : sumW (a ++ b) x y = sumW a x y + sumW b x y := by unfold sumW; rw [List.map_append, sumI2_app]
theorem sumW_full {c : List Sp} {x y : Int} (h : ∀ s ∈ c, x ≤ s.b ∧ s.e ≤ y ∧ s.b ≤ s.e) : sumW c x y = wrk c := by
  induction c with
  | nil => rfl
  | cons s c ih =>
    rw [sumW_cons, ih fun z hz => h z (by simp [hz])]
    have := h s (by simp)
    show inW s x y + wrk c = (s.e - s.b) + wrk c
    unfold inW; omega
theorem Piece.work {r : Rul} {q : List Sp} {y : Shf} {a c d : List Sp} (hr : 0 ≤ r.rest) (h : Piece r q y a c d) (ho : ∀ x ∈ q, OkSp x) : sumW q y.b y.e = y.w := by
  obtain ⟨h1, _, h2, h3, h4, h5⟩ := h
  rw [h1, sumW_app, sumW_app, sumW_zero (l := a), sumW_zero (l := d), sumW_full (c := c), h5]
  · omega
  · intro s hs; have := h4 s hs; have := ho s (by rw [h1]; simp [hs]); unfold OkSp at this; omega
  · intro s hs; have := h3 s hs; unfold inW; omega
  · intro s hs; have := h2 s hs; unfold inW; omega
/-- A minute to which a shift that begins at another one can't be made longer. -/
def ClsTo (r : Rul) (l : List Sp) (first M : Int) : Prop := ∀ x ∈ l, first ≤ x.b → x.b < M + r.rest → x.e ≤ M
/-- The end of a shift that begins with a time. -/
def EndOf (r : Rul) (l : List Sp) (s : Sp) (E : Int) : Prop := s.e ≤ E ∧ ClsTo r l s.b E ∧ ∀ M, s.e ≤ M → ClsTo r l s.b M → E ≤ M
theorem Piece.closed {r : Rul} {q : List Sp} {y : Shf} {a c d : List Sp} (hr : 0 ≤ r.rest) (h : Piece r q y a c d) (ho : ∀ x ∈ q, OkSp x) {f : Int} (hf : y.b ≤ f) : ClsTo r q f y.e := by
  obtain ⟨h1, ⟨s0, c', h6, h7, h8, _⟩, h2, h3, h4, h5⟩ := h
  intro x hx h9 h10
  rw [h1] at hx
  rcases List.mem_append.1 hx with hx | hx
  · rcases List.mem_append.1 hx with hx | hx
    · have := h2 x hx; have := ho s0 (by rw [h1, h6]; simp); unfold OkSp at this; omega
    · exact (h4 x hx).2
  · have := h3 x hx; omega
/-- The shifts are short enough just if the one that begins with each time is. -/
theorem shifts_ends {r : Rul} (hr : 0 ≤ r.rest) {q : List Sp} (hl : Lin q) (ho : ∀ x ∈ q, OkSp x) {en : Sp → Int} (hen : ∀ s ∈ q, EndOf r q s (en s)) :
    (∀ y ∈ shiftsP r q, ShOk r y) ↔ ∀ s ∈ q, en s - s.b ≤ r.span ∧ sumW q s.b (en s) ≤ r.work := by
  have hp := pieces r hr q.length [] q (Nat.le_refl _) (by simpa using hl) (by simpa using ho)
  simp only [List.nil_append] at hp
  constructor
  · intro h s hs
    obtain ⟨y, hy, a, c, d, hP, hc⟩ := hp.2 s hs
    have h1 := h y hy
    have h2 := hP.2.2.2.2.1 s hc
    have h3 : en s ≤ y.e := (hen s hs).2.2 _ h2.2 (hP.closed hr ho h2.1)
    have h4 := hP.work hr ho
    have h5 : sumW q s.b (en s) ≤ sumW q y.b y.e := by
      have h6 := (hen s hs).1
      have h7 := ho s hs; unfold OkSp at h7
      have a1 := sumW_add ho (a := y.b) (b := s.b) (c := y.e) h2.1 (by omega)
      have a2 := sumW_add ho (a := s.b) (b := en s) (c := y.e) (by omega) h3
      have a3 := sumW_nn q y.b s.b; have a4 := sumW_nn q (en s) y.e
      omega
    unfold ShOk at h1; omega
  · intro h y hy
    obtain ⟨a, c, d, hP⟩ := hp.1 y hy
    have h4 := hP.work hr ho
    have hcl := hP
    obtain ⟨h1, ⟨s0, c', h6, h7, h8, h9⟩, h2, h3, h10, h5⟩ := hP
    have hs0 : s0 ∈ q := by rw [h1, h6]; simp
    obtain ⟨e1, e2, e3⟩ := hen s0 hs0
    have h11 := h s0 hs0
    have h12 : y.e ≤ en s0 := h9 _ e1 fun x hx hb => e2 x (by rw [h1]; simp [hx]) (by have := (h10 x hx).1; omega) hb
    have h13 : en s0 ≤ y.e := e3 _ h8 (hcl.closed hr ho (by omega))
    have h14 : en s0 = y.e := by omega
    rw [h14, ← h7] at h11
    unfold ShOk; omega
theorem ClsTo.perm {r : Rul} {a b : List Sp} (h : a.Perm b) {f M : Int} : ClsTo r a f M ↔ ClsTo r b f M := ⟨fun k x hx => k x (h.mem_iff.2 hx), fun k x hx => k x (h.mem_iff.1 hx)⟩
theorem EndOf.perm {r : Rul} {a b : List Sp} (h : a.Perm b) {s : Sp} {E : Int} (k : EndOf r a s E) : EndOf r b s E := ⟨k.1, (ClsTo.perm h).1 k.2.1, fun M h1 h2 => k.2.2 M h1 ((ClsTo.perm h).2 h2)⟩
theorem sumI2_perm {a b : List Int} (h : a.Perm b) : sumI2 a = sumI2 b := by
  induction h with
  | nil => rfl
  | cons x _ ih => show x + _ = x + _; rw [ih]
  | swap x y l => show y + (x + sumI2 l) = x + (y + sumI2 l); omega
  | trans _ _ h1 h2 => exact h1.trans h2
theorem sumW_perm {a b : List Sp} (h : a.Perm b) (x y : Int) : sumW a x y = sumW b x y := sumI2_perm (h.map _)
/-- Some time has this minute. -/
def Cov (l : List Sp) (t : Int) : Prop := ∃ s ∈ l, s.b ≤ t ∧ t < s.e
theorem cov_one {l : List Sp} (h : Lin l) (hl : ∀ x ∈ l, OkSp x) {t : Int} (hc : Cov l t) : sumW l t (t + 1) = 1 := by
  obtain ⟨s, hs, h1, h2⟩ := hc
  have a1 := sumW_le' h hl (a := t) (b := t + 1) (by omega)
  have a2 := sumW_mem hs t (t + 1)
  have a3 : inW s t (t + 1) = 1 := by unfold inW; omega
  omega
theorem cov_zero {l : List Sp} {t : Int} (hc : ¬ Cov l t) : sumW l t (t + 1) = 0 := sumW_zero fun s hs => by
  have : ¬ (s.b ≤ t ∧ t < s.e) := fun h => hc ⟨s, hs, h⟩
  unfold inW; omega
theorem srt_apart {l : List Sp} (h : ∀ i k, i < l.length → k < l.length → ¬ Bad l i k) : Lin (srtS l) := (lin_srtS l).2 (apart_bad.2 h)
/-- What keeps returns, of what its loops have shown. -/
theorem keeps_yes {r : Rul} (hr : okRul r = true) {l : List Sp} (hl : ∀ x ∈ l, OkSp x) (h1 : ∀ i k, i < l.length → k < l.length → ¬ Bad l i k) (h2 : ∀ i, i < l.length → ∃ E, EndOf r l (nth l i) E ∧ E - (nth l i).b ≤ r.span ∧ sumW l (nth l i).b E ≤ r.work) (h3 : ∀ t, -r.week ≤ t → t < 700 → sumW l t (t + r.week) ≤ r.ww) (hm : ∀ x ∈ l, x.e ≤ 699) : brokP r (srtS l) = 0 := by
  have hr' := hr
  simp only [okRul, decide_eq_true_eq] at hr'
  have hL := srt_apart h1
  have hok := srt_ok hl
  have hpm := srt_perm l
  have hE : ∀ s : Sp, ∃ E, s ∈ srtS l → EndOf r (srtS l) s E ∧ E - s.b ≤ r.span ∧ sumW (srtS l) s.b E ≤ r.work := fun s => by
    by_cases hs : s ∈ srtS l
    · obtain ⟨i, hi, he⟩ := List.getElem_of_mem (hpm.mem_iff.1 hs)
      obtain ⟨E, e1, e2, e3⟩ := h2 i hi
      rw [nth_eq hi, he] at e1 e2 e3
      refine ⟨E, fun _ => ⟨e1.perm hpm.symm, e2, ?_⟩⟩
      rw [sumW_perm hpm]; exact e3
    · exact ⟨0, fun h => absurd h hs⟩
  rw [brok0]
  refine ⟨ovl_lin.2 ⟨fun x hx => (hok x hx).1, hL⟩, ?_, fun s hs => ?_⟩
  · exact (shifts_ends (by omega) hL hok (en := fun s => Classical.choose (hE s)) fun s hs => (Classical.choose_spec (hE s) hs).1).2 fun s hs => (Classical.choose_spec (hE s) hs).2
  · rw [winP_eq, sumW_perm hpm]
    have hs' := hpm.mem_iff.1 hs
    have := hl s hs'; unfold OkSp at this; have := hm s hs'
    have := h3 (s.e - r.week) (by omega) (by omega)
    rwa [show s.e - r.week + r.week = s.e by omega] at this
theorem keeps_ovl {r : Rul} {l : List Sp} {i k : Nat} (hi : i < l.length) (hk : k < l.length) (h : Bad l i k) : brokP r (srtS l) ≠ 0 := fun h0 =>
  apart_bad.1 ((lin_srtS l).1 (ovl_lin.1 (brok0.1 h0).1).2) i k hi hk h
theorem keeps_shift {r : Rul} (hr : okRul r = true) {l : List Sp} (hl : ∀ x ∈ l, OkSp x) {i : Nat} (hi : i < l.length) {E : Int} (hE : EndOf r l (nth l i) E) (h : r.span < E - (nth l i).b ∨ r.work < sumW l (nth l i).b E) : brokP r (srtS l) ≠ 0 := fun h0 => by
  simp only [okRul, decide_eq_true_eq] at hr
  obtain ⟨h1, h2, _⟩ := brok0.1 h0
  have hL := (ovl_lin.1 h1).2
  have hok := srt_ok hl
  have hpm := srt_perm l
  have hs : nth l i ∈ srtS l := hpm.mem_iff.2 (nth_mem hi)
  have hp := pieces r (by omega) (srtS l).length [] (srtS l) (Nat.le_refl _) (by simpa using hL) (by simpa using hok)
  simp only [List.nil_append] at hp
  obtain ⟨y, hy, a, c, d, hP, hc⟩ := hp.2 _ hs
  have g1 := h2 y hy
  have g2 := hP.2.2.2.2.1 _ hc
  have hE' := hE.perm hpm.symm
  have g3 : E ≤ y.e := hE'.2.2 _ g2.2 (hP.closed (by omega) hok g2.1)
  have g4 := hP.work (by omega) hok
  have g5 : sumW (srtS l) (nth l i).b E ≤ sumW (srtS l) y.b y.e := by
    have h6 := hE'.1
    have h7 := hok _ hs; unfold OkSp at h7
    have a1 := sumW_add hok (a := y.b) (b := (nth l i).b) (c := y.e) g2.1 (by omega)
    have a2 := sumW_add hok (a := (nth l i).b) (b := E) (c := y.e) (by omega) g3
    have a3 := sumW_nn (srtS l) y.b (nth l i).b; have a4 := sumW_nn (srtS l) E y.e
    omega
  rw [sumW_perm hpm] at g5
  omega
theorem keeps_week {r : Rul} (hr : okRul r = true) {l : List Sp} (hl : ∀ x ∈ l, OkSp x) {t : Int} (h : r.ww < sumW l t (t + r.week)) : brokP r (srtS l) ≠ 0 := fun h0 => by
  simp only [okRul, decide_eq_true_eq] at hr
  obtain ⟨h1, _, h3⟩ := brok0.1 h0
  have hL := (ovl_lin.1 h1).2
  have := win_max (W := r.week) (ww := r.ww) (by omega) (by omega) hL (srt_ok hl) (fun s hs => h3 s hs) (t + r.week)
  rw [sumW_perm (srt_perm l), show t + r.week - r.week = t by omega] at this
  omega

end Go.Proofs.YtagmodjadmecdaaGreat
