/-
  Crews: what less work, milder rules and shorter times do. Conditions: none.
-/
import Derived.Test.YtagmodjadmecdaaGreatHA5
namespace Go.Proofs.YtagmodjadmecdaaGreat
open Go Go.RowKit

theorem brok0 {r : Rul} {l : List Sp} : brokP r l = 0 ↔ ovlP 0 l = false ∧ (∀ x ∈ shiftsP r l, x.e - x.b ≤ r.span ∧ x.w ≤ r.work) ∧ ∀ s ∈ l, winP r l s.e ≤ r.ww := by
  unfold brokP
  constructor
  · intro h
    by_cases h1 : ovlP 0 l = true
    · rw [if_pos h1] at h; omega
    rw [if_neg h1] at h
    by_cases h2 : ((shiftsP r l).any fun x => decide (r.span < x.e - x.b)) = true
    · rw [if_pos h2] at h; omega
    rw [if_neg h2] at h
    by_cases h3 : ((shiftsP r l).any fun x => decide (r.work < x.w)) = true
    · rw [if_pos h3] at h; omega
    rw [if_neg h3] at h
    by_cases h4 : (l.any fun s => decide (r.ww < winP r l s.e)) = true
    · rw [if_pos h4] at h; omega
    simp only [List.any_eq_true, decide_eq_true_eq, not_exists, not_and, Int.not_lt] at h2 h3 h4
    exact ⟨by simpa using h1, fun x hx => ⟨h2 x hx, h3 x hx⟩, h4⟩
  · rintro ⟨h1, h2, h3⟩
    rw [if_neg (by simp [h1]), if_neg, if_neg, if_neg]
    · simp only [List.any_eq_true, decide_eq_true_eq, not_exists, not_and, Int.not_lt]; exact h3
    · simp only [List.any_eq_true, decide_eq_true_eq, not_exists, not_and, Int.not_lt]; exact fun x hx => (h2 x hx).2
    · simp only [List.any_eq_true, decide_eq_true_eq, not_exists, not_and, Int.not_lt]; exact fun x hx => (h2 x hx).1
def Lin (l : List Sp) : Prop := l.Pairwise (fun x y => x.e ≤ y.b)
theorem ovl_lin : ∀ {l : List Sp} {e : Int}, ovlP e l = false ↔ (∀ x ∈ l, e ≤ x.b) ∧ Lin l
  | [], e => by simp [ovlP, Lin]
  | s :: l, e => by
    have ih := ovl_lin (l := l) (e := max e s.e)
    unfold ovlP
    rw [Bool.or_eq_false_iff, ih]
    unfold Lin
    rw [List.pairwise_cons]
    simp only [decide_eq_false_iff_not, List.mem_cons]
    constructor
    · rintro ⟨h1, h2, h3⟩
      refine ⟨fun x hx => ?_, fun x hx => ?_, h3⟩
      · rcases hx with e | hx
        · subst e; omega
        · have := h2 x hx; omega
      · have := h2 x hx; omega
    · rintro ⟨h1, h2, h3⟩
      refine ⟨by have := h1 s (.inl rfl); omega, fun x hx => ?_, h3⟩
      have := h1 x (.inr hx); have := h2 x hx; omega
inductive Shr : List Sp → List Sp → Prop
  | nil : Shr [] []
  | drop (s : Sp) {l' l : List Sp} : Shr l' l → Shr l' (s :: l)
  | keep {s' s : Sp} {l' l : List Sp} : s.b ≤ s'.b → s'.b ≤ s'.e → s'.e ≤ s.e → Shr l' l → Shr (s' :: l') (s :: l)
theorem Shr.refl : ∀ {l : List Sp}, (∀ x ∈ l, OkSp x) → Shr l l
  | [], _ => .nil
  | s :: l, h => .keep (Int.le_refl _) (h s (by simp)).2.1 (Int.le_refl _) (Shr.refl fun x hx => h x (by simp [hx]))
theorem Shr.mem {l' l : List Sp} (h : Shr l' l) : ∀ {x'}, x' ∈ l' → ∃ x, x ∈ l ∧ x.b ≤ x'.b ∧ x'.b ≤ x'.e ∧ x'.e ≤ x.e := by
  induction h with
  | nil => intro x' hx; cases hx
  | drop s _ ih => intro x' hx; obtain ⟨x, h1, h2⟩ := ih hx; exact ⟨x, by simp [h1], h2⟩
  | keep h1 h2 h3 _ ih =>
    intro x' hx
    rcases List.mem_cons.1 hx with e | hx
    · subst e; exact ⟨_, by simp, h1, h2, h3⟩
    · obtain ⟨x, h4, h5⟩ := ih hx; exact ⟨x, by simp [h4], h5⟩
theorem Shr.ok {l' l : List Sp} (h : Shr l' l) (hl : ∀ x ∈ l, OkSp x) : ∀ x ∈ l', OkSp x := fun x' hx => by
  obtain ⟨x, h1, h2, h3, h4⟩ := h.mem hx
  have := hl x h1
  unfold OkSp at this ⊢; omega
theorem Shr.lin {l' l : List Sp} (h : Shr l' l) (hl : Lin l) : Lin l' := by
  induction h with
  | nil => exact List.Pairwise.nil
  | drop s _ ih => exact ih (List.Pairwise.of_cons hl)
  | @keep s' s l' l h1 h2 h3 hr ih =>
    refine List.Pairwise.cons (fun y hy => ?_) (ih (List.Pairwise.of_cons hl))
    obtain ⟨x, h4, h5, _⟩ := hr.mem hy
    have : s.e ≤ x.b := List.rel_of_pairwise_cons hl h4
    omega
def Mild (r r' : Rul) : Prop := r'.rest ≤ r.rest ∧ r.span ≤ r'.span ∧ r.work ≤ r'.work ∧ r.week = r'.week ∧ r.ww ≤ r'.ww
theorem Mild.refl (r : Rul) : Mild r r := ⟨Int.le_refl _, Int.le_refl _, Int.le_refl _, rfl, Int.le_refl _⟩
def ShOk (r : Rul) (x : Shf) : Prop := x.e - x.b ≤ r.span ∧ x.w ≤ r.work
def GoOk (r : Rul) (x : Shf) (l : List Sp) : Prop := ∀ y ∈ shGo r x l, ShOk r y
theorem goOk_nil {r : Rul} {x : Shf} : GoOk r x [] ↔ ShOk r x := by unfold GoOk shGo; simp
theorem goOk_cons {r : Rul} {x : Shf} {s : Sp} {l : List Sp} : GoOk r x (s :: l) ↔ if s.b < x.e + r.rest then GoOk r ⟨x.b, max x.e s.e, x.w + (s.e - s.b)⟩ l else ShOk r x ∧ GoOk r ⟨s.b, s.e, s.e - s.b⟩ l := by
  unfold GoOk
  rw [shGo]
  split
  · exact Iff.rfl
  · simp
theorem GoOk.first {r : Rul} : ∀ {l : List Sp} {x : Shf}, (∀ s ∈ l, OkSp s) → GoOk r x l → ShOk r x
  | [], x, _, h => goOk_nil.1 h
  | s :: l, x, hl, h => by
    rw [goOk_cons] at h
    split at h
    · have h1 := GoOk.first (fun s hs => hl s (by simp [hs])) h
      have h2 := hl s (by simp)
      unfold ShOk at h1 ⊢; unfold OkSp at h2; simp only [] at h1; omega
    · exact h.1
def ShIn (x' x : Shf) : Prop := x.b ≤ x'.b ∧ x'.e ≤ x.e ∧ x'.w ≤ x.w
theorem ShIn.ok {r r' : Rul} {x x' : Shf} (hm : Mild r r') (h : ShIn x' x) (hx : ShOk r x) : ShOk r' x' := by
  unfold Mild at hm; unfold ShIn at h; unfold ShOk at hx ⊢; omega
theorem goOk_far {r : Rul} {x : Shf} {l : List Sp} (hx : ShOk r x) (hl : ∀ s ∈ l, x.e + r.rest ≤ s.b) (h : ∀ y ∈ shiftsP r l, ShOk r y) : GoOk r x l := by
  match l with
  | [] => exact goOk_nil.2 hx
  | s :: l =>
    rw [goOk_cons, if_neg (by have := hl s (by simp); omega)]
    exact ⟨hx, h⟩
theorem shr_go {r r' : Rul} (hm : Mild r r') {l' l : List Sp} (hs : Shr l' l) : ∀ {x : Shf}, l.Pairwise (fun a b => a.b ≤ b.b) → (∀ s ∈ l, OkSp s ∧ x.b ≤ s.b) → 0 ≤ x.w → GoOk r x l →
    (∀ y ∈ shiftsP r' l', ShOk r' y) ∧ ∀ x', ShIn x' x → GoOk r' x' l' := by
  induction hs with
  | nil =>
    intro x _ _ _ h
    exact ⟨by simp [shiftsP], fun x' hx => goOk_nil.2 (hx.ok hm (goOk_nil.1 h))⟩
  | @drop s l' l hr ih =>
    intro x hp hl hw h
    have hp1 : ∀ t ∈ l, s.b ≤ t.b := fun t ht => List.rel_of_pairwise_cons hp ht
    have hp2 := List.Pairwise.of_cons hp
    have hs := hl s (by simp)
    have hs1 := hs.1; unfold OkSp at hs1
    rw [goOk_cons] at h
    split at h
    · rename_i hlt
      have := ih (x := ⟨x.b, max x.e s.e, x.w + (s.e - s.b)⟩) hp2 (fun t ht => ⟨(hl t (by simp [ht])).1, (hl t (by simp [ht])).2⟩) (by show 0 ≤ x.w + (s.e - s.b); omega) h
      refine ⟨this.1, fun x' hx => this.2 x' ?_⟩
      unfold ShIn at hx ⊢; simp only []; omega
    · rename_i hge
      have := ih (x := ⟨s.b, s.e, s.e - s.b⟩) hp2 (fun t ht => ⟨(hl t (by simp [ht])).1, hp1 t ht⟩) (by show 0 ≤ s.e - s.b; omega) h.2
      refine ⟨this.1, fun x' hx => goOk_far (hx.ok hm h.1) (fun t ht => ?_) this.1⟩
      obtain ⟨t0, h1, h2, _⟩ := hr.mem ht
      have := hp1 t0 h1
      unfold ShIn at hx; unfold Mild at hm; omega
  | @keep s' s l' l h1 h2 h3 hr ih =>
    intro x hp hl hw h
    have hp1 : ∀ t ∈ l, s.b ≤ t.b := fun t ht => List.rel_of_pairwise_cons hp ht
    have hp2 := List.Pairwise.of_cons hp
    have hs := hl s (by simp)
    have hs1 := hs.1; unfold OkSp at hs1
    have hx0 := GoOk.first (fun t ht => (hl t ht).1) h
    rw [goOk_cons] at h
    split at h
    · rename_i hlt
      have := ih (x := ⟨x.b, max x.e s.e, x.w + (s.e - s.b)⟩) hp2 (fun t ht => ⟨(hl t (by simp [ht])).1, (hl t (by simp [ht])).2⟩) (by show 0 ≤ x.w + (s.e - s.b); omega) h
      have hn : GoOk r' ⟨s'.b, s'.e, s'.e - s'.b⟩ l' := this.2 _ (by unfold ShIn; simp only []; omega)
      refine ⟨hn, fun x' hx => ?_⟩
      rw [goOk_cons]
      split
      · exact this.2 _ (by unfold ShIn at hx ⊢; simp only []; omega)
      · exact ⟨hx.ok hm hx0, hn⟩
    · rename_i hge
      have := ih (x := ⟨s.b, s.e, s.e - s.b⟩) hp2 (fun t ht => ⟨(hl t (by simp [ht])).1, hp1 t ht⟩) (by show 0 ≤ s.e - s.b; omega) h.2
      have hn : GoOk r' ⟨s'.b, s'.e, s'.e - s'.b⟩ l' := this.2 _ (by unfold ShIn; simp only []; omega)
      refine ⟨hn, fun x' hx => ?_⟩
      rw [goOk_cons, if_neg (by unfold ShIn at hx; unfold Mild at hm; omega)]
      exact ⟨hx.ok hm hx0, hn⟩
theorem lin_begins {l : List Sp} (h : Lin l) (hl : ∀ x ∈ l, OkSp x) : l.Pairwise (fun a b => a.b ≤ b.b) := by
  induction l with
  | nil => exact List.Pairwise.nil
  | cons s l ih =>
    refine List.Pairwise.cons (fun y hy => ?_) (ih (List.Pairwise.of_cons h) fun x hx => hl x (by simp [hx]))
    have h1 : s.e ≤ y.b := List.rel_of_pairwise_cons h hy
    have h2 := hl s (by simp); unfold OkSp at h2; omega
theorem shr_shifts {r r' : Rul} (hm : Mild r r') {l' l : List Sp} (hs : Shr l' l) (hp : Lin l) (hl : ∀ x ∈ l, OkSp x) (h : ∀ x ∈ shiftsP r l, ShOk r x) : ∀ x ∈ shiftsP r' l', ShOk r' x := by
  have hb := lin_begins hp hl
  cases hs with
  | nil => simp [shiftsP]
  | @drop s l' l hr =>
    exact (shr_go hm hr (x := ⟨s.b, s.e, s.e - s.b⟩) (List.Pairwise.of_cons hb) (fun t ht => ⟨hl t (by simp [ht]), List.rel_of_pairwise_cons hb ht⟩) (by have := hl s (by simp); unfold OkSp at this; show 0 ≤ s.e - s.b; omega) h).1
  | @keep s' s l' l h1 h2 h3 hr =>
    exact (shr_go hm hr (x := ⟨s.b, s.e, s.e - s.b⟩) (List.Pairwise.of_cons hb) (fun t ht => ⟨hl t (by simp [ht]), List.rel_of_pairwise_cons hb ht⟩) (by have := hl s (by simp); unfold OkSp at this; show 0 ≤ s.e - s.b; omega) h).2 _ (by unfold ShIn; simp only []; omega)
-- windows
def sumW (l : List Sp) (a b : Int) : Int := sumI2 (l.map fun s => inW s a b)
theorem winP_eq (r : Rul) (l : List Sp) (t : Int) : winP r l t = sumW l (t - r.week) t := rfl
theorem sumW_cons (s : Sp) (l : List Sp) (a b : Int) : sumW (s :: l) a b = inW s a b + sumW l a b := rfl
theorem sumW_nn (l : List Sp) (a b : Int) : 0 ≤ sumW l a b := by
  induction l with
  | nil => exact Int.le_refl _
  | cons s l ih => rw [sumW_cons]; unfold inW; omega
theorem sumW_shr {l' l : List Sp} (h : Shr l' l) (a b : Int) : sumW l' a b ≤ sumW l a b := by
  induction h with
  | nil => exact Int.le_refl _
  | drop s _ ih => rw [sumW_cons]; have : 0 ≤ inW s a b := by unfold inW; omega
                   omega
  | @keep s' s l' l h1 h2 h3 _ ih => rw [sumW_cons, sumW_cons]; have : inW s' a b ≤ inW s a b := by unfold inW; omega
                                     omega
theorem sumW_add {l : List Sp} (hl : ∀ x ∈ l, OkSp x) {a b c : Int} (h1 : a ≤ b) (h2 : b ≤ c) : sumW l a c = sumW l a b + sumW l b c := by
  induction l with
  | nil => rfl
  | cons s l ih =>
    rw [sumW_cons, sumW_cons, sumW_cons, ih fun x hx => hl x (by simp [hx])]
    have : inW s a c = inW s a b + inW s b c := by have := hl s (by simp); unfold OkSp at this; unfold inW; omega
    omega
theorem sumW_le : ∀ {l : List Sp} {c : Int}, Lin l → (∀ x ∈ l, OkSp x ∧ c ≤ x.b) → ∀ a b, sumW l a b ≤ max 0 (b - max a c)
  | [], c, _, _, a, b => by show (0 : Int) ≤ _; omega
  | s :: l, c, h, hl, a, b => by
    have h1 := hl s (by simp)
    have ih := sumW_le (c := s.e) (List.Pairwise.of_cons h) (fun x hx => ⟨(hl x (by simp [hx])).1, List.rel_of_pairwise_cons h hx⟩) a b
    have h2 := h1.1; unfold OkSp at h2
    rw [sumW_cons]; unfold inW; omega
theorem sumW_le' {l : List Sp} (h : Lin l) (hl : ∀ x ∈ l, OkSp x) {a b : Int} (hab : a ≤ b) : sumW l a b ≤ b - a := by
  have := sumW_le (c := 0) h (fun x hx => ⟨hl x hx, (hl x hx).1⟩) a b
  omega
theorem sumW_mem {l : List Sp} {s : Sp} (hs : s ∈ l) (a b : Int) : inW s a b ≤ sumW l a b := by
  induction l with
  | nil => cases hs
  | cons x l ih =>
    rw [sumW_cons]
    rcases List.mem_cons.1 hs with e | hs
    · subst e; have := sumW_nn l a b; omega
    · have := ih hs; have : 0 ≤ inW x a b := by unfold inW; omega
      omega
theorem sumW_zero {l : List Sp} {a b : Int} (h : ∀ s ∈ l, inW s a b = 0) : sumW l a b = 0 := by
  induction l with
  | nil => rfl
  | cons s l ih => rw [sumW_cons, h s (by simp), ih fun x hx => h x (by simp [hx])]; rfl
theorem last_end {l : List Sp} {t : Int} : (∀ s ∈ l, t < s.e) ∨ ∃ s ∈ l, s.e ≤ t ∧ ∀ x ∈ l, x.e ≤ t → x.e ≤ s.e := by
  induction l with
  | nil => left; simp
  | cons x l ih =>
    by_cases hx : x.e ≤ t
    · right
      rcases ih with h | ⟨s, h1, h2, h3⟩
      · refine ⟨x, by simp, hx, fun y hy hye => ?_⟩
        rcases List.mem_cons.1 hy with e | hy
        · subst e; omega
        · have := h y hy; omega
      · by_cases hc : s.e ≤ x.e
        · refine ⟨x, by simp, hx, fun y hy hye => ?_⟩
          rcases List.mem_cons.1 hy with e | hy
          · subst e; omega
          · have := h3 y hy hye; omega
        · refine ⟨s, by simp [h1], h2, fun y hy hye => ?_⟩
          rcases List.mem_cons.1 hy with e | hy
          · subst e; omega
          · exact h3 y hy hye
    · rcases ih with h | ⟨s, h1, h2, h3⟩
      · left
        intro y hy
        rcases List.mem_cons.1 hy with e | hy
        · subst e; omega
        · exact h y hy
      · right
        refine ⟨s, by simp [h1], h2, fun y hy hye => ?_⟩
        rcases List.mem_cons.1 hy with e | hy
        · subst e; omega
        · exact h3 y hy hye
theorem win_max {W ww : Int} (hW : 0 ≤ W) (hww : 0 ≤ ww) {l : List Sp} (h : Lin l) (hl : ∀ x ∈ l, OkSp x) (hm : ∀ s ∈ l, sumW l (s.e - W) s.e ≤ ww) (t : Int) : sumW l (t - W) t ≤ ww := by
  by_cases hc : ∃ s ∈ l, s.b < t ∧ t ≤ s.e
  · obtain ⟨s, hs, h1, h2⟩ := hc
    have h3 := hm s hs
    -- both windows within [t - W, s.e]
    have a1 := sumW_add hl (a := t - W) (b := t) (c := s.e) (by omega) h2
    have a2 := sumW_add hl (a := t - W) (b := s.e - W) (c := s.e) (by omega) (by omega)
    have a3 := sumW_le' h hl (a := t - W) (b := s.e - W) (by omega)
    have a4 := sumW_mem hs t s.e
    have a5 : inW s t s.e = s.e - t := by unfold inW; omega
    omega
  · have hn : ∀ s ∈ l, s.b < t → s.e < t := fun s hs h1 => by
      by_cases h2 : t ≤ s.e
      · exact absurd ⟨s, hs, h1, h2⟩ hc
      · omega
    rcases last_end (l := l) (t := t) with h1 | ⟨s, hs, h1, h2⟩
    · have : sumW l (t - W) t = 0 := sumW_zero fun s hs => by
        have h3 := h1 s hs; have h4 := hn s hs
        unfold inW; by_cases h5 : s.b < t
        · have := h4 h5; omega
        · omega
      omega
    · have h3 := hm s hs
      by_cases hq : t - W ≤ s.e
      · have a1 := sumW_add hl (a := s.e - W) (b := t - W) (c := s.e) (by omega) hq
        have a2 := sumW_add hl (a := t - W) (b := s.e) (c := t) hq h1
        have a3 : sumW l s.e t = 0 := sumW_zero fun x hx => by
          unfold inW
          by_cases h5 : x.b < t
          · have := hn x hx h5; have := h2 x hx (by omega); omega
          · omega
        have a4 := sumW_nn l (s.e - W) (t - W)
        omega
      · have a3 : sumW l (t - W) t = 0 := sumW_zero fun x hx => by
          unfold inW
          by_cases h5 : x.b < t
          · have := hn x hx h5; have := h2 x hx (by omega); omega
          · omega
        omega
theorem brok_mono {r r' : Rul} (hr : okRul r = true) (hm : Mild r r') {l' l : List Sp} (hs : Shr l' l) (hl : ∀ x ∈ l, OkSp x) (h : brokP r l = 0) : brokP r' l' = 0 := by
  rw [brok0] at h ⊢
  obtain ⟨h1, h2, h3⟩ := h
  obtain ⟨h1a, h1b⟩ := ovl_lin.1 h1
  have hr' := hr
  simp only [okRul, decide_eq_true_eq] at hr'
  refine ⟨ovl_lin.2 ⟨fun x hx => ?_, hs.lin h1b⟩, shr_shifts hm hs h1b hl h2, fun s hs' => ?_⟩
  · obtain ⟨y, q1, q2, _⟩ := hs.mem hx; have := h1a y q1; omega
  · have q := win_max (W := r.week) (ww := r.ww) (by omega) (by omega) h1b hl (fun s hs => h3 s hs) s.e
    have q2 := sumW_shr hs (s.e - r.week) s.e
    rw [winP_eq, ← hm.2.2.2.1]
    have := hm.2.2.2.2
    omega
theorem shr_ins {s : Sp} : ∀ {l : List Sp}, (∀ x ∈ l, OkSp x) → Shr l (insS s l)
  | [], _ => .drop _ .nil
  | x :: l, h => by
    unfold insS
    split
    · exact .keep (Int.le_refl _) (h x (by simp)).2.1 (Int.le_refl _) (shr_ins fun y hy => h y (by simp [hy]))
    · exact .drop _ (Shr.refl h)
theorem srt_of_perm {a b : List Sp} (h : a.Perm b) : srtS a = srtS b := srt_eq (srt_srt a) ((srt_perm a).trans h)
theorem srtS_cons (s : Sp) (l : List Sp) : srtS (s :: l) = insS s (srtS l) := rfl
theorem brok_less {r : Rul} (hr : okRul r = true) {s : Sp} {l m : List Sp} (hp : m.Perm (s :: l)) (hl : ∀ x ∈ m, OkSp x) (h : brokP r (srtS m) = 0) : brokP r (srtS l) = 0 := by
  have e : srtS m = insS s (srtS l) := (srt_of_perm hp).trans (srtS_cons s l)
  have hk : ∀ x ∈ l, OkSp x := fun x hx => hl x (hp.mem_iff.2 (by simp [hx]))
  have hs : OkSp s := hl s (hp.mem_iff.2 (by simp))
  rw [e] at h
  exact brok_mono hr (Mild.refl r) (shr_ins (srt_ok hk)) (ins_ok hs (srt_ok hk)) h
-- what Rested says
end Go.Proofs.YtagmodjadmecdaaGreat
