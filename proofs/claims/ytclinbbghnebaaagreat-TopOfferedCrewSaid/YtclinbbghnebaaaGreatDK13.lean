/-
  Part 13 of the proof: contracts and plain laws. Conditions: none.
-/
import Derived.Test.YtclinbbghnebaaaGreatDK12
namespace Go.Proofs.YtclinbbghnebaaaGreat
open Go Go.RowKit
set_option maxRecDepth 10000

theorem brok0 {r : Rul} {l : List Sp} : brokP r l = 0 ↔ ovlP 0 l = false ∧ (∀ x ∈ shiftsP r l, x.e - x.b ≤ r.span ∧ x.w ≤ r.work) ∧ ∀ s ∈ l, winP r l s.e ≤ r.ww := by
  unfold brokP
  constructor
  · intro h
    by_cases h1 : ovlP 0 l = true
    · rw [if_pos h1] at h; omega
    rw [if_neg h1] at h
    by_cases h2 : ((shiftsP r l).any fun x => decide (r.span < x.e - x.b)) = true
    · rw [if_pos h2] at h; omega
    rw [if_neg h2] at h
    by_cases h3 : ((shiftsP r l).any fun x => decide (r.work < x.w)) = true
    · rw [if_pos h3] at h; omega
    rw [if_neg h3] at h
    by_cases h4 : (l.any fun s => decide (r.ww < winP r l s.e)) = true
    · rw [if_pos h4] at h; omega
    simp only [List.any_eq_true, decide_eq_true_eq, not_exists, not_and, Int.not_lt] at h2 h3 h4
    exact ⟨by simpa using h1, fun x hx => ⟨h2 x hx, h3 x hx⟩, h4⟩
  · rintro ⟨h1, h2, h3⟩
    rw [if_neg (by simp [h1]), if_neg, if_neg, if_neg]
    · simp only [List.any_eq_true, decide_eq_true_eq, not_exists, not_and, Int.not_lt]; exact h3
    · simp only [List.any_eq_true, decide_eq_true_eq, not_exists, not_and, Int.not_lt]; exact fun x hx => (h2 x hx).2
    · simp only [List.any_eq_true, decide_eq_true_eq, not_exists, not_and, Int.not_lt]; exact fun x hx => (h2 x hx).1
/-- Times one after another. -/
def Lin (l : List Sp) : Prop := l.Pairwise (fun x y => x.e ≤ y.b)
theorem ovl_lin : ∀ {l : List Sp} {e : Int}, ovlP e l = false ↔ (∀ x ∈ l, e ≤ x.b) ∧ Lin l
  | [], e => by simp [ovlP, Lin]
  | s :: l, e => by
    have ih := ovl_lin (l := l) (e := max e s.e)
    unfold ovlP
    rw [Bool.or_eq_false_iff, ih]
    unfold Lin
    rw [List.pairwise_cons]
    simp only [decide_eq_false_iff_not, List.mem_cons]
    constructor
    · rintro ⟨h1, h2, h3⟩
      refine ⟨fun x hx => ?_, fun x hx => ?_, h3⟩
      · rcases hx with e | hx
        · subst e; omega
        · have := h2 x hx; omega
      · have := h2 x hx; omega
    · rintro ⟨h1, h2, h3⟩
      refine ⟨by have := h1 s (.inl rfl); omega, fun x hx => ?_, h3⟩
      have := h1 x (.inr hx); have := h2 x hx; omega
/-- Times of which some are left out, and the others are shorter. -/
inductive Shr : List Sp → List Sp → Prop
  | nil : Shr [] []
  | drop (s : Sp) {l' l : List Sp} : Shr l' l → Shr l' (s :: l)
  | keep {s' s : Sp} {l' l : List Sp} : s.b ≤ s'.b → s'.b ≤ s'.e → s'.e ≤ s.e → Shr l' l → Shr (s' :: l') (s :: l)
theorem Shr.refl : ∀ {l : List Sp}, (∀ x ∈ l, OkSp x) → Shr l l
  | [], _ => .nil
  | s :: l, h => .keep (Int.le_refl _) (h s (by simp)).2.1 (Int.le_refl _) (Shr.refl fun x hx => h x (by simp [hx]))
theorem Shr.mem {l' l : List Sp} (h : Shr l' l) : ∀ {x'}, x' ∈ l' → ∃ x, x ∈ l ∧ x.b ≤ x'.b ∧ x'.b ≤ x'.e ∧ x'.e ≤ x.e := by
  induction h with
  | nil => intro x' hx; cases hx
  | drop s _ ih => intro x' hx; obtain ⟨x, h1, h2⟩ := ih hx; exact ⟨x, by simp [h1], h2⟩
  | keep h1 h2 h3 _ ih =>
    intro x' hx
    rcases List.mem_cons.1 hx with e | hx
    · subst e; exact ⟨_, by simp, h1, h2, h3⟩
    · obtain ⟨x, h4, h5⟩ := ih hx; exact ⟨x, by simp [h4], h5⟩
theorem Shr.ok {l' l : List Sp} (h : Shr l' l) (hl : ∀ x ∈ l, OkSp x) : ∀ x ∈ l', OkSp x := fun x' hx => by
  obtain ⟨x, h1, h2, h3, h4⟩ := h.mem hx
  have := hl x h1
  unfold OkSp at this ⊢; omega
theorem Shr.lin {l' l : List Sp} (h : Shr l' l) (hl : Lin l) : Lin l' := by
  induction h with
  | nil => exact List.Pairwise.nil
  | drop s _ ih => exact ih (List.Pairwise.of_cons hl)
  | @keep s' s l' l h1 h2 h3 hr ih =>
    refine List.Pairwise.cons (fun y hy => ?_) (ih (List.Pairwise.of_cons hl))
    obtain ⟨x, h4, h5, _⟩ := hr.mem hy
    have : s.e ≤ x.b := List.rel_of_pairwise_cons hl h4
    omega
theorem lin_srt {l : List Sp} (h : Lin l) (hl : ∀ x ∈ l, OkSp x) : Srt l := by
  induction l with
  | nil => exact List.Pairwise.nil
  | cons s l ih =>
    refine List.Pairwise.cons (fun y hy => ?_) (ih (List.Pairwise.of_cons h) fun x hx => hl x (by simp [hx]))
    have h1 : s.e ≤ y.b := List.rel_of_pairwise_cons h hy
    have h2 := hl s (by simp); have h3 := hl y (by simp [hy])
    unfold OkSp at h2 h3; unfold LtS; omega
/-- Rules that are not harder. -/
def Mild (r r' : Rul) : Prop := r'.rest ≤ r.rest ∧ r.span ≤ r'.span ∧ r.work ≤ r'.work ∧ r.week = r'.week ∧ r.ww ≤ r'.ww
theorem Mild.refl (r : Rul) : Mild r r := ⟨Int.le_refl _, Int.le_refl _, Int.le_refl _, rfl, Int.le_refl _⟩
/-- A shift is short enough. -/
def ShOk (r : Rul) (x : Shf) : Prop := x.e - x.b ≤ r.span ∧ x.w ≤ r.work
def GoOk (r : Rul) (x : Shf) (l : List Sp) : Prop := ∀ y ∈ shGo r x l, ShOk r y
theorem goOk_nil {r : Rul} {x : Shf} : GoOk r x [] ↔ ShOk r x := by unfold GoOk shGo; simp
theorem goOk_cons {r : Rul} {x : Shf} {s : Sp} {l : List Sp} : GoOk r x (s :: l) ↔ if s.b < x.e + r.rest then GoOk r ⟨x.b, max x.e s.e, x.w + (s.e - s.b)⟩ l else ShOk r x ∧ GoOk r ⟨s.b, s.e, s.e - s.b⟩ l := by
  unfold GoOk
  rw [shGo]
  split
  · exact Iff.rfl
  · simp
/-- The shift that has begun is short enough. -/
theorem GoOk.first {r : Rul} : ∀ {l : List Sp} {x : Shf}, (∀ s ∈ l, OkSp s) → GoOk r x l → ShOk r x
  | [], x, _, h => goOk_nil.1 h
  | s :: l, x, hl, h => by
    rw [goOk_cons] at h
    split at h
    · have h1 := GoOk.first (fun s hs => hl s (by simp [hs])) h
      have h2 := hl s (by simp)
      unfold ShOk at h1 ⊢; unfold OkSp at h2; simp only [] at h1; omega
    · exact h.1
/-- A shift lies in another one. -/
def ShIn (x' x : Shf) : Prop := x.b ≤ x'.b ∧ x'.e ≤ x.e ∧ x'.w ≤ x.w
theorem ShIn.ok {r r' : Rul} {x x' : Shf} (hm : Mild r r') (h : ShIn x' x) (hx : ShOk r x) : ShOk r' x' := by
  unfold Mild at hm; unfold ShIn at h; unfold ShOk at hx ⊢; omega
/-- The shifts of times behind some are those of no shift that has begun. -/
theorem goOk_far {r : Rul} {x : Shf} {l : List Sp} (hx : ShOk r x) (hl : ∀ s ∈ l, x.e + r.rest ≤ s.b) (h : ∀ y ∈ shiftsP r l, ShOk r y) : GoOk r x l := by
  match l with
  | [] => exact goOk_nil.2 hx
  | s :: l =>
    rw [goOk_cons, if_neg (by have := hl s (by simp); omega)]
    exact ⟨hx, h⟩
theorem shr_go {r r' : Rul} (hm : Mild r r') {l' l : List Sp} (hs : Shr l' l) : ∀ {x : Shf}, l.Pairwise (fun a b => a.b ≤ b.b) → (∀ s ∈ l, OkSp s ∧ x.b ≤ s.b) → 0 ≤ x.w → GoOk r x l →
    (∀ y ∈ shiftsP r' l', ShOk r' y) ∧ ∀ x', ShIn x' x → GoOk r' x' l' := by
  induction hs with
  | nil =>
    intro x _ _ _ h
    exact ⟨by simp [shiftsP], fun x' hx => goOk_nil.2 (hx.ok hm (goOk_nil.1 h))⟩
  | @drop s l' l hr ih =>
    intro x hp hl hw h
    have hp1 : ∀ t ∈ l, s.b ≤ t.b := fun t ht => List.rel_of_pairwise_cons hp ht
    have hp2 := List.Pairwise.of_cons hp
    have hs := hl s (by simp)
    have hs1 := hs.1; unfold OkSp at hs1
    rw [goOk_cons] at h
    split at h
    · rename_i hlt
      have := ih (x := ⟨x.b, max x.e s.e, x.w + (s.e - s.b)⟩) hp2 (fun t ht => ⟨(hl t (by simp [ht])).1, (hl t (by simp [ht])).2⟩) (by show 0 ≤ x.w + (s.e - s.b); omega) h
      refine ⟨this.1, fun x' hx => this.2 x' ?_⟩
      unfold ShIn at hx ⊢; simp only []; omega
    · rename_i hge
      have := ih (x := ⟨s.b, s.e, s.e - s.b⟩) hp2 (fun t ht => ⟨(hl t (by simp [ht])).1, hp1 t ht⟩) (by show 0 ≤ s.e - s.b; omega) h.2
      refine ⟨this.1, fun x' hx => goOk_far (hx.ok hm h.1) (fun t ht => ?_) this.1⟩
      obtain ⟨t0, h1, h2, _⟩ := hr.mem ht
      have := hp1 t0 h1
      unfold ShIn at hx; unfold Mild at hm; omega
  | @keep s' s l' l h1 h2 h3 hr ih =>
    intro x hp hl hw h
    have hp1 : ∀ t ∈ l, s.b ≤ t.b := fun t ht => List.rel_of_pairwise_cons hp ht
    have hp2 := List.Pairwise.of_cons hp
    have hs := hl s (by simp)
    have hs1 := hs.1; unfold OkSp at hs1
    have hx0 := GoOk.first (fun t ht => (hl t ht).1) h
    rw [goOk_cons] at h
    split at h
    · rename_i hlt
      have := ih (x := ⟨x.b, max x.e s.e, x.w + (s.e - s.b)⟩) hp2 (fun t ht => ⟨(hl t (by simp [ht])).1, (hl t (by simp [ht])).2⟩) (by show 0 ≤ x.w + (s.e - s.b); omega) h
      have hn : GoOk r' ⟨s'.b, s'.e, s'.e - s'.b⟩ l' := this.2 _ (by unfold ShIn; simp only []; omega)
      refine ⟨hn, fun x' hx => ?_⟩
      rw [goOk_cons]
      split
      · exact this.2 _ (by unfold ShIn at hx ⊢; simp only []; omega)
      · exact ⟨hx.ok hm hx0, hn⟩
    · rename_i hge
      have := ih (x := ⟨s.b, s.e, s.e - s.b⟩) hp2 (fun t ht => ⟨(hl t (by simp [ht])).1, hp1 t ht⟩) (by show 0 ≤ s.e - s.b; omega) h.2
      have hn : GoOk r' ⟨s'.b, s'.e, s'.e - s'.b⟩ l' := this.2 _ (by unfold ShIn; simp only []; omega)
      refine ⟨hn, fun x' hx => ?_⟩
      rw [goOk_cons, if_neg (by unfold ShIn at hx; unfold Mild at hm; omega)]
      exact ⟨hx.ok hm hx0, hn⟩
theorem lin_begins {l : List Sp} (h : Lin l) (hl : ∀ x ∈ l, OkSp x) : l.Pairwise (fun a b => a.b ≤ b.b) := by
  induction l with
  | nil => exact List.Pairwise.nil
  | cons s l ih =>
    refine List.Pairwise.cons (fun y hy => ?_) (ih (List.Pairwise.of_cons h) fun x hx => hl x (by simp [hx]))
    have h1 : s.e ≤ y.b := List.rel_of_pairwise_cons h hy
    have h2 := hl s (by simp); unfold OkSp at h2; omega
theorem shr_shifts {r r' : Rul} (hm : Mild r r') {l' l : List Sp} (hs : Shr l' l) (hp : Lin l) (hl : ∀ x ∈ l, OkSp x) (h : ∀ x ∈ shiftsP r l, ShOk r x) : ∀ x ∈ shiftsP r' l', ShOk r' x := by
  have hb := lin_begins hp hl
  cases hs with
  | nil => simp [shiftsP]
  | @drop s l' l hr =>
    exact (shr_go hm hr (x := ⟨s.b, s.e, s.e - s.b⟩) (List.Pairwise.of_cons hb) (fun t ht => ⟨hl t (by simp [ht]), List.rel_of_pairwise_cons hb ht⟩) (by have := hl s (by simp); unfold OkSp at this; show 0 ≤ s.e - s.b; omega) h).1
  | @keep s' s l' l h1 h2 h3 hr =>
    exact (shr_go hm hr (x := ⟨s.b, s.e, s.e - s.b⟩) (List.Pairwise.of_cons hb) (fun t ht => ⟨hl t (by simp [ht]), List.rel_of_pairwise_cons hb ht⟩) (by have := hl s (by simp); unfold OkSp at this; show 0 ≤ s.e - s.b; omega) h).2 _ (by unfold ShIn; simp only []; omega)
-- windows
def sumW (l : List Sp) (a b : Int) : Int := sumI2 (l.map fun s => inW s a b)
theorem winP_eq (r : Rul) (l : List Sp) (t : Int) : winP r l t = sumW l (t - r.week) t := rfl
theorem sumW_cons (s : Sp) (l : List Sp) (a b : Int) : sumW (s :: l) a b = inW s a b + sumW l a b := rfl
theorem sumW_nn (l : List Sp) (a b : Int) : 0 ≤ sumW l a b := by
  induction l with
  | nil => exact Int.le_refl _
  | cons s l ih => rw [sumW_cons]; unfold inW; omega
theorem sumW_shr {l' l : List Sp} (h : Shr l' l) (a b : Int) : sumW l' a b ≤ sumW l a b := by
  induction h with
  | nil => exact Int.le_refl _
  | drop s _ ih => rw [sumW_cons]; have : 0 ≤ inW s a b := by unfold inW; omega
                   omega
  | @keep s' s l' l h1 h2 h3 _ ih => rw [sumW_cons, sumW_cons]; have : inW s' a b ≤ inW s a b := by unfold inW; omega
                                     omega
theorem sumW_add {l : List Sp} (hl : ∀ x ∈ l, OkSp x) {a b c : Int} (h1 : a ≤ b) (h2 : b ≤ c) : sumW l a c = sumW l a b + sumW l b c := by
  induction l with
  | nil => rfl
  | cons s l ih =>
    rw [sumW_cons, sumW_cons, sumW_cons, ih fun x hx => hl x (by simp [hx])]
    have : inW s a c = inW s a b + inW s b c := by have := hl s (by simp); unfold OkSp at this; unfold inW; omega
    omega
theorem sumW_le : ∀ {l : List Sp} {c : Int}, Lin l → (∀ x ∈ l, OkSp x ∧ c ≤ x.b) → ∀ a b, sumW l a b ≤ max 0 (b - max a c)
  | [], c, _, _, a, b => by show (0 : Int) ≤ _; omega
  | s :: l, c, h, hl, a, b => by
    have h1 := hl s (by simp)
    have ih := sumW_le (c := s.e) (List.Pairwise.of_cons h) (fun x hx => ⟨(hl x (by simp [hx])).1, List.rel_of_pairwise_cons h hx⟩) a b
    have h2 := h1.1; unfold OkSp at h2
    rw [sumW_cons]; unfold inW; omega
theorem sumW_le' {l : List Sp} (h : Lin l) (hl : ∀ x ∈ l, OkSp x) {a b : Int} (hab : a ≤ b) : sumW l a b ≤ b - a := by
  have := sumW_le (c := 0) h (fun x hx => ⟨hl x hx, (hl x hx).1⟩) a b
  omega
theorem sumW_mem {l : List Sp} {s : Sp} (hs : s ∈ l) (a b : Int) : inW s a b ≤ sumW l a b := by
  induction l with
  | nil => cases hs
  | cons x l ih =>
    rw [sumW_cons]
    rcases List.mem_cons.1 hs with e | hs
    · subst e; have := sumW_nn l a b; omega
    · have := ih hs; have : 0 ≤ inW x a b := by unfold inW; omega
      omega
theorem sumW_zero {l : List Sp} {a b : Int} (h : ∀ s ∈ l, inW s a b = 0) : sumW l a b = 0 := by
  induction l with
  | nil => rfl
  | cons s l ih => rw [sumW_cons, h s (by simp), ih fun x hx => h x (by simp [hx])]; rfl
/-- Of times that end no later than a minute one ends last. -/
theorem last_end {l : List Sp} {t : Int} : (∀ s ∈ l, t < s.e) ∨ ∃ s ∈ l, s.e ≤ t ∧ ∀ x ∈ l, x.e ≤ t → x.e ≤ s.e := by
  induction l with
  | nil => left; simp
  | cons x l ih =>
    by_cases hx : x.e ≤ t
    · right
      rcases ih with h | ⟨s, h1, h2, h3⟩
      · refine ⟨x, by simp, hx, fun y hy hye => ?_⟩
        rcases List.mem_cons.1 hy with e | hy
        · subst e; omega
        · have := h y hy; omega
      · by_cases hc : s.e ≤ x.e
        · refine ⟨x, by simp, hx, fun y hy hye => ?_⟩
          rcases List.mem_cons.1 hy with e | hy
          · subst e; omega
          · have := h3 y hy hye; omega
        · refine ⟨s, by simp [h1], h2, fun y hy hye => ?_⟩
          rcases List.mem_cons.1 hy with e | hy
          · subst e; omega
          · exact h3 y hy hye
    · rcases ih with h | ⟨s, h1, h2, h3⟩
      · left
        intro y hy
        rcases List.mem_cons.1 hy with e | hy
        · subst e; omega
        · exact h y hy
      · right
        refine ⟨s, by simp [h1], h2, fun y hy hye => ?_⟩
        rcases List.mem_cons.1 hy with e | hy
        · subst e; omega
        · exact h3 y hy hye
/-- There is never more work in a window than in one that ends when some time ends. -/
theorem win_max {W ww : Int} (hW : 0 ≤ W) (hww : 0 ≤ ww) {l : List Sp} (h : Lin l) (hl : ∀ x ∈ l, OkSp x) (hm : ∀ s ∈ l, sumW l (s.e - W) s.e ≤ ww) (t : Int) : sumW l (t - W) t ≤ ww := by
  by_cases hc : ∃ s ∈ l, s.b < t ∧ t ≤ s.e
  · obtain ⟨s, hs, h1, h2⟩ := hc
    have h3 := hm s hs
    -- both windows within [t - W, s.e]
    have a1 := sumW_add hl (a := t - W) (b := t) (c := s.e) (by omega) h2
    have a2 := sumW_add hl (a := t - W) (b := s.e - W) (c := s.e) (by omega) (by omega)
    have a3 := sumW_le' h hl (a := t - W) (b := s.e - W) (by omega)
    have a4 := sumW_mem hs t s.e
    have a5 : inW s t s.e = s.e - t := by unfold inW; omega
    omega
  · have hn : ∀ s ∈ l, s.b < t → s.e < t := fun s hs h1 => by
      by_cases h2 : t ≤ s.e
      · exact absurd ⟨s, hs, h1, h2⟩ hc
      · omega
    rcases last_end (l := l) (t := t) with h1 | ⟨s, hs, h1, h2⟩
    · have : sumW l (t - W) t = 0 := sumW_zero fun s hs => by
        have h3 := h1 s hs; have h4 := hn s hs
        unfold inW; by_cases h5 : s.b < t
        · have := h4 h5; omega
        · omega
      omega
    · have h3 := hm s hs
      by_cases hq : t - W ≤ s.e
      · have a1 := sumW_add hl (a := s.e - W) (b := t - W) (c := s.e) (by omega) hq
        have a2 := sumW_add hl (a := t - W) (b := s.e) (c := t) hq h1
        have a3 : sumW l s.e t = 0 := sumW_zero fun x hx => by
          unfold inW
          by_cases h5 : x.b < t
          · have := hn x hx h5; have := h2 x hx (by omega); omega
          · omega
        have a4 := sumW_nn l (s.e - W) (t - W)
        omega
      · have a3 : sumW l (t - W) t = 0 := sumW_zero fun x hx => by
          unfold inW
          by_cases h5 : x.b < t
          · have := hn x hx h5; have := h2 x hx (by omega); omega
          · omega
        omega
/-- LESS IS SAFE. -/
theorem brok_mono {r r' : Rul} (hr : okRul r = true) (hm : Mild r r') {l' l : List Sp} (hs : Shr l' l) (hl : ∀ x ∈ l, OkSp x) (h : brokP r l = 0) : brokP r' l' = 0 := by
  rw [brok0] at h ⊢
  obtain ⟨h1, h2, h3⟩ := h
  obtain ⟨h1a, h1b⟩ := ovl_lin.1 h1
  have hr' := hr
  simp only [okRul, decide_eq_true_eq] at hr'
  refine ⟨ovl_lin.2 ⟨fun x hx => ?_, hs.lin h1b⟩, shr_shifts hm hs h1b hl h2, fun s hs' => ?_⟩
  · obtain ⟨y, q1, q2, _⟩ := hs.mem hx; have := h1a y q1; omega
  · have q := win_max (W := r.week) (ww := r.ww) (by omega) (by omega) h1b hl (fun s hs => h3 s hs) s.e
    have q2 := sumW_shr hs (s.e - r.week) s.e
    rw [winP_eq, ← hm.2.2.2.1]
    have := hm.2.2.2.2
    omega
theorem shr_ins {s : Sp} : ∀ {l : List Sp}, (∀ x ∈ l, OkSp x) → Shr l (insS s l)
  | [], _ => .drop _ .nil
  | x :: l, h => by
    unfold insS
    split
    · exact .keep (Int.le_refl _) (h x (by simp)).2.1 (Int.le_refl _) (shr_ins fun y hy => h y (by simp [hy]))
    · exact .drop _ (Shr.refl h)
theorem srt_of_perm {a b : List Sp} (h : a.Perm b) : srtS a = srtS b := srt_eq (srt_srt a) ((srt_perm a).trans h)
theorem srtS_cons (s : Sp) (l : List Sp) : srtS (s :: l) = insS s (srtS l) := rfl
/-- With one time less nothing is broken. -/
theorem brok_less {r : Rul} (hr : okRul r = true) {s : Sp} {l m : List Sp} (hp : m.Perm (s :: l)) (hl : ∀ x ∈ m, OkSp x) (h : brokP r (srtS m) = 0) : brokP r (srtS l) = 0 := by
  have e : srtS m = insS s (srtS l) := (srt_of_perm hp).trans (srtS_cons s l)
  have hk : ∀ x ∈ l, OkSp x := fun x hx => hl x (hp.mem_iff.2 (by simp [hx]))
  have hs : OkSp s := hl s (hp.mem_iff.2 (by simp))
  rw [e] at h
  exact brok_mono hr (Mild.refl r) (shr_ins (srt_ok hk)) (ins_ok hs (srt_ok hk)) h
/-- Times and shorter ones, sorted together. -/
theorem ins_pairs (p : Sp × Sp) : ∀ l : List (Sp × Sp), ∃ q : List (Sp × Sp), q.Perm (p :: l) ∧ insS p.1 (l.map Prod.fst) = q.map Prod.fst
  | [] => ⟨[p], List.Perm.refl _, rfl⟩
  | x :: l => by
    show ∃ q : List (Sp × Sp), q.Perm (p :: x :: l) ∧ insS p.1 (x.1 :: l.map Prod.fst) = q.map Prod.fst
    unfold insS
    split
    · obtain ⟨q, h1, h2⟩ := ins_pairs p l
      exact ⟨x :: q, (h1.cons x).trans (List.Perm.swap p x l), by rw [h2]; rfl⟩
    · exact ⟨p :: x :: l, List.Perm.refl _, rfl⟩
theorem srt_pairs : ∀ l : List (Sp × Sp), ∃ q : List (Sp × Sp), q.Perm l ∧ srtS (l.map Prod.fst) = q.map Prod.fst
  | [] => ⟨[], List.Perm.refl _, rfl⟩
  | p :: l => by
    obtain ⟨q, h1, h2⟩ := srt_pairs l
    obtain ⟨q2, h3, h4⟩ := ins_pairs p q
    refine ⟨q2, h3.trans (h1.cons p), ?_⟩
    show insS p.1 (srtS (l.map Prod.fst)) = _
    rw [h2, h4]
def InSp (x' x : Sp) : Prop := x.b ≤ x'.b ∧ x'.b ≤ x'.e ∧ x'.e ≤ x.e
theorem shr_pairs : ∀ {q : List (Sp × Sp)}, (∀ p ∈ q, InSp p.2 p.1) → Shr (q.map Prod.snd) (q.map Prod.fst)
  | [], _ => .nil
  | p :: q, h => by have := h p (by simp); exact .keep this.1 this.2.1 this.2.2 (shr_pairs fun x hx => h x (by simp [hx]))
/-- FOR EVERY TRUTH: shorter times break nothing. -/
theorem brok_shrink {r : Rul} (hr : okRul r = true) {l : List (Sp × Sp)} (hl : ∀ p ∈ l, OkSp p.1 ∧ InSp p.2 p.1) (h : brokP r (srtS (l.map Prod.fst)) = 0) : brokP r (srtS (l.map Prod.snd)) = 0 := by
  obtain ⟨q, h1, h2⟩ := srt_pairs l
  have hq : ∀ p ∈ q, OkSp p.1 ∧ InSp p.2 p.1 := fun p hp => hl p (h1.mem_iff.1 hp)
  have hok : ∀ x ∈ q.map Prod.fst, OkSp x := fun x hx => by obtain ⟨p, hp, rfl⟩ := List.mem_map.1 hx; exact (hq p hp).1
  have hs := shr_pairs fun p hp => (hq p hp).2
  rw [h2] at h
  have hlin := (ovl_lin.1 ((brok0.1 h).1)).2
  have e : q.map Prod.snd = srtS (l.map Prod.snd) := srt_eq (lin_srt (hs.lin hlin) (hs.ok hok)) (h1.map _)
  rw [← e]
  exact brok_mono hr (Mild.refl r) hs hok h
-- what Rested says
/-- Numbers in ascending order, from one on and below a bound. -/
def AscN : Nat → Nat → List Nat → Prop
  | _, _, [] => True
  | i, n, k :: l => i ≤ k ∧ k < n ∧ AscN (k + 1) n l
theorem AscN.mem {n : Nat} : ∀ {l : List Nat} {i : Nat}, AscN i n l → ∀ {j}, j ∈ l → i ≤ j ∧ j < n
  | k :: l, i, h, j, hj => by
    rcases List.mem_cons.1 hj with e | hj
    · rw [e]; exact ⟨h.1, h.2.1⟩
    · have := AscN.mem h.2.2 hj; have h1 : i ≤ k := h.1; omega
theorem AscN.lt {n : Nat} : ∀ {l : List Nat} {i a : Nat}, AscN i n l → 0 < a → a < l.length → nth l (a - 1) < nth l a
  | [], _, a, _, _, h => absurd h (Nat.not_lt_zero _)
  | k :: l, i, a, h, h0, ha => by
    match a, h0, ha with
    | 1, _, ha =>
      have : nth l 0 ∈ l := nth_mem (by simpa using ha)
      have := AscN.mem h.2.2 this
      show k < nth l 0
      omega
    | a + 2, _, ha =>
      have := AscN.lt (a := a + 1) h.2.2 (by omega) (by simp at ha; omega)
      exact this
def pltN (x : Leg) (ms : List Mb) : List Nat → Int
  | [] => 0
  | k :: l => pltI (nth ms k) x + pltN x ms l
/-- A team for a leg. -/
structure TeamN (r : Rul) (x : Leg) (ms : List Mb) (k i : Nat) (pl : Int) (ns : List Nat) : Prop where
  len : ns.length = k
  asc : AscN i ms.length ns
  can : ∀ j ∈ ns, canM r x (nth ms j) = true
  plt : x.p ≤ pl + pltN x ms ns
/-- For how many legs there is an assignment. -/
def dep (r : Rul) : List Leg → List Mb → Nat
  | [], _ => 0
  | x :: xs, ms => (teamsP r x x.h.toNat 0 [] 0 ms).foldl (fun d t => max d (1 + dep r xs t.ms)) 0
-- verifying
theorem nth_map2 {α β : Type} [Inhabited α] [Inhabited β] (f : α → β) {l : List α} {i : Nat} (h : i < l.length) : nth (l.map f) i = f (nth l i) := nth_map' f h

theorem brok_sub {r : Rul} (hr : okRul r = true) : ∀ {E D D' : List Sp}, D.Perm (D' ++ E) → (∀ x ∈ D, OkSp x) → brokP r (srtS D) = 0 → brokP r (srtS D') = 0
  | [], D, D', hp, hl, h => by rw [List.append_nil] at hp; rwa [← srt_of_perm hp]
  | e :: E, D, D', hp, hl, h => by
    have hq : D.Perm (e :: (D' ++ E)) := hp.trans List.perm_middle
    exact brok_sub hr (E := E) (List.Perm.refl _) (fun x hx => hl x (hq.mem_iff.2 (List.mem_cons_of_mem _ hx))) (brok_less hr hq hl h)
/-- A member with fewer times of work. -/
structure DomM (m m' : Mb) : Prop where
  f : m'.f = m.f
  u : m'.u = m.u
  ps : m'.ps = m.ps
  ts : ∃ D D' E, m.ts = srtS D ∧ m'.ts = srtS D' ∧ D.Perm (D' ++ E) ∧ ∀ x ∈ D, OkSp x
theorem canM_win {r : Rul} {x : Leg} {m : Mb} (h : canM r x m = true) : winM m.f m.u x = true ∧ brokP r (insS (lngS x.t) m.ts) = 0 := by
  unfold canM canB at h
  rw [Bool.and_eq_true, decide_eq_true_eq] at h; exact h
theorem DomM.can {r : Rul} (hr : okRul r = true) {x : Leg} (hx : okLeg x = true) {m m' : Mb} (h : DomM m m') (hc : canM r x m = true) : canM r x m' = true := by
  obtain ⟨h1, h2⟩ := canM_win hc
  obtain ⟨D, D', E, e1, e2, hp, hl⟩ := h.ts
  unfold canM canB
  rw [h.f, h.u, h1, Bool.true_and, decide_eq_true_eq, e2, ← srtS_cons]
  rw [e1, ← srtS_cons] at h2
  exact brok_sub hr (E := E) (D := lngS x.t :: D) (by rw [List.cons_append]; exact hp.cons _) (fun y hy => by
    rcases List.mem_cons.1 hy with e | hy
    · rw [e]; exact lng_ok (okLeg_ok hx).1
    · exact hl y hy) h2
theorem aftM_ts {r : Rul} {x : Leg} {m : Mb} (h : canM r x m = true) : (aftM x m).ts = insS (lngS x.t) m.ts := by
  unfold aftM canT; simp only []; rw [if_pos (canM_win h).1]
theorem DomM.more {r : Rul} {x : Leg} (hx : okLeg x = true) {m m' : Mb} (h : DomM m m') (hc : canM r x m = true) : DomM (aftM x m) m' := by
  obtain ⟨D, D', E, e1, e2, hp, hl⟩ := h.ts
  refine ⟨h.f, h.u, h.ps, lngS x.t :: D, D', lngS x.t :: E, by rw [aftM_ts hc, e1]; rfl, e2, (hp.cons _).trans List.perm_middle.symm, fun y hy => ?_⟩
  rcases List.mem_cons.1 hy with e | hy
  · rw [e]; exact lng_ok (okLeg_ok hx).1
  · exact hl y hy
theorem DomM.both {r : Rul} {x x' : Leg} (ht : x'.t = x.t) (hx : okLeg x = true) {m m' : Mb} (h : DomM m m') (hc : canM r x m = true) (hc' : canM r x' m' = true) : DomM (aftM x m) (aftM x' m') := by
  obtain ⟨D, D', E, e1, e2, hp, hl⟩ := h.ts
  refine ⟨h.f, h.u, h.ps, lngS x.t :: D, lngS x.t :: D', E, by rw [aftM_ts hc, e1]; rfl, by rw [aftM_ts hc', e2, ht]; rfl, by rw [List.cons_append]; exact hp.cons _, fun y hy => ?_⟩
  rcases List.mem_cons.1 hy with e | hy
  · rw [e]; exact lng_ok (okLeg_ok hx).1
  · exact hl y hy
theorem AscN.wide {n n' : Nat} (hn : n ≤ n') : ∀ {l : List Nat} {i : Nat}, AscN i n l → AscN i n' l
  | [], _, _ => trivial
  | _ :: _, _, h => ⟨h.1, by have := h.2.1; omega, AscN.wide hn h.2.2⟩
/-- Fewer legs, or easier ones. -/
inductive Ez : List Leg → List Leg → Prop
  | nil : Ez [] []
  | skip {x xs xs'} : Ez xs xs' → Ez (x :: xs) xs'
  | keep {x xs xs'} : Ez xs xs' → Ez (x :: xs) (x :: xs')
  | ease {x xs xs'} : Ez xs xs' → Ez (x :: xs) (⟨x.r, x.t, 1, 0⟩ :: xs')
theorem Ez.refl : ∀ xs, Ez xs xs
  | [] => .nil
  | _ :: xs => .keep (Ez.refl xs)
/-- The legs of these numbers. -/
def pickN (xs : List Leg) (ns : List Nat) : List Leg := ns.map fun k => nth xs k
theorem AscN.len {n : Nat} : ∀ {l : List Nat} {i : Nat}, AscN i n l → l.length ≤ n - i
  | [], _, _ => Nat.zero_le _
  | k :: l, i, h => by
    have := AscN.len h.2.2
    have h1 := h.1; have h2 := h.2.1
    rw [List.length_cons]; omega
/-- What Short says where no assignment of all legs is safe. -/
structure ShortN (r : Rul) (ms : List Mb) (xs : List Leg) (ns : List Nat) : Prop where
  asc : AscN 0 xs.length ns
  pos : 0 < ns.length
  no : sfP r (pickN xs ns) ms = false
  less : ∀ k, k < ns.length → sfP r (pickN xs (ns.take k ++ ns.drop (k + 1))) ms = true
/-! ### The document's examples -/
def knR : Rul := ⟨600, 840, 600, 2880, 1000⟩
def knD (b e : Int) : Dty := ⟨b, b, e, e⟩
def knL : List Dty := [knD 0 300, knD 400 700]
def knM : List Dty := [knD 0 300, knD 899 1200]
theorem kn_chk : chkRD knR knL = 0 ∧ chkRD knR knM = 0 := ⟨by kernel_rfl, by kernel_rfl⟩
theorem kn_b1 : brkK knR knM 1 = 0 := by kernel_rfl
theorem kn_b2 : brkK knR knM 2 = 2 := by kernel_rfl
theorem kn_b3 : brokP knR (srtS (knM.map shtS)) = 2 := by kernel_rfl
theorem kn_rested {at_ rule e : Int} {pos : Bool} (h : RestA knR knM at_ rule pos e) : at_ = 1 ∧ rule = 2 ∧ pos = false ∧ e = 0 := by
  rcases h with ⟨h, _⟩ | ⟨_, h1, h2, h3⟩
  · exact absurd kn_chk.2 h
  · rw [kn_b3] at h3
    rcases h2 with ⟨_, _, h4⟩ | ⟨k, hk, h4, h5, h6, h7⟩
    · have := h4 1 (by decide); rw [kn_b2] at this; cases this
    · match k, hk with
      | 0, _ => rw [kn_b1] at h5; exact absurd h5 h6
      | 1, _ => rw [kn_b2] at h5; exact ⟨h4, h5, h3, h1⟩
end Go.Proofs.YtclinbbghnebaaaGreat
namespace Go.Proofs.YtclinbbghnebaaaGreat
open Go Go.RowKit
set_option maxRecDepth 10000

/-- Times that lie within others. -/
def InD (d' d : Dty) : Prop := d.bl ≤ d'.bl ∧ d'.bl ≤ d'.eh ∧ d'.eh ≤ d.eh
/-- A member who works within the times of another one. -/
structure ShrM (m m' : Mb) : Prop where
  f : m'.f = m.f
  u : m'.u = m.u
  ps : m'.ps = m.ps
  ts : ∃ q : List (Sp × Sp), m.ts = srtS (q.map Prod.fst) ∧ m'.ts = srtS (q.map Prod.snd) ∧ ∀ p ∈ q, OkSp p.1 ∧ InSp p.2 p.1
/-- A leg without pilots within the time of another one. -/
structure LgIn (x' x : Leg) : Prop where
  h : x'.h = x.h
  p : x'.p = 0
  t : InD x'.t x.t
  ok : okLeg x = true
theorem LgIn.sp {x' x : Leg} (h : LgIn x' x) : OkSp (lngS x.t) ∧ InSp (lngS x'.t) (lngS x.t) := ⟨lng_ok (okLeg_ok h.ok).1, h.t⟩
theorem ShrM.can {r : Rul} (hr : okRul r = true) {x x' : Leg} (hx : LgIn x' x) {m m' : Mb} (h : ShrM m m') (hc : canM r x m = true) : canM r x' m' = true := by
  obtain ⟨h1, h2⟩ := canM_win hc
  obtain ⟨q, e1, e2, hq⟩ := h.ts
  have h3 : winM m'.f m'.u x' = true := by
    have ht := hx.t
    unfold InD at ht
    unfold winM at h1 ⊢
    rw [decide_eq_true_eq] at h1 ⊢
    rw [h.f, h.u]
    omega
  unfold canM canB
  rw [h3, Bool.true_and, decide_eq_true_eq, e2, ← srtS_cons]
  rw [e1, ← srtS_cons] at h2
  exact brok_shrink hr (l := (lngS x.t, lngS x'.t) :: q) (fun p hp => by
    rcases List.mem_cons.1 hp with e | hp
    · rw [e]; exact hx.sp
    · exact hq p hp) h2
theorem ShrM.aft {r : Rul} {x x' : Leg} (hx : LgIn x' x) {m m' : Mb} (h : ShrM m m') (hc : canM r x m = true) (hc' : canM r x' m' = true) : ShrM (aftM x m) (aftM x' m') := by
  obtain ⟨q, e1, e2, hq⟩ := h.ts
  refine ⟨h.f, h.u, h.ps, (lngS x.t, lngS x'.t) :: q, by rw [aftM_ts hc, e1]; rfl, by rw [aftM_ts hc', e2]; rfl, fun p hp => ?_⟩
  rcases List.mem_cons.1 hp with e | hp
  · rw [e]; exact hx.sp
  · exact hq p hp
def ShrMs (ms ms' : List Mb) : Prop := ms'.length = ms.length ∧ ∀ i, i < ms.length → ShrM (nth ms i) (nth ms' i)
-- a team of members who have not worked yet
def teamS : List Slr → Prop := fun ss => ∀ s ∈ ss, s = ⟨0, 20160, [], []⟩
theorem teamS.ok {ss : List Slr} (h : teamS ss) : ∀ s ∈ ss, okSlr s = true := fun s hs => by rw [h s hs]; kernel_rfl
theorem teamS.at {ss : List Slr} (h : teamS ss) {i : Nat} (hi : i < ss.length) : nth (ss.map boardP) i = ⟨0, 20160, [], []⟩ := by
  rw [nth_map2 _ hi, h _ (nth_mem hi)]; rfl
theorem teamS.shr {ss : List Slr} (h : teamS ss) : ShrMs (ss.map boardP) (ss.map boardP) := ⟨rfl, fun i hi => by
  rw [List.length_map] at hi
  rw [h.at hi]; exact ⟨rfl, rfl, rfl, [], rfl, rfl, fun p hp => by cases hp⟩⟩
end Go.Proofs.YtclinbbghnebaaaGreat
namespace Go.Proofs.YtclinbbghnebaaaGreat
open Go Go.RowKit
set_option maxRecDepth 10000

/-- A run of a hectometer row: speeds and waiting. -/
structure Stp where
  lo : Int
  hi : Int
  c : Int
instance : Inhabited Stp := ⟨⟨default, default, default⟩⟩
-- the law's arguments
structure W3 where
  a : Int
  b : Int
  c : Int
instance : Inhabited W3 := ⟨⟨default, default, default⟩⟩
end Go.Proofs.YtclinbbghnebaaaGreat
namespace Go.Proofs.YtclinbbghnebaaaGreat
open Go Go.RowKit Go.Proofs.Tryz
set_option maxRecDepth 10000
section
variable {P : Program} {ops : Array Oper} {Q : Exit → Act → World → Prop} {N : Nat} {ds : List Deferred} {rest : List Oper} {L : Slots} {w : World} {rd : Option Nat} {d : Nat} {ty : TypeId} {pos : String} {aft : Array Edge} {gd : Option (Nat × Bool)}
/-- A remainder whose value is known. -/
theorem t_remV {xt yt : TypeId} {x y : Operand} {m n : Int} (q : Int) (hg : grd ops L gd = true) (hN : Nat.blt d N = true) (hx : ev L x = some (.int .i64 m)) (hy : ev L y = some (.int .i64 n)) (hn : n ≠ 0) (hq : m.tmod n = q) (hr : -9223372036854775808 ≤ q ∧ q ≤ 9223372036854775807)
    (h : WL rd P ops Q N ds rest ((d, .int .i64 q) :: L) w) : WL rd P ops Q N ds (⟨some d, .binOp .rem xt x y yt, ty, pos, aft, gd⟩ :: rest) L w :=
  WL.value hg rfl hN (fun a ha => by
    have e1 := ha.ev hx
    have e2 := ha.ev hy
    have e3 : IntKind.i64.wrap (m.tmod n) = q := by rw [hq]; exact IntWalk.i64_in _ hr
    simp [execOp, e1, e2, eqGuard, binOp, Op.intDiv, hn, hq]) h
end
theorem own224 : Own Tryz.prog 224 := ⟨Tryz.f224, func224, by kernel_rfl, by kernel_rfl⟩
theorem own273 : Own Tryz.prog 273 := ⟨Tryz.f273, func273, by kernel_rfl, by kernel_rfl⟩
theorem own276 : Own Tryz.prog 276 := ⟨Tryz.f276, func276, by kernel_rfl, by kernel_rfl⟩

theorem rwithin1_c (lo hi n : Int) (b c : Nat) (t1 t2 : TypeId) (w0 : World) (hb : Blk w0 b t1 [.int .i64 lo]) (hc : Blk w0 c t2 [.int .i64 hi]) :
    CallsV Tryz.prog 273 [.int .i64 n, .pointer (some ⟨b, 0, none⟩), .pointer (some ⟨c, 0, none⟩)] w0 (fun v w' => v = .bool (out1 lo hi n) ∧ Ext w0 w') := by
 refine f_n func273 ?_
 refine go ?_
 refine t_splitp 8 rfl (fun g8 => ?_) (fun g8 => ?_)
 ·
  refine go ?_
  refine f_1 results273 ?_
  exact ⟨by simp [out1, *], u_d⟩
 refine go ?_
 refine f_1 results273 ?_
 exact ⟨by simp [out1, *], u_d⟩

theorem rwithin_c (lo hi : Int) (xs : List Int) (ao : Option Addr) (b o cap : Nat) (w0 : World) (hs : Sl encI 1 w0 ao b o xs) (hl : xs.length ≤ 1000000) :
    CallsV Tryz.prog 222 [.int .i64 lo, .int .i64 hi, .slice ao xs.length cap] w0 (fun v w' => v = .bool (decide (∀ n ∈ xs, lo ≤ n ∧ n ≤ hi)) ∧ Ext w0 w') := by
 refine f_n func222 ?_
 refine go ?_
 refine x_b fun bk2 w3 ebk2 sbk2 B4 u5 => ?_
 refine x_b fun bk7 w8 ebk7 sbk7 B9 u10 => ?_
 refine go ?_
 refine t_mkfunc (vs := []) (us := [.pointer (some ⟨bk2, 0, none⟩), .pointer (some ⟨bk7, 0, none⟩)]) rfl rfl rfl rfl ?_
 have B13 := (B4.kx u10)
 refine x_c func82 rfl rfl (containsI_c (out1 lo hi) 273 [.pointer (some ⟨bk2, 0, none⟩), .pointer (some ⟨bk7, 0, none⟩)] xs ao b o cap _ own273 (fun x _ w u => rwithin1_c lo hi x bk2 bk7 _ _ w (B13.keep u (fun h => h)) (B9.keep u (fun h => h))) (hs.keep (((Upd.refl (fun _ => False) w0).nx u5).nx u10) (fun _ h => h)) hl) ?_
 rintro _ w15 ⟨rfl, u16⟩ zu16
 refine go ?_
 refine f_1 results222 ?_
 exact ⟨by rw [not_any_out], u_d⟩

theorem rw1_t (lo hi m : Int) (b : Nat) (t : TypeId) (w : World) (h : Blk w b t [.int .i64 m]) (hr : (lo ≤ m ∧ m ≤ hi)) : CallsV Tryz.prog 222 [.int .i64 lo, .int .i64 hi, .slice (some ⟨b, 0, none⟩) 1 1] w (fun v w' => v = .bool true ∧ Ext w w') :=
  (rwithin_c lo hi [m] _ b 0 1 w (SlI.own (xs := [m]) h) (by simp)).mono fun v w' ⟨e, u⟩ => ⟨by rw [e]; simp; omega, u⟩

theorem rw2_t (lo hi m n : Int) (b : Nat) (t : TypeId) (w : World) (h : Blk w b t [.int .i64 m, .int .i64 n]) (hr : (lo ≤ m ∧ m ≤ hi) ∧ (lo ≤ n ∧ n ≤ hi)) : CallsV Tryz.prog 222 [.int .i64 lo, .int .i64 hi, .slice (some ⟨b, 0, none⟩) 2 2] w (fun v w' => v = .bool true ∧ Ext w w') :=
  (rwithin_c lo hi [m, n] _ b 0 2 w (SlI.own (xs := [m, n]) h) (by simp)).mono fun v w' ⟨e, u⟩ => ⟨by rw [e]; simp; omega, u⟩

structure Bnd2 where
  lo : Int
  hi : Int
instance : Inhabited Bnd2 := ⟨⟨default, default⟩⟩
def encBd2 (x : Bnd2) : List Value := [.int .i64 x.lo, .int .i64 x.hi]
def encRt (x : Bnd2) : List Value := [.int .i64 x.lo, .int .i64 x.hi]
def cvR : List Bnd2 := [⟨0, 100⟩, ⟨10000, 300⟩]

theorem indexBd_c {α : Type} [Inhabited α] (enc : α → List Value) (hk : ∀ x, (enc x).length = 2) (p : α → Bool) (fv : FuncId) (caps : List Value) (xs : List α) (ao : Option Addr) (b o cap : Nat) (w0 : World) (ho : Own Tryz.prog fv) (hp : ∀ x ∈ xs, ∀ w, Ext w0 w → CallsV Tryz.prog fv ([.agg (enc x).toArray] ++ caps) w fun v w' => v = .bool (p x) ∧ Ext w w') (hs : Sl enc 2 w0 ao b o xs) (hl : xs.length ≤ 1000000) :
    CallsV Tryz.prog 274 [.slice ao xs.length cap, .func (.func fv) #[] (caps).toArray] w0 (fun v w' => (∃ n : Int, v = .int .i64 n ∧ decide (0 ≤ n) = xs.any p) ∧ Ext w0 w') := by
 refine f_n func274 ?_
 refine go ?_
 refine x_l1 (fun _ => False) [0, 1, 7] (fun (k : Nat) => [(8, .int .i64 (k : Int))]) (fun k w => (k ≤ xs.length) ∧ ((xs.take k).any p = false)) (fun k => xs.length - k) 0 ⟨Nat.zero_le _, (by simp)⟩ ?_
 rintro k w5 ⟨hle, hnot⟩ u6 zu6 K4 hK4
 have E7 := Sc.mk ((Upd.refl (fun _ => False) w0).nx u6)
 refine go ?_
 refine q_p (fun g9 => ?_) fun g9 => ?_
 ·
  refine go ?_
  refine g_i k (hs.keep E7.u (fun _ h => h)) (fun _ => ?_)
  refine t_loadN (vs := enc (nth xs k)) isAgg28 sizeOf28 rfl rfl rfl ((hs.keep E7.u (fun _ h => h)).at_ k (by omega)) (hk _) (t_call (fs := []) (cs := caps) ho rfl rfl rfl rfl (hp (nth xs k) (nth_mem (by omega)) _ E7.u) (fun v14 w15 r17 => ?_))
  obtain ⟨rfl, u16⟩ := r17
  have zu16 := u16.size
  refine go ?_
  refine q_b (fun g16 => ?_) fun g16 => ?_
  ·
   refine go ?_
   refine f_1 results274 ?_
   exact ⟨⟨_, rfl, any_hit (by omega) g16⟩, u_d⟩
  refine go ?_
  exact hK4 (k + 1) ⟨(by omega), (any_snoc (by omega) hnot g16)⟩
 refine go ?_
 refine f_1 results274 ?_
 exact ⟨⟨_, rfl, any_none (by omega) hnot⟩, u_d⟩

theorem containsBd_c {α : Type} [Inhabited α] (enc : α → List Value) (hk : ∀ x, (enc x).length = 2) (p : α → Bool) (fv : FuncId) (caps : List Value) (xs : List α) (ao : Option Addr) (b o cap : Nat) (w0 : World) (ho : Own Tryz.prog fv) (hp : ∀ x ∈ xs, ∀ w, Ext w0 w → CallsV Tryz.prog fv ([.agg (enc x).toArray] ++ caps) w fun v w' => v = .bool (p x) ∧ Ext w w') (hs : Sl enc 2 w0 ao b o xs) (hl : xs.length ≤ 1000000) :
    CallsV Tryz.prog 223 [.slice ao xs.length cap, .func (.func fv) #[] (caps).toArray] w0 (fun v w' => v = .bool (xs.any p) ∧ Ext w0 w') := by
 refine f_n func223 ?_
 refine go ?_
 refine x_c func274 rfl rfl (indexBd_c enc hk p fv caps xs ao b o cap _ ho hp hs hl) ?_
 rintro _ w4 ⟨⟨n, rfl, hn⟩, u5⟩ zu5
 refine go ?_
 refine f_1 results223 ?_
 exact ⟨by rw [hn], u_d⟩

theorem rvalid1_c (lo hi a b : Int) (p q : Nat) (t1 t2 : TypeId) (w0 : World) (hb : Blk w0 p t1 [.int .i64 lo]) (hc : Blk w0 q t2 [.int .i64 hi]) (hr : a ≤ b ∧ (lo ≤ a ∧ a ≤ hi) ∧ (lo ≤ b ∧ b ≤ hi)) :
    CallsV Tryz.prog 224 [.agg #[.int .i64 a, .int .i64 b], .pointer (some ⟨p, 0, none⟩), .pointer (some ⟨q, 0, none⟩)] w0 (fun v w' => v = .bool false ∧ Ext w0 w') := by
 refine f_n func224 ?_
 refine go ?_
 refine x_b fun bk2 w3 ebk2 sbk2 B4 u5 => ?_
 iterate 10 refine st1 ?_
 refine t_same 9 (v := .bool false) rfl (congrArg Value.bool (decide_eq_false (by omega))) ?_
 refine go ?_
 refine x_l fun bk8 w9 ebk8 sbk8 B10 u11 => ?_
 refine x_c func222 rfl rfl (rw2_t lo hi a b _ _ _ B10 (by omega)) ?_
 rintro _ w14 ⟨rfl, u15⟩ zu15
 refine go ?_
 refine f_1 results224 ?_
 exact ⟨rfl, u_d⟩

theorem rvalid_c (lo hi a b : Int) (g : Nat) (w0 : World) (hs : Blk w0 g 28 [.int .i64 a, .int .i64 b]) (hr : a ≤ b ∧ (lo ≤ a ∧ a ≤ hi) ∧ (lo ≤ b ∧ b ≤ hi)) :
    CallsV Tryz.prog 177 [.int .i64 lo, .int .i64 hi, .slice (some ⟨g, 0, none⟩) 1 1] w0 (fun v w' => v = .bool true ∧ Ext w0 w') := by
 have hx : Sl encBd2 2 w0 (some ⟨g, 0, none⟩) g 0 [⟨a, b⟩] := Sl.ofBlk (enc := encBd2) (xs := [⟨a, b⟩]) (fun _ => rfl) hs
 refine f_n func177 ?_
 refine go ?_
 refine x_b fun bk2 w3 ebk2 sbk2 B4 u5 => ?_
 refine x_b fun bk7 w8 ebk7 sbk7 B9 u10 => ?_
 refine go ?_
 refine t_mkfunc (vs := []) (us := [.pointer (some ⟨bk2, 0, none⟩), .pointer (some ⟨bk7, 0, none⟩)]) rfl rfl rfl rfl ?_
 have B13 := (B4.kx u10)
 have hc9 := containsBd_c encBd2 (fun _ => rfl) (fun _ => false) 224 [.pointer (some ⟨bk2, 0, none⟩), .pointer (some ⟨bk7, 0, none⟩)] [⟨a, b⟩] (some ⟨g, 0, none⟩) g 0 1 w8 own224 (fun x hx w u => by
   obtain rfl := List.mem_singleton.1 hx
   exact rvalid1_c lo hi a b bk2 bk7 _ _ w (B13.keep u (fun h => h)) (B9.keep u (fun h => h)) hr) (hx.keep (((Upd.refl (fun _ => False) w0).nx u5).nx u10) (fun _ h => h)) (by simp)
 refine x_c func223 rfl rfl hc9 ?_
 rintro _ w15 ⟨rfl, u16⟩ zu16
 refine go ?_
 refine f_1 results177 ?_
 exact ⟨rfl, u_d⟩

theorem rcheck_c (dl bl bh fl : Int) (g : Nat) (w0 : World) (hcv : Sl encRt 2 w0 (some ⟨g, 0, none⟩) g 0 cvR) (hd : 0 ≤ dl ∧ dl ≤ 200) (hb : bl ≤ bh ∧ (0 ≤ bl ∧ bl ≤ 10000000000) ∧ (0 ≤ bh ∧ bh ≤ 10000000000)) (hf : 0 ≤ fl ∧ fl ≤ 10000) :
    CallsV Tryz.prog 176 [.agg #[.int .i64 100, .int .i64 dl, .int .i64 bl, .int .i64 bh, .slice (some ⟨g, 0, none⟩) 2 2, .int .i64 0, .int .i64 50, .int .i64 60, .int .i64 fl]] w0 (fun v w' => v = .int .i64 0 ∧ Ext w0 w') := by
 refine f_n func176 ?_
 refine go ?_
 refine x_b fun bk2 w3 ebk2 sbk2 B4 u5 => ?_
 refine go ?_
 refine x_l fun bk10 w11 ebk10 sbk10 B12 u13 => ?_
 refine x_c func222 rfl rfl (rw1_t 1 5000 100 _ _ _ B12 (by omega)) ?_
 rintro _ w16 ⟨rfl, u17⟩ zu17
 refine go ?_
 refine x_l fun bk20 w21 ebk20 sbk20 B22 u23 => ?_
 refine x_c func222 rfl rfl (rw1_t 0 200 dl _ _ _ B22 (by omega)) ?_
 rintro _ w26 ⟨rfl, u27⟩ zu27
 refine go ?_
 refine x_l fun bk30 w31 ebk30 sbk30 B32 u33 => ?_
 refine x_c func177 rfl rfl (rvalid_c 0 10000000000 bl bh bk30 _ B32 (by omega)) ?_
 rintro _ w36 ⟨rfl, u37⟩ zu37
 refine go ?_
 refine x_l fun bk40 w41 ebk40 sbk40 B42 u43 => ?_
 refine x_c func222 rfl rfl (rw1_t 2 30 2 _ _ _ B42 (by omega)) ?_
 rintro _ w46 ⟨rfl, u47⟩ zu47
 refine go ?_
 refine x_l fun bk50 w51 ebk50 sbk50 B52 u53 => ?_
 refine x_c func222 rfl rfl (rw2_t 0 10000 0 fl _ _ _ B52 (by omega)) ?_
 rintro _ w56 ⟨rfl, u57⟩ zu57
 refine go ?_
 refine x_l fun bk60 w61 ebk60 sbk60 B62 u63 => ?_
 refine x_c func177 rfl rfl (rvalid_c 0 10000 50 60 bk60 _ B62 (by omega)) ?_
 rintro _ w66 ⟨rfl, u67⟩ zu67
 refine go ?_
 refine x_n fun bk71 w72 ebk71 sbk71 B73 u74 => ?_
 refine x_s fun w76 sw76 B78 u77 => ?_
 have E79 := Sc.mk ((((((((((((((((Upd.refl (fun _ => False) w0).nx u5).nx u13).nx u17).nx u23).nx u27).nx u33).nx u37).nx u43).nx u47).nx u53).nx u57).nx u63).nx u67).nx u74).next u77 (fun i hi h => by omega))
 refine go ?_
 refine c_rounds 3 (WR.weak [(4, .pointer (some ⟨bk71, 0, none⟩)), (53, .slice (some ⟨g, 0, none⟩) 2 2), (54, .int .i64 2), (55, .int .i64 0)] ⟨rfl, rfl, rfl, rfl, trivial⟩ (r_round fun K82 hK82 => (q_of ?_)))
 refine go ?_
 have i87 : 0 < cvR.length := (by decide)
 refine g_i 0 (hcv.keep E79.u (fun _ h => h)) (fun _ => ?_)
 refine st1 ?_
 refine t_same 58 (v := .agg #[.int .i64 0, .int .i64 100]) rfl rfl ?_
 refine x_n fun bk88 w89 ebk88 sbk88 B90 u91 => ?_
 refine x_s fun w93 sw93 B95 u94 => ?_
 refine go ?_
 refine x_l fun bk99 w100 ebk99 sbk99 B101 u102 => ?_
 refine x_c func222 rfl rfl (rw1_t (-1 + 1) 10000000000 0 _ _ _ B101 (by omega)) ?_
 rintro _ w105 ⟨rfl, u106⟩ zu106
 refine go ?_
 refine x_l fun bk109 w110 ebk109 sbk109 B111 u112 => ?_
 refine x_c func222 rfl rfl (rw1_t 0 10000 100 _ _ _ B111 (by omega)) ?_
 rintro _ w115 ⟨rfl, u116⟩ zu116
 refine go ?_
 refine x_s fun w119 sw119 B121 u120 => ?_
 refine go ?_
 refine hK82 _ _ (WR.weak [(4, .pointer (some ⟨bk71, 0, none⟩)), (53, .slice (some ⟨g, 0, none⟩) 2 2), (54, .int .i64 2), (55, .int .i64 1)] ⟨rfl, rfl, rfl, rfl, trivial⟩ (r_round fun K123 hK123 => (q_of ?_)))
 refine go ?_
 have i128 : 1 < cvR.length := (by decide)
 refine g_i 1 (hcv.keep (((((((E79.u.nx u91).next u94 (fun i hi h => by omega)).nx u102).nx u106).nx u112).nx u116).next u120 (fun i hi h => by omega)) (fun _ h => h)) (fun _ => ?_)
 refine st1 ?_
 refine t_same 58 (v := .agg #[.int .i64 10000, .int .i64 300]) rfl rfl ?_
 refine x_n fun bk129 w130 ebk129 sbk129 B131 u132 => ?_
 refine x_s fun w134 sw134 B136 u135 => ?_
 refine go ?_
 refine x_l fun bk140 w141 ebk140 sbk140 B142 u143 => ?_
 refine x_c func222 rfl rfl (rw1_t 1 10000000000 10000 _ _ _ B142 (by omega)) ?_
 rintro _ w146 ⟨rfl, u147⟩ zu147
 refine go ?_
 refine x_l fun bk150 w151 ebk150 sbk150 B152 u153 => ?_
 refine x_c func222 rfl rfl (rw1_t 100 10000 300 _ _ _ B152 (by omega)) ?_
 rintro _ w156 ⟨rfl, u157⟩ zu157
 refine go ?_
 refine x_s fun w160 sw160 B162 u161 => ?_
 refine go ?_
 refine hK123 _ _ (WR.weak [(4, .pointer (some ⟨bk71, 0, none⟩)), (53, .slice (some ⟨g, 0, none⟩) 2 2), (54, .int .i64 2), (55, .int .i64 2)] ⟨rfl, rfl, rfl, rfl, trivial⟩ (r_round fun K164 hK164 => (q_of ?_)))
 refine go ?_
 refine f_1 results176 ?_
 exact ⟨rfl, u_d⟩

theorem down1_c  (w0 : World) :
    CallsV Tryz.prog 226 [.int .i64 400000, .int .i64 10000] w0 (fun v w' => v = .int .i64 40 ∧ Ext w0 w') := by
 refine f_n func226 ?_
 refine go ?_
 refine c_drawnM follows (fun _ => False) (OTl [0, 2, 4, 6, 8, 10, 12, 14]) (by kernel_rfl) fun w3 u4 => ?_
 have zu4 := u4.size
 refine go ?_
 refine y_quo rfl rfl rfl rfl (by omega) (by omega) (y_same 9 (v := .int .i64 40) rfl rfl ?_)
 refine go ?_
 refine y_rem rfl rfl rfl rfl (by omega) (by omega) (y_same 12 (v := .int .i64 0) rfl rfl ?_)
 refine go ?_
 refine f_1 results226 ?_
 exact ⟨rfl, u_d⟩

theorem down2_c  (w0 : World) :
    CallsV Tryz.prog 226 [.int .i64 (-600000), .int .i64 10000] w0 (fun v w' => v = .int .i64 (-60) ∧ Ext w0 w') := by
 refine f_n func226 ?_
 refine go ?_
 refine c_drawnM follows (fun _ => False) (.look 0 (.look 1 (.look 3 (.look 4 (.act 2 (.look 6 (.act 5 (.look 7 .done) .stop)) (.act 5 (.act 2 (.look 6 (.look 7 .done)) .stop) .stop)))))) (by kernel_rfl) fun w3 u4 => ?_
 have zu4 := u4.size
 refine go ?_
 refine s_or ?_ ?_
 ·
  refine go ?_
  refine t_quoV (-60) rfl rfl rfl rfl (by decide) (by decide) (by decide) ?_
  refine go ?_
  refine t_remV 0 rfl rfl rfl rfl (by decide) (by decide) (by decide) ?_
  refine go ?_
  refine f_1 results226 ?_
  exact ⟨rfl, u_d⟩
 refine go ?_
 refine t_remV 0 rfl rfl rfl rfl (by decide) (by decide) (by decide) ?_
 refine go ?_
 refine t_quoV (-60) rfl rfl rfl rfl (by decide) (by decide) (by decide) ?_
 refine go ?_
 refine f_1 results226 ?_
 exact ⟨rfl, u_d⟩

theorem up_c  (w0 : World) :
    CallsV Tryz.prog 227 [.int .i64 600000, .int .i64 10000] w0 (fun v w' => v = .int .i64 60 ∧ Ext w0 w') := by
 refine f_n func227 ?_
 refine go ?_
 refine t_neg rfl rfl rfl (by omega) (t_same 6 (v := .int .i64 (-600000)) rfl rfl ?_)
 refine go ?_
 refine x_c func226 rfl rfl (down2_c _) ?_
 rintro _ w4 ⟨rfl, u5⟩ zu5
 refine t_neg rfl rfl rfl (by omega) (t_same 9 (v := .int .i64 60) rfl rfl ?_)
 refine go ?_
 refine f_1 results227 ?_
 exact ⟨rfl, u_d⟩

theorem at1_c (i : Nat) (fl : Int) (g p q : Nat) (w0 : World) (hi : i < 2) (hcv : Sl encRt 2 w0 (some ⟨g, 0, none⟩) g 0 cvR) (hp : Blk w0 p 252 [.slice (some ⟨g, 0, none⟩) 2 2]) (hq : Blk w0 q 3 [.int .i64 fl]) :
    CallsV Tryz.prog 276 [.int .i64 (i : Int), .pointer (some ⟨p, 0, none⟩), .pointer (some ⟨q, 0, none⟩)] w0 (fun v w' => v = .bool (decide (fl < (nth cvR i).lo)) ∧ Ext w0 w') := by
 refine f_n func276 ?_
 refine go ?_
 refine c_drawnM follows (fun _ => False) (OTl [0, 2, 4, 6, 8, 10, 12, 14]) (by kernel_rfl) fun w3 u4 => ?_
 have zu4 := u4.size
 refine go ?_
 have i6 : i < cvR.length := hi
 refine y_i i (hcv.keep ((Upd.refl (fun _ => False) w0).nx u4) (fun _ h => h)) (fun _ => ?_)
 refine go ?_
 refine f_1 results276 ?_
 exact ⟨rfl, u_d⟩

theorem at_r {fl r : Int} (hf : 0 ≤ fl ∧ fl < 10000) (h0 : 0 ≤ r) (h1 : r ≤ 2) (h2 : 0 < r → decide (fl < (nth cvR (r - 1).toNat).lo) = false) (h3 : r < 2 → decide (fl < (nth cvR r.toNat).lo) = true) : r = 1 := by
  have e : r = 0 ∨ r = 1 ∨ r = 2 := by omega
  rcases e with rfl | rfl | rfl
  · have := of_decide_eq_true (h3 (by decide))
    have e9 : (nth cvR (0 : Int).toNat).lo = 0 := rfl
    omega
  · rfl
  · have := of_decide_eq_false (h2 (by decide))
    have e9 : (nth cvR ((2 : Int) - 1).toNat).lo = 10000 := rfl
    omega
theorem atS_c (fl : Int) (g p q : Nat) (w : World) (hf : 0 ≤ fl ∧ fl < 10000) (hcv : Sl encRt 2 w (some ⟨g, 0, none⟩) g 0 cvR) (hp : Blk w p 252 [.slice (some ⟨g, 0, none⟩) 2 2]) (hq : Blk w q 3 [.int .i64 fl]) :
    CallsV Tryz.prog 275 [.int .i64 2, .func (.func 276) #[] #[.pointer (some ⟨p, 0, none⟩), .pointer (some ⟨q, 0, none⟩)]] w (fun v w' => v = .int .i64 1 ∧ Ext w w') :=
  (search_c 2 (fun x => decide (fl < (nth cvR x.toNat).lo)) 276 [.pointer (some ⟨p, 0, none⟩), .pointer (some ⟨q, 0, none⟩)] w (by decide) own276 (fun x hx W u => by
    obtain ⟨i, rfl⟩ : ∃ i : Nat, x = (i : Int) := ⟨x.toNat, by omega⟩
    exact at1_c i fl g p q W (by omega) (hcv.keep u (fun _ h => h)) (hp.keep u (fun h => h)) (hq.keep u (fun h => h)))).mono fun v w' ⟨⟨r, e, h0, h1, h2, h3⟩, u⟩ => ⟨by rw [e, at_r hf h0 h1 h2 h3], u⟩

theorem at_c1 (g : Nat) (w0 : World) (hcv : Sl encRt 2 w0 (some ⟨g, 0, none⟩) g 0 cvR) :
    CallsV Tryz.prog 225 [.slice (some ⟨g, 0, none⟩) 2 2, .int .i64 2000, .func (.func 226) #[] #[]] w0 (fun v w' => v = .int .i64 140 ∧ Ext w0 w') := by
 refine f_n func225 ?_
 refine go ?_
 refine x_b fun bk2 w3 ebk2 sbk2 B4 u5 => ?_
 refine x_b fun bk7 w8 ebk7 sbk7 B9 u10 => ?_
 have E11 := Sc.mk (((Upd.refl (fun _ => False) w0).nx u5).nx u10)
 refine go ?_
 refine t_mkfunc (vs := []) (us := [.pointer (some ⟨bk2, 0, none⟩), .pointer (some ⟨bk7, 0, none⟩)]) rfl rfl rfl rfl ?_
 have B13 := (B4.kx u10)
 refine x_c func275 rfl rfl (atS_c 2000 g bk2 bk7 _ (by omega) (hcv.keep E11.u (fun _ h => h)) B13 B9) ?_
 rintro _ w15 ⟨rfl, u16⟩ zu16
 refine go ?_
 refine c_drawnM follows (fun _ => False) (.look 0 (.look 1 (.look 2 (.look 3 (.look 4 (.look 5 (.look 6 (.look 7 (.look 8 (.act 9 (.act 10 (.act 11 (.act 12 .done .stop) .stop) .stop) (.act 10 (.act 9 (.act 11 (.act 12 .done .stop) .stop) .stop) .stop))))))))))) (by kernel_rfl) fun w24 u25 => ?_
 have zu25 := u25.size
 have E26 := Sc.mk ((E11.u.nx u16).nx u25)
 refine go ?_
 have i27 : 0 < cvR.length := (by decide)
 refine y_i 0 (hcv.keep E26.u (fun _ h => h)) (fun _ => ?_)
 refine st1 ?_
 refine y_same 35 (v := .agg #[.int .i64 0, .int .i64 100]) rfl rfl ?_
 refine go ?_
 have i28 : 1 < cvR.length := (by decide)
 refine y_i 1 (hcv.keep E26.u (fun _ h => h)) (fun _ => ?_)
 refine st1 ?_
 refine y_same 39 (v := .agg #[.int .i64 10000, .int .i64 300]) rfl rfl (s_or ?_ ?_)
 ·
  refine go ?_
  refine x_n fun bk29 w30 ebk29 sbk29 B31 u32 => ?_
  refine go ?_
  refine x_n fun bk34 w35 ebk34 sbk34 B36 u37 => ?_
  refine go ?_
  refine x_s fun w39 sw39 B41 u40 => ?_
  refine go ?_
  refine x_s fun w43 sw43 B45 u44 => ?_
  refine go ?_
  refine c_drawnM follows (fun _ => False) (OTl [0, 2, 4, 6, 8, 10, 12, 14, 16, 18, 20, 22, 24, 26, 28, 30, 32, 34, 37, 38, 40]) (by kernel_rfl) fun w48 u49 => ?_
  have zu49 := u49.size
  refine go ?_
  refine x_c func226 rfl rfl (down1_c _) ?_
  rintro _ w52 ⟨rfl, u53⟩ zu53
  refine go ?_
  refine f_1 results225 ?_
  exact ⟨rfl, u_d⟩
 refine go ?_
 refine x_n fun bk56 w57 ebk56 sbk56 B58 u59 => ?_
 refine go ?_
 refine x_n fun bk61 w62 ebk61 sbk61 B63 u64 => ?_
 refine go ?_
 refine x_s fun w66 sw66 B68 u67 => ?_
 refine go ?_
 refine x_s fun w70 sw70 B72 u71 => ?_
 refine go ?_
 refine c_drawnM follows (fun _ => False) (OTl [0, 2, 4, 6, 8, 10, 12, 14, 16, 18, 20, 22, 24, 26, 28, 30, 32, 34, 37, 38, 40]) (by kernel_rfl) fun w75 u76 => ?_
 have zu76 := u76.size
 refine go ?_
 refine x_c func226 rfl rfl (down1_c _) ?_
 rintro _ w79 ⟨rfl, u80⟩ zu80
 refine go ?_
 refine f_1 results225 ?_
 exact ⟨rfl, u_d⟩

theorem at_c2 (g : Nat) (w0 : World) (hcv : Sl encRt 2 w0 (some ⟨g, 0, none⟩) g 0 cvR) :
    CallsV Tryz.prog 225 [.slice (some ⟨g, 0, none⟩) 2 2, .int .i64 3000, .func (.func 227) #[] #[]] w0 (fun v w' => v = .int .i64 160 ∧ Ext w0 w') := by
 refine f_n func225 ?_
 refine go ?_
 refine x_b fun bk2 w3 ebk2 sbk2 B4 u5 => ?_
 refine x_b fun bk7 w8 ebk7 sbk7 B9 u10 => ?_
 have E11 := Sc.mk (((Upd.refl (fun _ => False) w0).nx u5).nx u10)
 refine go ?_
 refine t_mkfunc (vs := []) (us := [.pointer (some ⟨bk2, 0, none⟩), .pointer (some ⟨bk7, 0, none⟩)]) rfl rfl rfl rfl ?_
 have B13 := (B4.kx u10)
 refine x_c func275 rfl rfl (atS_c 3000 g bk2 bk7 _ (by omega) (hcv.keep E11.u (fun _ h => h)) B13 B9) ?_
 rintro _ w15 ⟨rfl, u16⟩ zu16
 refine go ?_
 refine c_drawnM follows (fun _ => False) (.look 0 (.look 1 (.look 2 (.look 3 (.look 4 (.look 5 (.look 6 (.look 7 (.look 8 (.act 9 (.act 10 (.act 11 (.act 12 .done .stop) .stop) .stop) (.act 10 (.act 9 (.act 11 (.act 12 .done .stop) .stop) .stop) .stop))))))))))) (by kernel_rfl) fun w24 u25 => ?_
 have zu25 := u25.size
 have E26 := Sc.mk ((E11.u.nx u16).nx u25)
 refine go ?_
 have i27 : 0 < cvR.length := (by decide)
 refine y_i 0 (hcv.keep E26.u (fun _ h => h)) (fun _ => ?_)
 refine st1 ?_
 refine y_same 35 (v := .agg #[.int .i64 0, .int .i64 100]) rfl rfl ?_
 refine go ?_
 have i28 : 1 < cvR.length := (by decide)
 refine y_i 1 (hcv.keep E26.u (fun _ h => h)) (fun _ => ?_)
 refine st1 ?_
 refine y_same 39 (v := .agg #[.int .i64 10000, .int .i64 300]) rfl rfl (s_or ?_ ?_)
 ·
  refine go ?_
  refine x_n fun bk29 w30 ebk29 sbk29 B31 u32 => ?_
  refine go ?_
  refine x_n fun bk34 w35 ebk34 sbk34 B36 u37 => ?_
  refine go ?_
  refine x_s fun w39 sw39 B41 u40 => ?_
  refine go ?_
  refine x_s fun w43 sw43 B45 u44 => ?_
  refine go ?_
  refine c_drawnM follows (fun _ => False) (OTl [0, 2, 4, 6, 8, 10, 12, 14, 16, 18, 20, 22, 24, 26, 28, 30, 32, 34, 37, 38, 40]) (by kernel_rfl) fun w48 u49 => ?_
  have zu49 := u49.size
  refine go ?_
  refine x_c func227 rfl rfl (up_c _) ?_
  rintro _ w52 ⟨rfl, u53⟩ zu53
  refine go ?_
  refine f_1 results225 ?_
  exact ⟨rfl, u_d⟩
 refine go ?_
 refine x_n fun bk56 w57 ebk56 sbk56 B58 u59 => ?_
 refine go ?_
 refine x_n fun bk61 w62 ebk61 sbk61 B63 u64 => ?_
 refine go ?_
 refine x_s fun w66 sw66 B68 u67 => ?_
 refine go ?_
 refine x_s fun w70 sw70 B72 u71 => ?_
 refine go ?_
 refine c_drawnM follows (fun _ => False) (OTl [0, 2, 4, 6, 8, 10, 12, 14, 16, 18, 20, 22, 24, 26, 28, 30, 32, 34, 37, 38, 40]) (by kernel_rfl) fun w75 u76 => ?_
 have zu76 := u76.size
 refine go ?_
 refine x_c func227 rfl rfl (up_c _) ?_
 rintro _ w79 ⟨rfl, u80⟩ zu80
 refine go ?_
 refine f_1 results225 ?_
 exact ⟨rfl, u_d⟩

theorem rlevel_c (dl bl bh fl : Int) (g : Nat) (w0 : World) (hcv : Sl encRt 2 w0 (some ⟨g, 0, none⟩) g 0 cvR) :
    CallsV Tryz.prog 178 [.agg #[.int .i64 100, .int .i64 dl, .int .i64 bl, .int .i64 bh, .slice (some ⟨g, 0, none⟩) 2 2, .int .i64 0, .int .i64 50, .int .i64 60, .int .i64 fl], .agg #[.int .i64 2000, .int .i64 3000]] w0 (fun v w' => v = .agg #[.int .i64 140, .int .i64 160] ∧ Ext w0 w') := by
 refine f_n func178 ?_
 refine go ?_
 refine x_b fun bk2 w3 ebk2 sbk2 B4 u5 => ?_
 refine x_b fun bk7 w8 ebk7 sbk7 B9 u10 => ?_
 refine x_n fun bk12 w13 ebk12 sbk12 B14 u15 => ?_
 refine go ?_
 refine c_drawnM follows (fun i => i = bk12) (OTl [0, 2, 4, 6, 8, 10, 16, 18, 20, 22, 24, 26, 13, 14, 29, 30, 32, 35]) (by kernel_rfl) fun w18 u19 => ?_
 have zu19 := u19.size
 have E20 := Sc.mk (((((Upd.refl (fun _ => False) w0).nx u5).nx u10).nx u15).nx u19)
 refine go ?_
 refine x_c func225 rfl rfl (at_c1 g _ (hcv.keep E20.u (fun _ h => h))) ?_
 rintro _ w22 ⟨rfl, u23⟩ zu23
 refine go ?_
 refine y_max rfl rfl rfl rfl (y_same 12 (v := .int .i64 140) rfl rfl ?_)
 refine go ?_
 refine x_c func225 rfl rfl (at_c2 g _ (hcv.keep (E20.u.nx u23) (fun _ h => h))) ?_
 rintro _ w27 ⟨rfl, u28⟩ zu28
 refine go ?_
 refine y_max rfl rfl rfl rfl (y_same 20 (v := .int .i64 160) rfl rfl ?_)
 refine go ?_
 refine x_s fun w31 sw31 B33 u32 => ?_
 refine go ?_
 refine f_ret1 (v := .agg #[.int .i64 140, .int .i64 160]) results178 ⟨_, _, rfl, run_loadVarN (vs := [.int .i64 140, .int .i64 160]) isAgg28 sizeOf28 rfl (B33.at.sub 0 2)⟩ ?_
 exact ⟨rfl, u_d⟩

theorem Level_c (dl bl bh fl : Int) (g : Nat) (w0 : World) (hcv : Sl encRt 2 w0 (some ⟨g, 0, none⟩) g 0 cvR) (hd : 0 ≤ dl ∧ dl ≤ 200) (hb : bl ≤ bh ∧ (0 ≤ bl ∧ bl ≤ 10000000000) ∧ (0 ≤ bh ∧ bh ≤ 10000000000)) (hf : 0 ≤ fl ∧ fl ≤ 10000) :
    CallsV Tryz.prog 109 [.agg #[.int .i64 100, .int .i64 dl, .int .i64 bl, .int .i64 bh, .slice (some ⟨g, 0, none⟩) 2 2, .int .i64 0, .int .i64 50, .int .i64 60, .int .i64 fl], .agg #[.int .i64 2000, .int .i64 3000]] w0 (fun v w' => v = .tuple #[.agg #[.int .i64 140, .int .i64 160], .int .i64 0] ∧ Ext w0 w') := by
 refine f_n func109 ?_
 refine go ?_
 refine x_b fun bk2 w3 ebk2 sbk2 B4 u5 => ?_
 refine x_b fun bk7 w8 ebk7 sbk7 B9 u10 => ?_
 refine x_n fun bk12 w13 ebk12 sbk12 B14 u15 => ?_
 have E16 := Sc.mk ((((Upd.refl (fun _ => False) w0).nx u5).nx u10).nx u15)
 refine go ?_
 refine x_c func176 rfl rfl (rcheck_c dl bl bh fl g _ (hcv.keep E16.u (fun _ h => h)) hd hb hf) ?_
 rintro _ w20 ⟨rfl, u21⟩ zu21
 refine go ?_
 refine x_l fun bk25 w26 ebk25 sbk25 B27 u28 => ?_
 refine x_c func177 rfl rfl (rvalid_c 0 210000000000 2000 3000 bk25 _ B27 (by omega)) ?_
 rintro _ w31 ⟨rfl, u32⟩ zu32
 refine go ?_
 refine x_c func178 rfl rfl (rlevel_c dl bl bh fl g _ (hcv.keep (((E16.u.nx u21).nx u28).nx u32) (fun _ h => h))) ?_
 rintro _ w37 ⟨rfl, u38⟩ zu38
 refine x_s fun w41 sw41 B43 u42 => ?_
 refine go ?_
 refine f_ret2 (v1 := .agg #[.int .i64 140, .int .i64 160]) (v2 := .int .i64 0) results109 ⟨_, _, rfl, run_loadVarN (vs := [.int .i64 140, .int .i64 160]) isAgg28 sizeOf28 rfl (B43.at.sub 0 2)⟩ rfl ?_
 exact ⟨rfl, u_d⟩

end Go.Proofs.YtclinbbghnebaaaGreat
namespace Go.Proofs.YtclinbbghnebaaaGreat
open Go Go.RowKit Go.Proofs.Tryz
set_option maxRecDepth 10000

structure Sx where
  c : Nat
  h : Nat
instance : Inhabited Sx := ⟨⟨default, default⟩⟩
end Go.Proofs.YtclinbbghnebaaaGreat
