/-
  Part 17 of the proof: contracts and plain laws. Conditions: none.
-/
import Derived.Test.YtclinbbghnebaaaGreatCK16
namespace Go.Proofs.YtclinbbghnebaaaGreat
open Go Go.RowKit
set_option maxRecDepth 10000

theorem brok0 {r : Rul} {l : List Sp} : brokP r l = 0 ↔ ovlP 0 l = false ∧ (∀ x ∈ shiftsP r l, x.e - x.b ≤ r.span ∧ x.w ≤ r.work) ∧ ∀ s ∈ l, winP r l s.e ≤ r.ww := by
  unfold brokP
  constructor
  · intro h
    by_cases h1 : ovlP 0 l = true
    · rw [if_pos h1] at h; omega
    rw [if_neg h1] at h
    by_cases h2 : ((shiftsP r l).any fun x => decide (r.span < x.e - x.b)) = true
    · rw [if_pos h2] at h; omega
    rw [if_neg h2] at h
    by_cases h3 : ((shiftsP r l).any fun x => decide (r.work < x.w)) = true
    · rw [if_pos h3] at h; omega
    rw [if_neg h3] at h
    by_cases h4 : (l.any fun s => decide (r.ww < winP r l s.e)) = true
    · rw [if_pos h4] at h; omega
    simp only [List.any_eq_true, decide_eq_true_eq, not_exists, not_and, Int.not_lt] at h2 h3 h4
    exact ⟨by simpa using h1, fun x hx => ⟨h2 x hx, h3 x hx⟩, h4⟩
  · rintro ⟨h1, h2, h3⟩
    rw [if_neg (by simp [h1]), if_neg, if_neg, if_neg]
    · simp only [List.any_eq_true, decide_eq_true_eq, not_exists, not_and, Int.not_lt]; exact h3
    · simp only [List.any_eq_true, decide_eq_true_eq, not_exists, not_and, Int.not_lt]; exact fun x hx => (h2 x hx).2
    · simp only [List.any_eq_true, decide_eq_true_eq, not_exists, not_and, Int.not_lt]; exact fun x hx => (h2 x hx).1
theorem brok_rng (r : Rul) (l : List Sp) : 0 ≤ brokP r l ∧ brokP r l ≤ 4 := by unfold brokP; repeat' split <;> omega
/-- Times one after another. -/
def Lin (l : List Sp) : Prop := l.Pairwise (fun x y => x.e ≤ y.b)
theorem ovl_lin : ∀ {l : List Sp} {e : Int}, ovlP e l = false ↔ (∀ x ∈ l, e ≤ x.b) ∧ Lin l
  | [], e => by simp [ovlP, Lin]
  | s :: l, e => by
    have ih := ovl_lin (l := l) (e := max e s.e)
    unfold ovlP
    rw [Bool.or_eq_false_iff, ih]
    unfold Lin
    rw [List.pairwise_cons]
    simp only [decide_eq_false_iff_not, List.mem_cons]
    constructor
    · rintro ⟨h1, h2, h3⟩
      refine ⟨fun x hx => ?_, fun x hx => ?_, h3⟩
      · rcases hx with e | hx
        · subst e; omega
        · have := h2 x hx; omega
      · have := h2 x hx; omega
    · rintro ⟨h1, h2, h3⟩
      refine ⟨by have := h1 s (.inl rfl); omega, fun x hx => ?_, h3⟩
      have := h1 x (.inr hx); have := h2 x hx; omega
/-- Times of which some are left out, and the others are shorter. -/
inductive Shr : List Sp → List Sp → Prop
  | nil : Shr [] []
  | drop (s : Sp) {l' l : List Sp} : Shr l' l → Shr l' (s :: l)
  | keep {s' s : Sp} {l' l : List Sp} : s.b ≤ s'.b → s'.b ≤ s'.e → s'.e ≤ s.e → Shr l' l → Shr (s' :: l') (s :: l)
theorem Shr.refl : ∀ {l : List Sp}, (∀ x ∈ l, OkSp x) → Shr l l
  | [], _ => .nil
  | s :: l, h => .keep (Int.le_refl _) (h s (by simp)).2.1 (Int.le_refl _) (Shr.refl fun x hx => h x (by simp [hx]))
theorem Shr.mem {l' l : List Sp} (h : Shr l' l) : ∀ {x'}, x' ∈ l' → ∃ x, x ∈ l ∧ x.b ≤ x'.b ∧ x'.b ≤ x'.e ∧ x'.e ≤ x.e := by
  induction h with
  | nil => intro x' hx; cases hx
  | drop s _ ih => intro x' hx; obtain ⟨x, h1, h2⟩ := ih hx; exact ⟨x, by simp [h1], h2⟩
  | keep h1 h2 h3 _ ih =>
    intro x' hx
    rcases List.mem_cons.1 hx with e | hx
    · subst e; exact ⟨_, by simp, h1, h2, h3⟩
    · obtain ⟨x, h4, h5⟩ := ih hx; exact ⟨x, by simp [h4], h5⟩
theorem Shr.ok {l' l : List Sp} (h : Shr l' l) (hl : ∀ x ∈ l, OkSp x) : ∀ x ∈ l', OkSp x := fun x' hx => by
  obtain ⟨x, h1, h2, h3, h4⟩ := h.mem hx
  have := hl x h1
  unfold OkSp at this ⊢; omega
theorem Shr.lin {l' l : List Sp} (h : Shr l' l) (hl : Lin l) : Lin l' := by
  induction h with
  | nil => exact List.Pairwise.nil
  | drop s _ ih => exact ih (List.Pairwise.of_cons hl)
  | @keep s' s l' l h1 h2 h3 hr ih =>
    refine List.Pairwise.cons (fun y hy => ?_) (ih (List.Pairwise.of_cons hl))
    obtain ⟨x, h4, h5, _⟩ := hr.mem hy
    have : s.e ≤ x.b := List.rel_of_pairwise_cons hl h4
    omega
theorem lin_srt {l : List Sp} (h : Lin l) (hl : ∀ x ∈ l, OkSp x) : Srt l := by
  induction l with
  | nil => exact List.Pairwise.nil
  | cons s l ih =>
    refine List.Pairwise.cons (fun y hy => ?_) (ih (List.Pairwise.of_cons h) fun x hx => hl x (by simp [hx]))
    have h1 : s.e ≤ y.b := List.rel_of_pairwise_cons h hy
    have h2 := hl s (by simp); have h3 := hl y (by simp [hy])
    unfold OkSp at h2 h3; unfold LtS; omega
/-- Rules that are not harder. -/
def Mild (r r' : Rul) : Prop := r'.rest ≤ r.rest ∧ r.span ≤ r'.span ∧ r.work ≤ r'.work ∧ r.week = r'.week ∧ r.ww ≤ r'.ww
theorem Mild.refl (r : Rul) : Mild r r := ⟨Int.le_refl _, Int.le_refl _, Int.le_refl _, rfl, Int.le_refl _⟩
/-- A shift is short enough. -/
def ShOk (r : Rul) (x : Shf) : Prop := x.e - x.b ≤ r.span ∧ x.w ≤ r.work
def GoOk (r : Rul) (x : Shf) (l : List Sp) : Prop := ∀ y ∈ shGo r x l, ShOk r y
theorem goOk_nil {r : Rul} {x : Shf} : GoOk r x [] ↔ ShOk r x := by unfold GoOk shGo; simp
theorem goOk_cons {r : Rul} {x : Shf} {s : Sp} {l : List Sp} : GoOk r x (s :: l) ↔ if s.b < x.e + r.rest then GoOk r ⟨x.b, max x.e s.e, x.w + (s.e - s.b)⟩ l else ShOk r x ∧ GoOk r ⟨s.b, s.e, s.e - s.b⟩ l := by
  unfold GoOk
  rw [shGo]
  split
  · exact Iff.rfl
  · simp
/-- The shift that has begun is short enough. -/
theorem GoOk.first {r : Rul} : ∀ {l : List Sp} {x : Shf}, (∀ s ∈ l, OkSp s) → GoOk r x l → ShOk r x
  | [], x, _, h => goOk_nil.1 h
  | s :: l, x, hl, h => by
    rw [goOk_cons] at h
    split at h
    · have h1 := GoOk.first (fun s hs => hl s (by simp [hs])) h
      have h2 := hl s (by simp)
      unfold ShOk at h1 ⊢; unfold OkSp at h2; simp only [] at h1; omega
    · exact h.1
/-- A shift lies in another one. -/
def ShIn (x' x : Shf) : Prop := x.b ≤ x'.b ∧ x'.e ≤ x.e ∧ x'.w ≤ x.w
theorem ShIn.ok {r r' : Rul} {x x' : Shf} (hm : Mild r r') (h : ShIn x' x) (hx : ShOk r x) : ShOk r' x' := by
  unfold Mild at hm; unfold ShIn at h; unfold ShOk at hx ⊢; omega
/-- The shifts of times behind some are those of no shift that has begun. -/
theorem goOk_far {r : Rul} {x : Shf} {l : List Sp} (hx : ShOk r x) (hl : ∀ s ∈ l, x.e + r.rest ≤ s.b) (h : ∀ y ∈ shiftsP r l, ShOk r y) : GoOk r x l := by
  match l with
  | [] => exact goOk_nil.2 hx
  | s :: l =>
    rw [goOk_cons, if_neg (by have := hl s (by simp); omega)]
    exact ⟨hx, h⟩
theorem shr_go {r r' : Rul} (hm : Mild r r') {l' l : List Sp} (hs : Shr l' l) : ∀ {x : Shf}, l.Pairwise (fun a b => a.b ≤ b.b) → (∀ s ∈ l, OkSp s ∧ x.b ≤ s.b) → 0 ≤ x.w → GoOk r x l →
    (∀ y ∈ shiftsP r' l', ShOk r' y) ∧ ∀ x', ShIn x' x → GoOk r' x' l' := by
  induction hs with
  | nil =>
    intro x _ _ _ h
    exact ⟨by simp [shiftsP], fun x' hx => goOk_nil.2 (hx.ok hm (goOk_nil.1 h))⟩
  | @drop s l' l hr ih =>
    intro x hp hl hw h
    have hp1 : ∀ t ∈ l, s.b ≤ t.b := fun t ht => List.rel_of_pairwise_cons hp ht
    have hp2 := List.Pairwise.of_cons hp
    have hs := hl s (by simp)
    have hs1 := hs.1; unfold OkSp at hs1
    rw [goOk_cons] at h
    split at h
    · rename_i hlt
      have := ih (x := ⟨x.b, max x.e s.e, x.w + (s.e - s.b)⟩) hp2 (fun t ht => ⟨(hl t (by simp [ht])).1, (hl t (by simp [ht])).2⟩) (by show 0 ≤ x.w + (s.e - s.b); omega) h
      refine ⟨this.1, fun x' hx => this.2 x' ?_⟩
      unfold ShIn at hx ⊢; simp only []; omega
    · rename_i hge
      have := ih (x := ⟨s.b, s.e, s.e - s.b⟩) hp2 (fun t ht => ⟨(hl t (by simp [ht])).1, hp1 t ht⟩) (by show 0 ≤ s.e - s.b; omega) h.2
      refine ⟨this.1, fun x' hx => goOk_far (hx.ok hm h.1) (fun t ht => ?_) this.1⟩
      obtain ⟨t0, h1, h2, _⟩ := hr.mem ht
      have := hp1 t0 h1
      unfold ShIn at hx; unfold Mild at hm; omega
  | @keep s' s l' l h1 h2 h3 hr ih =>
    intro x hp hl hw h
    have hp1 : ∀ t ∈ l, s.b ≤ t.b := fun t ht => List.rel_of_pairwise_cons hp ht
    have hp2 := List.Pairwise.of_cons hp
    have hs := hl s (by simp)
    have hs1 := hs.1; unfold OkSp at hs1
    have hx0 := GoOk.first (fun t ht => (hl t ht).1) h
    rw [goOk_cons] at h
    split at h
    · rename_i hlt
      have := ih (x := ⟨x.b, max x.e s.e, x.w + (s.e - s.b)⟩) hp2 (fun t ht => ⟨(hl t (by simp [ht])).1, (hl t (by simp [ht])).2⟩) (by show 0 ≤ x.w + (s.e - s.b); omega) h
      have hn : GoOk r' ⟨s'.b, s'.e, s'.e - s'.b⟩ l' := this.2 _ (by unfold ShIn; simp only []; omega)
      refine ⟨hn, fun x' hx => ?_⟩
      rw [goOk_cons]
      split
      · exact this.2 _ (by unfold ShIn at hx ⊢; simp only []; omega)
      · exact ⟨hx.ok hm hx0, hn⟩
    · rename_i hge
      have := ih (x := ⟨s.b, s.e, s.e - s.b⟩) hp2 (fun t ht => ⟨(hl t (by simp [ht])).1, hp1 t ht⟩) (by show 0 ≤ s.e - s.b; omega) h.2
      have hn : GoOk r' ⟨s'.b, s'.e, s'.e - s'.b⟩ l' := this.2 _ (by unfold ShIn; simp only []; omega)
      refine ⟨hn, fun x' hx => ?_⟩
      rw [goOk_cons, if_neg (by unfold ShIn at hx; unfold Mild at hm; omega)]
      exact ⟨hx.ok hm hx0, hn⟩
theorem lin_begins {l : List Sp} (h : Lin l) (hl : ∀ x ∈ l, OkSp x) : l.Pairwise (fun a b => a.b ≤ b.b) := by
  induction l with
  | nil => exact List.Pairwise.nil
  | cons s l ih =>
    refine List.Pairwise.cons (fun y hy => ?_) (ih (List.Pairwise.of_cons h) fun x hx => hl x (by simp [hx]))
    have h1 : s.e ≤ y.b := List.rel_of_pairwise_cons h hy
    have h2 := hl s (by simp); unfold OkSp at h2; omega
theorem shr_shifts {r r' : Rul} (hm : Mild r r') {l' l : List Sp} (hs : Shr l' l) (hp : Lin l) (hl : ∀ x ∈ l, OkSp x) (h : ∀ x ∈ shiftsP r l, ShOk r x) : ∀ x ∈ shiftsP r' l', ShOk r' x := by
  have hb := lin_begins hp hl
  cases hs with
  | nil => simp [shiftsP]
  | @drop s l' l hr =>
    exact (shr_go hm hr (x := ⟨s.b, s.e, s.e - s.b⟩) (List.Pairwise.of_cons hb) (fun t ht => ⟨hl t (by simp [ht]), List.rel_of_pairwise_cons hb ht⟩) (by have := hl s (by simp); unfold OkSp at this; show 0 ≤ s.e - s.b; omega) h).1
  | @keep s' s l' l h1 h2 h3 hr =>
    exact (shr_go hm hr (x := ⟨s.b, s.e, s.e - s.b⟩) (List.Pairwise.of_cons hb) (fun t ht => ⟨hl t (by simp [ht]), List.rel_of_pairwise_cons hb ht⟩) (by have := hl s (by simp); unfold OkSp at this; show 0 ≤ s.e - s.b; omega) h).2 _ (by unfold ShIn; simp only []; omega)
-- windows
def sumW (l : List Sp) (a b : Int) : Int := sumI2 (l.map fun s => inW s a b)
theorem winP_eq (r : Rul) (l : List Sp) (t : Int) : winP r l t = sumW l (t - r.week) t := rfl
theorem sumW_cons (s : Sp) (l : List Sp) (a b : Int) : sumW (s :: l) a b = inW s a b + sumW l a b := rfl
theorem sumW_nn (l : List Sp) (a b : Int) : 0 ≤ sumW l a b := by
  induction l with
  | nil => exact Int.le_refl _
  | cons s l ih => rw [sumW_cons]; unfold inW; omega
theorem sumW_shr {l' l : List Sp} (h : Shr l' l) (a b : Int) : sumW l' a b ≤ sumW l a b := by
  induction h with
  | nil => exact Int.le_refl _
  | drop s _ ih => rw [sumW_cons]; have : 0 ≤ inW s a b := by unfold inW; omega
                   omega
  | @keep s' s l' l h1 h2 h3 _ ih => rw [sumW_cons, sumW_cons]; have : inW s' a b ≤ inW s a b := by unfold inW; omega
                                     omega
theorem sumW_add {l : List Sp} (hl : ∀ x ∈ l, OkSp x) {a b c : Int} (h1 : a ≤ b) (h2 : b ≤ c) : sumW l a c = sumW l a b + sumW l b c := by
  induction l with
  | nil => rfl
  | cons s l ih =>
    rw [sumW_cons, sumW_cons, sumW_cons, ih fun x hx => hl x (by simp [hx])]
    have : inW s a c = inW s a b + inW s b c := by have := hl s (by simp); unfold OkSp at this; unfold inW; omega
    omega
theorem sumW_le : ∀ {l : List Sp} {c : Int}, Lin l → (∀ x ∈ l, OkSp x ∧ c ≤ x.b) → ∀ a b, sumW l a b ≤ max 0 (b - max a c)
  | [], c, _, _, a, b => by show (0 : Int) ≤ _; omega
  | s :: l, c, h, hl, a, b => by
    have h1 := hl s (by simp)
    have ih := sumW_le (c := s.e) (List.Pairwise.of_cons h) (fun x hx => ⟨(hl x (by simp [hx])).1, List.rel_of_pairwise_cons h hx⟩) a b
    have h2 := h1.1; unfold OkSp at h2
    rw [sumW_cons]; unfold inW; omega
theorem sumW_le' {l : List Sp} (h : Lin l) (hl : ∀ x ∈ l, OkSp x) {a b : Int} (hab : a ≤ b) : sumW l a b ≤ b - a := by
  have := sumW_le (c := 0) h (fun x hx => ⟨hl x hx, (hl x hx).1⟩) a b
  omega
theorem sumW_mem {l : List Sp} {s : Sp} (hs : s ∈ l) (a b : Int) : inW s a b ≤ sumW l a b := by
  induction l with
  | nil => cases hs
  | cons x l ih =>
    rw [sumW_cons]
    rcases List.mem_cons.1 hs with e | hs
    · subst e; have := sumW_nn l a b; omega
    · have := ih hs; have : 0 ≤ inW x a b := by unfold inW; omega
      omega
theorem sumW_zero {l : List Sp} {a b : Int} (h : ∀ s ∈ l, inW s a b = 0) : sumW l a b = 0 := by
  induction l with
  | nil => rfl
  | cons s l ih => rw [sumW_cons, h s (by simp), ih fun x hx => h x (by simp [hx])]; rfl
/-- Of times that end no later than a minute one ends last. -/
theorem last_end {l : List Sp} {t : Int} : (∀ s ∈ l, t < s.e) ∨ ∃ s ∈ l, s.e ≤ t ∧ ∀ x ∈ l, x.e ≤ t → x.e ≤ s.e := by
  induction l with
  | nil => left; simp
  | cons x l ih =>
    by_cases hx : x.e ≤ t
    · right
      rcases ih with h | ⟨s, h1, h2, h3⟩
      · refine ⟨x, by simp, hx, fun y hy hye => ?_⟩
        rcases List.mem_cons.1 hy with e | hy
        · subst e; omega
        · have := h y hy; omega
      · by_cases hc : s.e ≤ x.e
        · refine ⟨x, by simp, hx, fun y hy hye => ?_⟩
          rcases List.mem_cons.1 hy with e | hy
          · subst e; omega
          · have := h3 y hy hye; omega
        · refine ⟨s, by simp [h1], h2, fun y hy hye => ?_⟩
          rcases List.mem_cons.1 hy with e | hy
          · subst e; omega
          · exact h3 y hy hye
    · rcases ih with h | ⟨s, h1, h2, h3⟩
      · left
        intro y hy
        rcases List.mem_cons.1 hy with e | hy
        · subst e; omega
        · exact h y hy
      · right
        refine ⟨s, by simp [h1], h2, fun y hy hye => ?_⟩
        rcases List.mem_cons.1 hy with e | hy
        · subst e; omega
        · exact h3 y hy hye
/-- There is never more work in a window than in one that ends when some time ends. -/
theorem win_max {W ww : Int} (hW : 0 ≤ W) (hww : 0 ≤ ww) {l : List Sp} (h : Lin l) (hl : ∀ x ∈ l, OkSp x) (hm : ∀ s ∈ l, sumW l (s.e - W) s.e ≤ ww) (t : Int) : sumW l (t - W) t ≤ ww := by
  by_cases hc : ∃ s ∈ l, s.b < t ∧ t ≤ s.e
  · obtain ⟨s, hs, h1, h2⟩ := hc
    have h3 := hm s hs
    -- both windows within [t - W, s.e]
    have a1 := sumW_add hl (a := t - W) (b := t) (c := s.e) (by omega) h2
    have a2 := sumW_add hl (a := t - W) (b := s.e - W) (c := s.e) (by omega) (by omega)
    have a3 := sumW_le' h hl (a := t - W) (b := s.e - W) (by omega)
    have a4 := sumW_mem hs t s.e
    have a5 : inW s t s.e = s.e - t := by unfold inW; omega
    omega
  · have hn : ∀ s ∈ l, s.b < t → s.e < t := fun s hs h1 => by
      by_cases h2 : t ≤ s.e
      · exact absurd ⟨s, hs, h1, h2⟩ hc
      · omega
    rcases last_end (l := l) (t := t) with h1 | ⟨s, hs, h1, h2⟩
    · have : sumW l (t - W) t = 0 := sumW_zero fun s hs => by
        have h3 := h1 s hs; have h4 := hn s hs
        unfold inW; by_cases h5 : s.b < t
        · have := h4 h5; omega
        · omega
      omega
    · have h3 := hm s hs
      by_cases hq : t - W ≤ s.e
      · have a1 := sumW_add hl (a := s.e - W) (b := t - W) (c := s.e) (by omega) hq
        have a2 := sumW_add hl (a := t - W) (b := s.e) (c := t) hq h1
        have a3 : sumW l s.e t = 0 := sumW_zero fun x hx => by
          unfold inW
          by_cases h5 : x.b < t
          · have := hn x hx h5; have := h2 x hx (by omega); omega
          · omega
        have a4 := sumW_nn l (s.e - W) (t - W)
        omega
      · have a3 : sumW l (t - W) t = 0 := sumW_zero fun x hx => by
          unfold inW
          by_cases h5 : x.b < t
          · have := hn x hx h5; have := h2 x hx (by omega); omega
          · omega
        omega
/-- LESS IS SAFE. -/
theorem brok_mono {r r' : Rul} (hr : okRul r = true) (hm : Mild r r') {l' l : List Sp} (hs : Shr l' l) (hl : ∀ x ∈ l, OkSp x) (h : brokP r l = 0) : brokP r' l' = 0 := by
  rw [brok0] at h ⊢
  obtain ⟨h1, h2, h3⟩ := h
  obtain ⟨h1a, h1b⟩ := ovl_lin.1 h1
  have hr' := hr
  simp only [okRul, decide_eq_true_eq] at hr'
  refine ⟨ovl_lin.2 ⟨fun x hx => ?_, hs.lin h1b⟩, shr_shifts hm hs h1b hl h2, fun s hs' => ?_⟩
  · obtain ⟨y, q1, q2, _⟩ := hs.mem hx; have := h1a y q1; omega
  · have q := win_max (W := r.week) (ww := r.ww) (by omega) (by omega) h1b hl (fun s hs => h3 s hs) s.e
    have q2 := sumW_shr hs (s.e - r.week) s.e
    rw [winP_eq, ← hm.2.2.2.1]
    have := hm.2.2.2.2
    omega
theorem shr_ins {s : Sp} : ∀ {l : List Sp}, (∀ x ∈ l, OkSp x) → Shr l (insS s l)
  | [], _ => .drop _ .nil
  | x :: l, h => by
    unfold insS
    split
    · exact .keep (Int.le_refl _) (h x (by simp)).2.1 (Int.le_refl _) (shr_ins fun y hy => h y (by simp [hy]))
    · exact .drop _ (Shr.refl h)
theorem srt_of_perm {a b : List Sp} (h : a.Perm b) : srtS a = srtS b := srt_eq (srt_srt a) ((srt_perm a).trans h)
theorem srtS_cons (s : Sp) (l : List Sp) : srtS (s :: l) = insS s (srtS l) := rfl
/-- With one time less nothing is broken. -/
theorem brok_less {r : Rul} (hr : okRul r = true) {s : Sp} {l m : List Sp} (hp : m.Perm (s :: l)) (hl : ∀ x ∈ m, OkSp x) (h : brokP r (srtS m) = 0) : brokP r (srtS l) = 0 := by
  have e : srtS m = insS s (srtS l) := (srt_of_perm hp).trans (srtS_cons s l)
  have hk : ∀ x ∈ l, OkSp x := fun x hx => hl x (hp.mem_iff.2 (by simp [hx]))
  have hs : OkSp s := hl s (hp.mem_iff.2 (by simp))
  rw [e] at h
  exact brok_mono hr (Mild.refl r) (shr_ins (srt_ok hk)) (ins_ok hs (srt_ok hk)) h
/-- With some times less nothing is broken. -/
theorem brok_take {r : Rul} (hr : okRul r = true) : ∀ {l : List Sp} (k : Nat), (∀ x ∈ l, OkSp x) → brokP r (srtS l) = 0 → brokP r (srtS (l.take k)) = 0 := by
  intro l k hl h
  by_cases hk : l.length ≤ k
  · rwa [List.take_of_length_le hk]
  · induction hn : l.length - k generalizing l with
    | zero => omega
    | succ n ih =>
      have hlen : 0 < l.length := by omega
      have e : l = l.take (l.length - 1) ++ [nth l (l.length - 1)] := by
        have := take_nth (xs := l) (i := l.length - 1) (by omega)
        rw [show l.length - 1 + 1 = l.length by omega, List.take_length] at this
        exact this
      have h1 : brokP r (srtS (l.take (l.length - 1))) = 0 := brok_less hr (s := nth l (l.length - 1)) (m := l) (by
        conv => lhs; rw [e]
        exact List.perm_append_comm (l₂ := [_])) hl h
      by_cases hq : (l.take (l.length - 1)).length ≤ k
      · have hlq : (l.take (l.length - 1)).length = l.length - 1 := by rw [List.length_take]; omega
        rw [show l.take k = l.take (l.length - 1) by rw [show k = l.length - 1 by omega]]; exact h1
      · have hlq : (l.take (l.length - 1)).length = l.length - 1 := by rw [List.length_take]; omega
        have := ih (l := l.take (l.length - 1)) (fun x hx => hl x (List.mem_of_mem_take hx)) h1 hq (by omega)
        rwa [List.take_take, Nat.min_eq_left (by omega)] at this
/-- Times and shorter ones, sorted together. -/
theorem ins_pairs (p : Sp × Sp) : ∀ l : List (Sp × Sp), ∃ q : List (Sp × Sp), q.Perm (p :: l) ∧ insS p.1 (l.map Prod.fst) = q.map Prod.fst
  | [] => ⟨[p], List.Perm.refl _, rfl⟩
  | x :: l => by
    show ∃ q : List (Sp × Sp), q.Perm (p :: x :: l) ∧ insS p.1 (x.1 :: l.map Prod.fst) = q.map Prod.fst
    unfold insS
    split
    · obtain ⟨q, h1, h2⟩ := ins_pairs p l
      exact ⟨x :: q, (h1.cons x).trans (List.Perm.swap p x l), by rw [h2]; rfl⟩
    · exact ⟨p :: x :: l, List.Perm.refl _, rfl⟩
theorem srt_pairs : ∀ l : List (Sp × Sp), ∃ q : List (Sp × Sp), q.Perm l ∧ srtS (l.map Prod.fst) = q.map Prod.fst
  | [] => ⟨[], List.Perm.refl _, rfl⟩
  | p :: l => by
    obtain ⟨q, h1, h2⟩ := srt_pairs l
    obtain ⟨q2, h3, h4⟩ := ins_pairs p q
    refine ⟨q2, h3.trans (h1.cons p), ?_⟩
    show insS p.1 (srtS (l.map Prod.fst)) = _
    rw [h2, h4]
def InSp (x' x : Sp) : Prop := x.b ≤ x'.b ∧ x'.b ≤ x'.e ∧ x'.e ≤ x.e
theorem shr_pairs : ∀ {q : List (Sp × Sp)}, (∀ p ∈ q, InSp p.2 p.1) → Shr (q.map Prod.snd) (q.map Prod.fst)
  | [], _ => .nil
  | p :: q, h => by have := h p (by simp); exact .keep this.1 this.2.1 this.2.2 (shr_pairs fun x hx => h x (by simp [hx]))
/-- FOR EVERY TRUTH: shorter times break nothing. -/
theorem brok_shrink {r : Rul} (hr : okRul r = true) {l : List (Sp × Sp)} (hl : ∀ p ∈ l, OkSp p.1 ∧ InSp p.2 p.1) (h : brokP r (srtS (l.map Prod.fst)) = 0) : brokP r (srtS (l.map Prod.snd)) = 0 := by
  obtain ⟨q, h1, h2⟩ := srt_pairs l
  have hq : ∀ p ∈ q, OkSp p.1 ∧ InSp p.2 p.1 := fun p hp => hl p (h1.mem_iff.1 hp)
  have hok : ∀ x ∈ q.map Prod.fst, OkSp x := fun x hx => by obtain ⟨p, hp, rfl⟩ := List.mem_map.1 hx; exact (hq p hp).1
  have hs := shr_pairs fun p hp => (hq p hp).2
  rw [h2] at h
  have hlin := (ovl_lin.1 ((brok0.1 h).1)).2
  have e : q.map Prod.snd = srtS (l.map Prod.snd) := srt_eq (lin_srt (hs.lin hlin) (hs.ok hok)) (h1.map _)
  rw [← e]
  exact brok_mono hr (Mild.refl r) hs hok h
-- what Rested says
theorem rest_at {r : Rul} {l : List Dty} {a rule : Int} (hr : okRul r = true) (hl : ∀ d ∈ l, okDty d = true) (h : RestR r l a rule) : (a < 0 ↔ brokP r (srtS (l.map lngS)) = 0) ∧ (a = -1 ∨ (0 ≤ a ∧ a < l.length)) ∧ (a < 0 ↔ rule = 0) ∧ 0 ≤ rule ∧ rule ≤ 4 := by
  have hok : ∀ x ∈ l.map lngS, OkSp x := fun x hx => by obtain ⟨d, hd, rfl⟩ := List.mem_map.1 hx; exact lng_ok (hl d hd)
  rcases h with ⟨rfl, rfl, h⟩ | ⟨k, hk, rfl, h1, h2, h3⟩
  · refine ⟨⟨fun _ => ?_, fun _ => by decide⟩, .inl rfl, by decide, by decide, by decide⟩
    match l, h with
    | [], _ => rfl
    | d :: l, h =>
      have := h l.length (by simp)
      unfold brkK at this
      rwa [List.take_of_length_le (by simp)] at this
  · refine ⟨⟨fun h => by omega, fun h => ?_⟩, .inr ⟨by omega, by omega⟩, ⟨fun h => by omega, fun h => absurd h h2⟩, ?_⟩
    · refine absurd ?_ h2
      rw [h1]; unfold brkK
      rw [List.map_take]
      exact brok_take hr _ hok h
    · rw [h1]; exact brok_rng _ _
/-- Numbers in ascending order, from one on and below a bound. -/
def AscN : Nat → Nat → List Nat → Prop
  | _, _, [] => True
  | i, n, k :: l => i ≤ k ∧ k < n ∧ AscN (k + 1) n l
theorem AscN.mem {n : Nat} : ∀ {l : List Nat} {i : Nat}, AscN i n l → ∀ {j}, j ∈ l → i ≤ j ∧ j < n
  | k :: l, i, h, j, hj => by
    rcases List.mem_cons.1 hj with e | hj
    · rw [e]; exact ⟨h.1, h.2.1⟩
    · have := AscN.mem h.2.2 hj; have h1 : i ≤ k := h.1; omega
theorem AscN.nodup {n : Nat} : ∀ {l : List Nat} {i : Nat}, AscN i n l → l.Nodup
  | [], _, _ => List.nodup_nil
  | k :: l, i, h => List.nodup_cons.2 ⟨fun hk => by have := AscN.mem h.2.2 hk; omega, AscN.nodup h.2.2⟩
theorem AscN.lt {n : Nat} : ∀ {l : List Nat} {i a : Nat}, AscN i n l → 0 < a → a < l.length → nth l (a - 1) < nth l a
  | [], _, a, _, _, h => absurd h (Nat.not_lt_zero _)
  | k :: l, i, a, h, h0, ha => by
    match a, h0, ha with
    | 1, _, ha =>
      have : nth l 0 ∈ l := nth_mem (by simpa using ha)
      have := AscN.mem h.2.2 this
      show k < nth l 0
      omega
    | a + 2, _, ha =>
      have := AscN.lt (a := a + 1) h.2.2 (by omega) (by simp at ha; omega)
      exact this
/-- Members of whom these have a leg. -/
def aftN (x : Leg) : List Nat → List Mb → List Mb
  | [], ms => ms
  | k :: l, ms => aftN x l (ms.set k (aftM x (nth ms k)))
def pltN (x : Leg) (ms : List Mb) : List Nat → Int
  | [] => 0
  | k :: l => pltI (nth ms k) x + pltN x ms l
theorem pltN_rng (x : Leg) (ms : List Mb) : ∀ l, 0 ≤ pltN x ms l ∧ pltN x ms l ≤ (l.length : Int)
  | [] => ⟨Int.le_refl _, Int.le_refl _⟩
  | k :: l => by have := pltN_rng x ms l; have := pltI_rng (nth ms k) x; simp only [pltN, List.length_cons]; omega
theorem pltN_set {x : Leg} {ms : List Mb} {k : Nat} {a : Mb} (hk : k < ms.length) : ∀ {l : List Nat}, k ∉ l → pltN x (ms.set k a) l = pltN x ms l
  | [], _ => rfl
  | j :: l, h => by
    simp only [List.mem_cons, not_or] at h
    rw [pltN, pltN, pltN_set hk h.2, nth_set' hk, if_neg (fun e => h.1 e.symm)]
theorem aftN_len {x : Leg} : ∀ {l : List Nat} {ms : List Mb}, (aftN x l ms).length = ms.length
  | [], _ => rfl
  | k :: l, ms => by rw [aftN, aftN_len, List.length_set]
theorem aftN_at {x : Leg} : ∀ {l : List Nat} {ms : List Mb} {j : Nat}, l.Nodup → (∀ k ∈ l, k < ms.length) → nth (aftN x l ms) j = if j ∈ l then aftM x (nth ms j) else nth ms j
  | [], ms, j, _, _ => by simp [aftN]
  | k :: l, ms, j, hn, hl => by
    have hk := hl k (by simp)
    have hn2 := List.nodup_cons.1 hn
    rw [aftN, aftN_at hn2.2 (fun i hi => by rw [List.length_set]; exact hl i (by simp [hi])), nth_set' hk]
    by_cases e : j = k
    · subst e
      rw [if_neg hn2.1, if_pos rfl, if_pos (by simp)]
    · rw [if_neg e]
      by_cases h : j ∈ l
      · rw [if_pos h, if_pos (by simp [h])]
      · rw [if_neg h, if_neg (by simp [h, e])]
theorem ext_nth {α : Type} [Inhabited α] {a b : List α} (hl : a.length = b.length) (h : ∀ i, i < a.length → nth a i = nth b i) : a = b := by
  refine List.ext_getElem hl fun i h1 h2 => ?_
  have := h i h1
  rwa [nth_eq h1, nth_eq h2] at this
theorem aftN_perm {x : Leg} {l l' : List Nat} {ms : List Mb} (h : l.Perm l') (hn : l.Nodup) (hl : ∀ k ∈ l, k < ms.length) : aftN x l ms = aftN x l' ms := by
  refine ext_nth (by rw [aftN_len, aftN_len]) fun i _ => ?_
  rw [aftN_at hn hl, aftN_at (h.nodup_iff.1 hn) (fun k hk => hl k (h.mem_iff.2 hk))]
  by_cases hi : i ∈ l
  · rw [if_pos hi, if_pos (h.mem_iff.1 hi)]
  · rw [if_neg hi, if_neg (fun q => hi (h.mem_iff.2 q))]
theorem pltN_perm {x : Leg} {ms : List Mb} {l l' : List Nat} (h : l.Perm l') : pltN x ms l = pltN x ms l' := by
  induction h with
  | nil => rfl
  | cons k _ ih => simp only [pltN, ih]
  | swap a b l => simp only [pltN]; omega
  | trans _ _ h1 h2 => exact h1.trans h2
abbrev castL (ns : List Nat) : List Int := ns.map fun (j : Nat) => (j : Int)
/-- A team for a leg. -/
structure TeamN (r : Rul) (x : Leg) (ms : List Mb) (k i : Nat) (pl : Int) (ns : List Nat) : Prop where
  len : ns.length = k
  asc : AscN i ms.length ns
  can : ∀ j ∈ ns, canM r x (nth ms j) = true
  plt : x.p ≤ pl + pltN x ms ns
theorem mem_teams {r : Rul} {x : Leg} : ∀ {k i : Nat} {nums : List Int} {pl : Int} {ms : List Mb} {t : Tm}, t ∈ teamsP r x k i nums pl ms ↔ ∃ ns, TeamN r x ms k i pl ns ∧ t = ⟨nums ++ castL ns, pl + pltN x ms ns, aftN x ns ms⟩
  | 0, i, nums, pl, ms, t => by
    unfold teamsP
    constructor
    · intro h
      split at h
      · rename_i hp
        rw [List.mem_singleton.1 h]
        exact ⟨[], ⟨rfl, trivial, by simp, by simpa [pltN] using hp⟩, by simp [castL, pltN, aftN]⟩
      · cases h
    · rintro ⟨ns, h, e⟩
      obtain rfl := List.length_eq_zero_iff.1 h.len
      have hp := h.plt
      rw [show pl + pltN x ms [] = pl from Int.add_zero pl] at hp
      rw [if_pos hp, e]
      simp [castL, pltN, aftN]
  | k + 1, i, nums, pl, ms, t => by
    unfold teamsP
    rw [List.mem_flatMap]
    constructor
    · rintro ⟨j, hj, h⟩
      rw [List.mem_range'_1] at hj
      split at h
      · rename_i hc
        obtain ⟨ns, h1, e⟩ := mem_teams.1 h
        have hjl : j < ms.length := by omega
        have hasc := h1.asc; rw [List.length_set] at hasc
        have hnj : j ∉ ns := fun q => by have := hasc.mem q; omega
        refine ⟨j :: ns, ⟨by simp [h1.len], ⟨by omega, hjl, hasc⟩, fun a ha => ?_, ?_⟩, ?_⟩
        · rcases List.mem_cons.1 ha with q | q
          · rw [q]; exact hc
          · have h2 := h1.can a q
            rwa [nth_set' hjl, if_neg (fun e : a = j => hnj (e ▸ q))] at h2
        · have h2 := h1.plt
          rw [pltN_set hjl hnj] at h2
          simp only [pltN]; omega
        · rw [e, pltN_set hjl hnj]
          simp only [castL, List.map_cons, pltN, aftN, List.append_assoc, List.cons_append, List.nil_append]
          rw [Int.add_assoc]
      · cases h
    · rintro ⟨ns, h1, e⟩
      match ns, h1 with
      | j :: ns, h1 =>
        obtain ⟨a1, a2, a3⟩ := h1.asc
        have hnj : j ∉ ns := fun q => by have := a3.mem q; omega
        refine ⟨j, List.mem_range'_1.2 ⟨a1, by omega⟩, ?_⟩
        rw [if_pos (h1.can j (by simp))]
        refine mem_teams.2 ⟨ns, ⟨by have := h1.len; simpa using this, by rw [List.length_set]; exact a3, fun a ha => ?_, ?_⟩, ?_⟩
        · rw [nth_set' a2, if_neg (fun e : a = j => hnj (e ▸ ha))]; exact h1.can a (by simp [ha])
        · have h2 := h1.plt
          rw [pltN_set a2 hnj]
          simp only [pltN] at h2; omega
        · rw [e, pltN_set a2 hnj]
          simp only [castL, List.map_cons, pltN, aftN, List.append_assoc, List.cons_append, List.nil_append]
          rw [Int.add_assoc]
/-- A safe assignment. -/
def planOk (r : Rul) : List Leg → List Mb → List (List Nat) → Prop
  | [], _, p => p = []
  | x :: xs, ms, p => ∃ ns p', p = ns :: p' ∧ TeamN r x ms x.h.toNat 0 0 ns ∧ planOk r xs (aftN x ns ms) p'
def Fe (r : Rul) (xs : List Leg) (ms : List Mb) : Prop := ∃ p, planOk r xs ms p
theorem Fe_cons {r : Rul} {x : Leg} {xs : List Leg} {ms : List Mb} : Fe r (x :: xs) ms ↔ ∃ t ∈ teamsP r x x.h.toNat 0 [] 0 ms, Fe r xs t.ms := by
  constructor
  · rintro ⟨p, ns, p', _, h1, h2⟩
    exact ⟨_, mem_teams.2 ⟨ns, h1, rfl⟩, p', h2⟩
  · rintro ⟨t, ht, p', h2⟩
    obtain ⟨ns, h1, e⟩ := mem_teams.1 ht
    subst e
    exact ⟨ns :: p', ns, p', rfl, h1, h2⟩
theorem Fe_nil {r : Rul} {ms : List Mb} : Fe r [] ms := ⟨[], rfl⟩
theorem planOk_len {r : Rul} : ∀ {xs : List Leg} {ms : List Mb} {p : List (List Nat)}, planOk r xs ms p → p.length = xs.length
  | [], _, p, h => by have e : p = [] := h; subst e; rfl
  | x :: xs, ms, p, h => by obtain ⟨ns, p', rfl, _, h2⟩ := h; simp [planOk_len h2]
theorem tryF_some {f : Tm → Nat → Option (List (List Int)) × Nat} : ∀ {ts : List Tm} {u : Nat} {q : List (List Int)}, (tryF f ts u).1 = some q → ∃ t ∈ ts, ∃ u p, (f t u).1 = some p ∧ q = t.nums :: p
  | [], _, _, h => by cases h
  | t :: ts, u, q, h => by
    rw [tryF] at h
    rcases hf : f t u with ⟨_ | p, u'⟩ <;> rw [hf] at h
    · obtain ⟨t', ht, r⟩ := tryF_some h
      exact ⟨t', by simp [ht], r⟩
    · exact ⟨t, by simp, u, p, by rw [hf], by simpa using h.symm⟩
theorem tryF_none {f : Tm → Nat → Option (List (List Int)) × Nat} : ∀ {ts : List Tm} {u : Nat}, (tryF f ts u).1 = none → ∀ t ∈ ts, ∃ u, (f t u).1 = none
  | t :: ts, u, h, t', ht => by
    rw [tryF] at h
    rcases hf : f t u with ⟨_ | p, u'⟩ <;> rw [hf] at h
    · rcases List.mem_cons.1 ht with e | ht
      · exact ⟨u, by rw [e, hf]⟩
      · exact tryF_none h t' ht
    · cases h
theorem asg_some {r : Rul} : ∀ {xs : List Leg} {ms : List Mb} {k u : Nat} {q : List (List Int)}, (asgP r xs ms k u).1 = some q → ∃ p, planOk r xs ms p ∧ q = p.map castL
  | [], _, _, _, q, h => ⟨[], rfl, by have : some [] = some q := h; injection this with e; exact e.symm⟩
  | x :: xs, ms, k, u, q, h => by
    obtain ⟨t, ht, u1, p, h1, rfl⟩ := tryF_some h
    obtain ⟨ns, h2, rfl⟩ := mem_teams.1 ht
    obtain ⟨p', h3, rfl⟩ := asg_some h1
    exact ⟨ns :: p', ⟨ns, p', rfl, h2, h3⟩, rfl⟩
theorem asg_iff {r : Rul} : ∀ {xs : List Leg} {ms : List Mb} {k u : Nat}, (asgP r xs ms k u).1 = none ↔ ¬ Fe r xs ms
  | [], _, _, _ => ⟨fun h => (by cases h), fun h => absurd Fe_nil h⟩
  | x :: xs, ms, k, u => by
    constructor
    · rintro h hf
      obtain ⟨t, ht, h1⟩ := Fe_cons.1 hf
      obtain ⟨u1, h2⟩ := tryF_none h t ht
      exact asg_iff.1 h2 h1
    · intro h
      cases hq : (asgP r (x :: xs) ms k u).1 with
      | none => rfl
      | some q => obtain ⟨p, hp, _⟩ := asg_some hq; exact absurd ⟨p, hp⟩ h
theorem sf_iff {r : Rul} {xs : List Leg} {ms : List Mb} : sfP r xs ms = true ↔ Fe r xs ms := by
  unfold sfP
  cases hq : (asgP r xs ms 0 0).1 with
  | none => exact ⟨fun h => (by cases h), fun h => absurd h (asg_iff.1 hq)⟩
  | some q => exact ⟨fun _ => (by obtain ⟨p, hp, _⟩ := asg_some hq; exact ⟨p, hp⟩), fun _ => rfl⟩
/-- For how many legs there is an assignment. -/
def dep (r : Rul) : List Leg → List Mb → Nat
  | [], _ => 0
  | x :: xs, ms => (teamsP r x x.h.toNat 0 [] 0 ms).foldl (fun d t => max d (1 + dep r xs t.ms)) 0
theorem tryF_up {f : Tm → Nat → Option (List (List Int)) × Nat} {c : Tm → Nat} : ∀ {ts : List Tm} {u : Nat}, (∀ t ∈ ts, ∀ u, (f t u).1 = none → (f t u).2 = max u (c t)) → (tryF f ts u).1 = none → (tryF f ts u).2 = ts.foldl (fun u t => max u (c t)) u
  | [], _, _, _ => rfl
  | t :: ts, u, h, hn => by
    have h1 := h t (by simp) u
    rw [tryF] at hn ⊢
    rcases hf : f t u with ⟨_ | p, u'⟩ <;> rw [hf] at hn h1
    · have e : u' = max u (c t) := h1 rfl
      subst e
      exact tryF_up (fun t ht => h t (by simp [ht])) hn
    · cases hn
theorem foldl_up {c : Tm → Nat} (k u : Nat) : ∀ (ts : List Tm) (d : Nat), ts.foldl (fun a t => max a (k + c t)) (max u (k + d)) = max u (k + ts.foldl (fun a t => max a (c t)) d)
  | [], d => rfl
  | t :: ts, d => by
    show ts.foldl _ (max (max u (k + d)) (k + c t)) = max u (k + ts.foldl _ (max d (c t)))
    rw [show max (max u (k + d)) (k + c t) = max u (k + max d (c t)) by omega]
    exact foldl_up k u ts (max d (c t))
theorem asg_up {r : Rul} : ∀ {xs : List Leg} {ms : List Mb} {k u : Nat}, (asgP r xs ms k u).1 = none → (asgP r xs ms k u).2 = max u (k + dep r xs ms)
  | [], _, _, _, h => by cases h
  | x :: xs, ms, k, u, h => by
    have h1 := tryF_up (c := fun t => k + (1 + dep r xs t.ms)) (fun t _ u h => by
      have := asg_up (k := k + 1) (u := u) h
      rw [this]; omega) h
    have h2 := foldl_up (c := fun t => 1 + dep r xs t.ms) k u (teamsP r x x.h.toNat 0 [] 0 ms) 0
    exact h1.trans h2
theorem foldl_ge {c : Tm → Nat} {n : Nat} : ∀ {ts : List Tm} {d : Nat}, n + 1 ≤ ts.foldl (fun a t => max a (c t)) d ↔ n + 1 ≤ d ∨ ∃ t ∈ ts, n + 1 ≤ c t
  | [], d => by simp
  | t :: ts, d => by
    show n + 1 ≤ ts.foldl _ (max d (c t)) ↔ _
    rw [foldl_ge]
    constructor
    · rintro (h | ⟨t', ht, h⟩)
      · by_cases q : n + 1 ≤ d
        · exact .inl q
        · exact .inr ⟨t, by simp, by omega⟩
      · exact .inr ⟨t', by simp [ht], h⟩
    · rintro (h | ⟨t', ht, h⟩)
      · exact .inl (by omega)
      · rcases List.mem_cons.1 ht with e | ht
        · subst e; exact .inl (by omega)
        · exact .inr ⟨t', ht, h⟩
theorem dep_iff {r : Rul} : ∀ {xs : List Leg} {ms : List Mb} {j : Nat}, j ≤ xs.length → (j ≤ dep r xs ms ↔ Fe r (xs.take j) ms)
  | _, _, 0, _ => by rw [List.take_zero]; exact ⟨fun _ => Fe_nil, fun _ => Nat.zero_le _⟩
  | [], _, j + 1, h => absurd h (by simp)
  | x :: xs, ms, j + 1, h => by
    have hj : j ≤ xs.length := by simpa using h
    show j + 1 ≤ (teamsP r x x.h.toNat 0 [] 0 ms).foldl (fun d t => max d (1 + dep r xs t.ms)) 0 ↔ Fe r (x :: xs.take j) ms
    rw [foldl_ge (c := fun t => 1 + dep r xs t.ms), Fe_cons]
    constructor
    · rintro (h | ⟨t, ht, h⟩)
      · omega
      · exact ⟨t, ht, (dep_iff hj).1 (by omega)⟩
    · rintro ⟨t, ht, h⟩
      have := (dep_iff hj).2 h
      exact .inr ⟨t, ht, by omega⟩
/-- If there is no plan: up to which leg there is one. -/
theorem asg_at {r : Rul} {xs : List Leg} {ms : List Mb} (h : (asgP r xs ms 0 0).1 = none) : (asgP r xs ms 0 0).2 < xs.length ∧ (asgP r (xs.take (asgP r xs ms 0 0).2) ms 0 0).1 ≠ none ∧ (asgP r (xs.take ((asgP r xs ms 0 0).2 + 1)) ms 0 0).1 = none ∧ (asgP r (xs.take ((asgP r xs ms 0 0).2 + 1)) ms 0 0).2 = (asgP r xs ms 0 0).2 := by
  have e : (asgP r xs ms 0 0).2 = dep r xs ms := by rw [asg_up h]; omega
  rw [e]
  have h0 := asg_iff.1 h
  have h1 : dep r xs ms < xs.length := by
    rcases Nat.lt_or_ge (dep r xs ms) xs.length with q | q
    · exact q
    · have := (dep_iff (Nat.le_refl _)).1 q
      rw [List.take_length] at this
      exact absurd this h0
  have h2 : Fe r (xs.take (dep r xs ms)) ms := (dep_iff (by omega)).1 (Nat.le_refl _)
  have h3 : ¬ Fe r (xs.take (dep r xs ms + 1)) ms := fun q => by have := (dep_iff (by omega)).2 q; omega
  have h4 : (asgP r (xs.take (dep r xs ms + 1)) ms 0 0).1 = none := asg_iff.2 h3
  refine ⟨h1, fun q => asg_iff.1 q h2, h4, ?_⟩
  rw [asg_up h4]
  have hl : (xs.take (dep r xs ms + 1)).length = dep r xs ms + 1 := by rw [List.length_take]; omega
  have h5 : dep r xs ms ≤ dep r (xs.take (dep r xs ms + 1)) ms := by
    refine (dep_iff (by omega)).2 ?_
    rw [List.take_take, Nat.min_eq_left (by omega)]; exact h2
  have h6 : ¬ dep r xs ms + 1 ≤ dep r (xs.take (dep r xs ms + 1)) ms := fun q => by
    have := (dep_iff (by omega)).1 q
    rw [List.take_take, Nat.min_self] at this
    exact h3 this
  omega
-- verifying
theorem giveGo_ok {r : Rul} {x : Leg} : ∀ {l : List Nat} {ms : List Mb} {seen : List Int} {pl : Int}, l.Nodup → (∀ k ∈ l, k < ms.length ∧ canM r x (nth ms k) = true ∧ (k : Int) ∉ seen) → giveGo r x (castL l) ms seen pl = some (aftN x l ms, pl + pltN x ms l)
  | [], ms, seen, pl, _, _ => by simp [giveGo, castL, aftN, pltN]
  | k :: l, ms, seen, pl, hn, h => by
    obtain ⟨h1, h2, h3⟩ := h k (by simp)
    have hn2 := List.nodup_cons.1 hn
    show giveGo r x ((k : Int) :: castL l) ms seen pl = _
    rw [giveGo, show ((k : Int)).toNat = k by omega, if_pos ⟨h2, h3⟩, giveGo_ok hn2.2 fun j hj => ?_, pltN_set h1 hn2.1]
    · simp only [aftN, pltN]; rw [Int.add_assoc]
    · obtain ⟨q1, q2, q3⟩ := h j (by simp [hj])
      have hjk : j ≠ k := fun e => hn2.1 (e ▸ hj)
      refine ⟨by rw [List.length_set]; exact q1, by rw [nth_set' h1, if_neg hjk]; exact q2, fun q => ?_⟩
      rcases List.mem_append.1 q with q | q
      · exact q3 q
      · have : (j : Int) = (k : Int) := List.mem_singleton.1 q
        omega
theorem giveP_ok {r : Rul} {x : Leg} {ms : List Mb} {ns l : List Nat} (h : TeamN r x ms x.h.toNat 0 0 ns) (hx : 0 ≤ x.h) (hl : l.Perm ns) : giveP r x (castL l) ms = some (aftN x ns ms) := by
  have hn : l.Nodup := hl.nodup_iff.2 h.asc.nodup
  have hb : ∀ k ∈ l, k < ms.length := fun k hk => (h.asc.mem (hl.mem_iff.1 hk)).2
  unfold giveP
  rw [giveGo_ok hn fun k hk => ⟨hb k hk, h.can k (hl.mem_iff.1 hk), by simp⟩]
  have h1 := h.plt
  have h2 := h.len
  have h3 := hl.length_eq
  simp only []
  rw [if_pos ⟨by rw [List.length_map]; omega, by rw [pltN_perm hl]; exact h1⟩, aftN_perm hl hn hb]
theorem ver_ok {r : Rul} : ∀ {xs : List Leg} {ms : List Mb} {p q : List (List Nat)} {k : Nat}, (∀ x ∈ xs, 0 ≤ x.h) → planOk r xs ms p → q.length = p.length → (∀ i, i < p.length → (nth q i).Perm (nth p i)) → verGo r xs (q.map castL) ms k = -1
  | [], ms, p, q, k, _, _, _, _ => by unfold verGo; rfl
  | x :: xs, ms, p, q, k, hx, h, hl, hq => by
    obtain ⟨ns, p', rfl, h1, h2⟩ := h
    match q, hl, hq with
    | l :: q', hl, hq =>
      show verGo r (x :: xs) (castL l :: q'.map castL) ms k = -1
      rw [verGo, giveP_ok (l := l) h1 (hx x (by simp)) (hq 0 (by simp))]
      exact ver_ok (fun x hx' => hx x (by simp [hx'])) h2 (by simpa using hl) (fun i hi => hq (i + 1) (by simpa using hi))
/-- The members ahead of a leg. -/
def stg : Nat → List Leg → List (List Nat) → List Mb → List Mb
  | 0, _, _, ms => ms
  | i + 1, x :: xs, ns :: p, ms => stg i xs p (aftN x ns ms)
  | _ + 1, _, _, ms => ms
theorem stg_at {r : Rul} : ∀ {xs : List Leg} {ms : List Mb} {p : List (List Nat)} {i : Nat}, planOk r xs ms p → i < xs.length → TeamN r (nth xs i) (stg i xs p ms) (nth xs i).h.toNat 0 0 (nth p i) ∧ stg (i + 1) xs p ms = aftN (nth xs i) (nth p i) (stg i xs p ms) ∧ (stg i xs p ms).length = ms.length
  | [], _, _, i, _, h => absurd h (Nat.not_lt_zero _)
  | x :: xs, ms, p, i, h, hi => by
    obtain ⟨ns, p', rfl, h1, h2⟩ := h
    match i, hi with
    | 0, _ => exact ⟨h1, rfl, rfl⟩
    | i + 1, hi =>
      obtain ⟨q1, q2, q3⟩ := stg_at h2 (show i < xs.length by simpa using hi)
      refine ⟨q1, q2, ?_⟩
      show (stg i xs p' (aftN x ns ms)).length = _
      rw [q3, aftN_len]
theorem nth_map2 {α β : Type} [Inhabited α] [Inhabited β] (f : α → β) {l : List α} {i : Nat} (h : i < l.length) : nth (l.map f) i = f (nth l i) := nth_map' f h

theorem brok_sub {r : Rul} (hr : okRul r = true) : ∀ {E D D' : List Sp}, D.Perm (D' ++ E) → (∀ x ∈ D, OkSp x) → brokP r (srtS D) = 0 → brokP r (srtS D') = 0
  | [], D, D', hp, hl, h => by rw [List.append_nil] at hp; rwa [← srt_of_perm hp]
  | e :: E, D, D', hp, hl, h => by
    have hq : D.Perm (e :: (D' ++ E)) := hp.trans List.perm_middle
    exact brok_sub hr (E := E) (List.Perm.refl _) (fun x hx => hl x (hq.mem_iff.2 (List.mem_cons_of_mem _ hx))) (brok_less hr hq hl h)
/-- A member with fewer times of work. -/
structure DomM (m m' : Mb) : Prop where
  f : m'.f = m.f
  u : m'.u = m.u
  ps : m'.ps = m.ps
  ts : ∃ D D' E, m.ts = srtS D ∧ m'.ts = srtS D' ∧ D.Perm (D' ++ E) ∧ ∀ x ∈ D, OkSp x
theorem DomM.board {s : Slr} (h : okSlr s = true) : DomM (boardP s) (boardP s) :=
  ⟨rfl, rfl, rfl, s.ds.map lngS, s.ds.map lngS, [], rfl, rfl, by rw [List.append_nil], fun x hx => by obtain ⟨d, hd, rfl⟩ := List.mem_map.1 hx; exact lng_ok ((okSlr_ok h).2.2.2 d hd)⟩
theorem canM_win {r : Rul} {x : Leg} {m : Mb} (h : canM r x m = true) : winM m.f m.u x = true ∧ brokP r (insS (lngS x.t) m.ts) = 0 := by
  unfold canM canB at h
  rw [Bool.and_eq_true, decide_eq_true_eq] at h; exact h
theorem DomM.can {r : Rul} (hr : okRul r = true) {x : Leg} (hx : okLeg x = true) {m m' : Mb} (h : DomM m m') (hc : canM r x m = true) : canM r x m' = true := by
  obtain ⟨h1, h2⟩ := canM_win hc
  obtain ⟨D, D', E, e1, e2, hp, hl⟩ := h.ts
  unfold canM canB
  rw [h.f, h.u, h1, Bool.true_and, decide_eq_true_eq, e2, ← srtS_cons]
  rw [e1, ← srtS_cons] at h2
  exact brok_sub hr (E := E) (D := lngS x.t :: D) (by rw [List.cons_append]; exact hp.cons _) (fun y hy => by
    rcases List.mem_cons.1 hy with e | hy
    · rw [e]; exact lng_ok (okLeg_ok hx).1
    · exact hl y hy) h2
theorem aftM_ts {r : Rul} {x : Leg} {m : Mb} (h : canM r x m = true) : (aftM x m).ts = insS (lngS x.t) m.ts := by
  unfold aftM canT; simp only []; rw [if_pos (canM_win h).1]
theorem DomM.more {r : Rul} {x : Leg} (hx : okLeg x = true) {m m' : Mb} (h : DomM m m') (hc : canM r x m = true) : DomM (aftM x m) m' := by
  obtain ⟨D, D', E, e1, e2, hp, hl⟩ := h.ts
  refine ⟨h.f, h.u, h.ps, lngS x.t :: D, D', lngS x.t :: E, by rw [aftM_ts hc, e1]; rfl, e2, (hp.cons _).trans List.perm_middle.symm, fun y hy => ?_⟩
  rcases List.mem_cons.1 hy with e | hy
  · rw [e]; exact lng_ok (okLeg_ok hx).1
  · exact hl y hy
theorem DomM.both {r : Rul} {x x' : Leg} (ht : x'.t = x.t) (hx : okLeg x = true) {m m' : Mb} (h : DomM m m') (hc : canM r x m = true) (hc' : canM r x' m' = true) : DomM (aftM x m) (aftM x' m') := by
  obtain ⟨D, D', E, e1, e2, hp, hl⟩ := h.ts
  refine ⟨h.f, h.u, h.ps, lngS x.t :: D, lngS x.t :: D', E, by rw [aftM_ts hc, e1]; rfl, by rw [aftM_ts hc', e2, ht]; rfl, by rw [List.cons_append]; exact hp.cons _, fun y hy => ?_⟩
  rcases List.mem_cons.1 hy with e | hy
  · rw [e]; exact lng_ok (okLeg_ok hx).1
  · exact hl y hy
/-- More members, each with fewer times of work. -/
def Dom (ms ms' : List Mb) : Prop := ms.length ≤ ms'.length ∧ ∀ i, i < ms.length → DomM (nth ms i) (nth ms' i)
theorem nth_apL {α : Type} [Inhabited α] {a b : List α} {i : Nat} (h : i < a.length) : nth (a ++ b) i = nth a i := by simp [nth, List.getD_eq_getElem?_getD, List.getElem?_append_left h]
theorem Dom.board {ss : List Slr} (h : ∀ s ∈ ss, okSlr s = true) (more : List Mb) : Dom (ss.map boardP) (ss.map boardP ++ more) := by
  refine ⟨by rw [List.length_append]; omega, fun i hi => ?_⟩
  rw [nth_apL hi]
  rw [List.length_map] at hi
  rw [nth_map2 _ hi]; exact DomM.board (h _ (nth_mem hi))
theorem Dom.self {ss : List Slr} (h : ∀ s ∈ ss, okSlr s = true) : Dom (ss.map boardP) (ss.map boardP) := by have := Dom.board h []; rwa [List.append_nil] at this
theorem AscN.wide {n n' : Nat} (hn : n ≤ n') : ∀ {l : List Nat} {i : Nat}, AscN i n l → AscN i n' l
  | [], _, _ => trivial
  | _ :: _, _, h => ⟨h.1, by have := h.2.1; omega, AscN.wide hn h.2.2⟩
theorem pltN_dom {x : Leg} {ms ms' : List Mb} (hd : Dom ms ms') : ∀ {l : List Nat}, (∀ k ∈ l, k < ms.length) → pltN x ms' l = pltN x ms l
  | [], _ => rfl
  | k :: l, h => by
    rw [pltN, pltN, pltN_dom hd fun i hi => h i (by simp [hi])]
    unfold pltI
    rw [(hd.2 k (h k (by simp))).ps]
/-- Fewer legs, or easier ones. -/
inductive Ez : List Leg → List Leg → Prop
  | nil : Ez [] []
  | skip {x xs xs'} : Ez xs xs' → Ez (x :: xs) xs'
  | keep {x xs xs'} : Ez xs xs' → Ez (x :: xs) (x :: xs')
  | ease {x xs xs'} : Ez xs xs' → Ez (x :: xs) (⟨x.r, x.t, 1, 0⟩ :: xs')
theorem Ez.refl : ∀ xs, Ez xs xs
  | [] => .nil
  | _ :: xs => .keep (Ez.refl xs)
theorem aft_dom {r : Rul} {x : Leg} (hx : okLeg x = true) {ms ms' : List Mb} (hd : Dom ms ms') {ns : List Nat} (hn : ns.Nodup) (hl : ∀ k ∈ ns, k < ms.length) (hc : ∀ k ∈ ns, canM r x (nth ms k) = true) : Dom (aftN x ns ms) ms' := by
  refine ⟨by rw [aftN_len]; exact hd.1, fun i hi => ?_⟩
  rw [aftN_len] at hi
  rw [aftN_at hn hl]
  by_cases e : i ∈ ns
  · rw [if_pos e]; exact (hd.2 i hi).more hx (hc i e)
  · rw [if_neg e]; exact hd.2 i hi
theorem aft_dom2 {r : Rul} {x x' : Leg} (ht : x'.t = x.t) (hx : okLeg x = true) {ms ms' : List Mb} (hd : Dom ms ms') {ns ns' : List Nat} (hn : ns.Nodup) (hl : ∀ k ∈ ns, k < ms.length) (hc : ∀ k ∈ ns, canM r x (nth ms k) = true) (hn' : ns'.Nodup) (hs : ∀ k ∈ ns', k ∈ ns) (hc' : ∀ k ∈ ns', canM r x' (nth ms' k) = true) : Dom (aftN x ns ms) (aftN x' ns' ms') := by
  refine ⟨by rw [aftN_len, aftN_len]; exact hd.1, fun i hi => ?_⟩
  rw [aftN_len] at hi
  rw [aftN_at hn hl, aftN_at hn' (fun k hk => by have := hl k (hs k hk); have := hd.1; omega)]
  by_cases e : i ∈ ns
  · rw [if_pos e]
    by_cases q : i ∈ ns'
    · rw [if_pos q]; exact (hd.2 i hi).both ht hx (hc i e) (hc' i q)
    · rw [if_neg q]; exact (hd.2 i hi).more hx (hc i e)
  · rw [if_neg e, if_neg (fun q => e (hs i q))]; exact hd.2 i hi
theorem Fe_ez {r : Rul} (hr : okRul r = true) : ∀ {xs xs' : List Leg} {ms ms' : List Mb}, Ez xs xs' → Dom ms ms' → (∀ x ∈ xs, okLeg x = true) → Fe r xs ms → Fe r xs' ms' := by
  intro xs xs' ms ms' he
  induction he generalizing ms ms' with
  | nil => intro _ _ _; exact Fe_nil
  | @skip x xs xs' _ ih =>
    rintro hd hx ⟨p, ns, p', rfl, hT, h2⟩
    have hx0 := hx x (by simp)
    exact ih (aft_dom hx0 hd hT.asc.nodup (fun k hk => (hT.asc.mem hk).2) hT.can) (fun y hy => hx y (by simp [hy])) ⟨p', h2⟩
  | @keep x xs xs' _ ih =>
    rintro hd hx ⟨p, ns, p', rfl, hT, h2⟩
    have hx0 := hx x (by simp)
    have hl : ∀ k ∈ ns, k < ms.length := fun k hk => (hT.asc.mem hk).2
    have hc : ∀ k ∈ ns, canM r x (nth ms' k) = true := fun k hk => (hd.2 k (hl k hk)).can hr hx0 (hT.can k hk)
    obtain ⟨q, hq⟩ := ih (aft_dom2 rfl hx0 hd hT.asc.nodup hl hT.can hT.asc.nodup (fun k hk => hk) hc) (fun y hy => hx y (by simp [hy])) ⟨p', h2⟩
    exact ⟨ns :: q, ns, q, rfl, ⟨hT.len, hT.asc.wide hd.1, hc, by rw [pltN_dom hd hl]; exact hT.plt⟩, hq⟩
  | @ease x xs xs' _ ih =>
    rintro hd hx ⟨p, ns, p', rfl, hT, h2⟩
    have hx0 := hx x (by simp)
    have hl : ∀ k ∈ ns, k < ms.length := fun k hk => (hT.asc.mem hk).2
    have hh := (okLeg_ok hx0).2.1
    have hlen := hT.len
    obtain ⟨k, hk⟩ : ∃ k, k ∈ ns := by
      match ns, hlen with
      | [], h => simp at h; omega
      | k :: _, _ => exact ⟨k, by simp⟩
    have hc : ∀ j ∈ [k], canM r ⟨x.r, x.t, 1, 0⟩ (nth ms' j) = true := fun j hj => by
      rw [List.mem_singleton.1 hj]; exact (hd.2 k (hl k hk)).can hr hx0 (hT.can k hk)
    obtain ⟨q, hq⟩ := ih (aft_dom2 (x := x) (x' := ⟨x.r, x.t, 1, 0⟩) (ns' := [k]) rfl hx0 hd hT.asc.nodup hl hT.can (by simp) (fun j hj => by rw [List.mem_singleton.1 hj]; exact hk) hc) (fun y hy => hx y (by simp [hy])) ⟨p', h2⟩
    exact ⟨[k] :: q, [k], q, rfl, ⟨rfl, ⟨Nat.zero_le _, by have := hl k hk; have := hd.1; omega, trivial⟩, hc, by have := (pltN_rng ⟨x.r, x.t, 1, 0⟩ ms' [k]).1; show (0 : Int) ≤ _; omega⟩, hq⟩
/-- The legs of these numbers. -/
def pickN (xs : List Leg) (ns : List Nat) : List Leg := ns.map fun k => nth xs k
theorem pick_castL (xs : List Leg) (ns : List Nat) : pickL xs (castL ns) = pickN xs ns := by
  unfold pickL castL pickN
  rw [List.map_map]; exact List.map_congr_left fun k _ => by simp
theorem Ez_drop {xs ys : List Leg} {k : Nat} : ∀ {d i : Nat}, k = i + d → Ez (xs.drop k) ys → Ez (xs.drop i) ys
  | 0, i, e, h => by rw [Nat.add_zero] at e; rwa [← e]
  | d + 1, i, e, h => by
    by_cases hi : i < xs.length
    · rw [drop_nth hi]; exact .skip (Ez_drop (d := d) (by omega) h)
    · rw [List.drop_of_length_le (by omega)] at h ⊢; exact h
theorem Ez_pick {xs : List Leg} : ∀ {ns : List Nat} {i : Nat}, AscN i xs.length ns → Ez (xs.drop i) (pickN xs ns)
  | [], i, _ => by
    have : ∀ l : List Leg, Ez l [] := fun l => by
      induction l with
      | nil => exact .nil
      | cons _ _ ih => exact .skip ih
    exact this _
  | k :: l, i, h => by
    have h2 : k < xs.length := h.2.1
    refine Ez_drop (k := k) (d := k - i) (by have := h.1; omega) ?_
    rw [drop_nth h2]
    exact .keep (Ez_pick h.2.2)
theorem pickN_take {xs : List Leg} {n : Nat} {ns : List Nat} (h : ∀ k ∈ ns, k < n) : pickN (xs.take n) ns = pickN xs ns :=
  List.map_congr_left fun k hk => by
    have := h k hk
    simp [nth, List.getD_eq_getElem?_getD, this]
theorem AscN.len {n : Nat} : ∀ {l : List Nat} {i : Nat}, AscN i n l → l.length ≤ n - i
  | [], _, _ => Nat.zero_le _
  | k :: l, i, h => by
    have := AscN.len h.2.2
    have h1 := h.1; have h2 := h.2.1
    rw [List.length_cons]; omega
theorem mem_ch {n : Nat} : ∀ {m i : Nat} {l : List Int}, l ∈ chP n m i ↔ ∃ ns, AscN i n ns ∧ ns.length = m ∧ l = castL ns
  | 0, i, l => by
    rw [chP, List.mem_singleton]
    constructor
    · rintro rfl; exact ⟨[], trivial, rfl, rfl⟩
    · rintro ⟨ns, _, h, rfl⟩; rw [List.length_eq_zero_iff.1 h]; rfl
  | m + 1, i, l => by
    rw [chP, List.mem_flatMap]
    constructor
    · rintro ⟨k, hk, hl⟩
      obtain ⟨l2, hl2, rfl⟩ := List.mem_map.1 hl
      obtain ⟨ns, h1, h2, rfl⟩ := mem_ch.1 hl2
      have hk2 := List.mem_range'_1.1 hk
      exact ⟨k :: ns, ⟨hk2.1, by omega, h1⟩, by rw [List.length_cons, h2], rfl⟩
    · rintro ⟨ns, h1, h2, rfl⟩
      match ns, h1, h2 with
      | k :: ns, h1, h2 =>
        have h3 := AscN.len h1.2.2
        have h4 := h1.1; have h5 := h1.2.1
        rw [List.length_cons] at h2
        exact ⟨k, List.mem_range'_1.2 (by omega), List.mem_map.2 ⟨castL ns, mem_ch.2 ⟨ns, h1.2.2, by omega, rfl⟩, rfl⟩⟩
theorem AscN_range {n : Nat} : ∀ (d i : Nat), i + d = n → AscN i n (List.range' i d)
  | 0, _, _ => trivial
  | d + 1, i, h => by rw [List.range'_succ]; exact ⟨Nat.le_refl _, by omega, AscN_range d (i + 1) (by omega)⟩
theorem pick_all (xs : List Leg) : pickN xs (List.range' 0 xs.length) = xs := by
  unfold pickN
  refine ext_nth (by simp) fun i hi => ?_
  rw [List.length_map, List.length_range'] at hi
  rw [nth_map2 _ (by simpa using hi)]
  simp [nth, List.getD_eq_getElem?_getD, hi]
/-- What Short says where no assignment of all legs is safe. -/
structure ShortN (r : Rul) (ms : List Mb) (xs : List Leg) (ns : List Nat) : Prop where
  asc : AscN 0 xs.length ns
  pos : 0 < ns.length
  no : sfP r (pickN xs ns) ms = false
  less : ∀ k, k < ns.length → sfP r (pickN xs (ns.take k ++ ns.drop (k + 1))) ms = true
theorem AscN.takeDrop {n : Nat} : ∀ {l : List Nat} {i k : Nat}, AscN i n l → AscN i n (l.take k ++ l.drop (k + 1))
  | [], _, k, _ => by simp [AscN]
  | a :: l, i, 0, h => by
    show AscN i n l
    match l, h with
    | [], _ => trivial
    | b :: l, h => exact ⟨by have := h.1; have := h.2.2.1; omega, h.2.2.2.1, h.2.2.2.2⟩
  | a :: l, i, k + 1, h => ⟨h.1, h.2.1, AscN.takeDrop h.2.2⟩
theorem short_of {r : Rul} {ss : List Slr} {xs : List Leg} {l : List Int} {e : Int} (h : ShortR r ss xs l e) (h0 : openE r ss xs = 0) (hn : sfP r xs (ss.map boardP) = false) : e = 0 ∧ ∃ ns, l = castL ns ∧ ShortN r (ss.map boardP) xs ns := by
  rcases h with ⟨h, _⟩ | ⟨_, h, _⟩ | ⟨_, _, h1, many, pre, post, hm, hf, hc, _, h2⟩ | ⟨_, _, hf, _⟩
  · exact absurd h0 h
  · rw [hn] at h; cases h
  · refine ⟨h1, ?_⟩
    obtain ⟨ns, a1, a2, rfl⟩ := mem_ch.1 (show l ∈ chP xs.length many 0 by rw [hc]; simp)
    rw [pick_castL] at h2
    refine ⟨ns, rfl, a1, ?_, h2, fun k hk => ?_⟩
    · rcases Nat.eq_zero_or_pos ns.length with q | q
      · rw [List.length_eq_zero_iff.1 q] at h2
        have : sfP r (pickN xs []) (ss.map boardP) = true := sf_iff.2 Fe_nil
        rw [this] at h2; cases h2
      · exact q
    · rw [← pick_castL]
      exact hf (many - 1) (by omega) _ (mem_ch.2 ⟨_, a1.takeDrop, by rw [List.length_append, List.length_take, List.length_drop]; omega, rfl⟩)
  · have := hf xs.length (Nat.lt_succ_self _) _ (mem_ch.2 ⟨List.range' 0 xs.length, AscN_range _ 0 (by omega), by simp, rfl⟩)
    rw [pick_castL, pick_all, hn] at this; cases this
/-- The last leg that is told is not before the one up to which a plan comes. -/
theorem short_last {r : Rul} (hr : okRul r = true) {ss : List Slr} {xs : List Leg} {ns : List Nat} {up : Nat} (hs : ∀ s ∈ ss, okSlr s = true) (hx : ∀ x ∈ xs, okLeg x = true) (h : ShortN r (ss.map boardP) xs ns) (hu : Fe r (xs.take up) (ss.map boardP)) : up ≤ nth ns (ns.length - 1) := by
  refine Nat.le_of_not_lt fun hlt => ?_
  have hpos := h.pos
  have hall : ∀ k ∈ ns, k < up := fun k hk => by
    obtain ⟨i, hi, e⟩ := List.getElem_of_mem hk
    have : ∀ d, i + d < ns.length → nth ns i ≤ nth ns (i + d) := fun d => by
      induction d with
      | zero => intro _; exact Nat.le_refl _
      | succ d ih =>
        intro hd
        have h1 := ih (by omega)
        have h2 := h.asc.lt (a := i + d + 1) (by omega) (by omega)
        rw [show i + d + 1 - 1 = i + d by omega] at h2
        show nth ns i ≤ nth ns (i + d + 1)
        omega
    have h3 := this (ns.length - 1 - i) (by omega)
    rw [show i + (ns.length - 1 - i) = ns.length - 1 by omega, nth_eq hi, e] at h3
    omega
  have hasc : AscN 0 (xs.take up).length ns := by
    have : ∀ {l : List Nat} {i : Nat}, AscN i xs.length l → (∀ k ∈ l, k < up) → AscN i (xs.take up).length l := by
      intro l
      induction l with
      | nil => intro i _ _; trivial
      | cons a l ih =>
        intro i h1 h2
        have h3 := h2 a (by simp); have h4 := h1.2.1
        exact ⟨h1.1, by rw [List.length_take]; omega, ih h1.2.2 fun k hk => h2 k (by simp [hk])⟩
    exact this h.asc hall
  have hf := Fe_ez hr (Ez_pick hasc) (Dom.self hs) (fun x hx2 => hx x (List.mem_of_mem_take hx2)) hu
  rw [pickN_take hall] at hf
  have := sf_iff.2 hf
  rw [h.no] at this; cases this

/-! ### The document's examples -/
def knR : Rul := ⟨600, 840, 600, 2880, 1000⟩
def knD (b e : Int) : Dty := ⟨b, b, e, e⟩
def knL : List Dty := [knD 0 300, knD 400 700]
def knM : List Dty := [knD 0 300, knD 899 1200]
theorem kn_chk : chkRD knR knL = 0 ∧ chkRD knR knM = 0 := ⟨by kernel_rfl, by kernel_rfl⟩
theorem kn_b1 : brkK knR knM 1 = 0 := by kernel_rfl
theorem kn_b2 : brkK knR knM 2 = 2 := by kernel_rfl
theorem kn_b3 : brokP knR (srtS (knM.map shtS)) = 2 := by kernel_rfl
theorem kn_rested {at_ rule e : Int} {pos : Bool} (h : RestA knR knM at_ rule pos e) : at_ = 1 ∧ rule = 2 ∧ pos = false ∧ e = 0 := by
  rcases h with ⟨h, _⟩ | ⟨_, h1, h2, h3⟩
  · exact absurd kn_chk.2 h
  · rw [kn_b3] at h3
    rcases h2 with ⟨_, _, h4⟩ | ⟨k, hk, h4, h5, h6, h7⟩
    · have := h4 1 (by decide); rw [kn_b2] at this; cases this
    · match k, hk with
      | 0, _ => rw [kn_b1] at h5; exact absurd h5 h6
      | 1, _ => rw [kn_b2] at h5; exact ⟨h4, h5, h3, h1⟩
theorem kn_next0 : ((List.range 600).all fun i => brokP knR (insS ⟨700 + (i : Int), 760 + (i : Int)⟩ (srtS (knL.map lngS))) != 0) = true := by kernel_rfl
theorem kn_next1 : brokP knR (insS ⟨1300, 1360⟩ (srtS (knL.map lngS))) = 0 := by kernel_rfl
theorem kn_next2 : brokP knR (srtS (knL.map lngS)) = 0 ∧ mxF (srtS (knL.map lngS)) 700 (srtS (knL.map lngS)).length = 700 := ⟨by kernel_rfl, by kernel_rfl⟩
theorem kn_next {t e : Int} (h : NextA knR knL 700 60 t e) : t = 1300 ∧ e = 0 := by
  rcases h with ⟨h, _⟩ | ⟨_, h, _⟩ | ⟨_, _, h | ⟨_, h⟩⟩
  · exact absurd kn_chk.1 h
  · exact absurd (by decide) h
  · exact absurd kn_next2.1 h.1
  · rw [kn_next2.2] at h
    rcases h with ⟨h1, h2, h3, h4, h5⟩ | ⟨_, _, h5⟩
    · refine ⟨?_, h1⟩
      rcases Int.lt_trichotomy t 1300 with q | q | q
      · have h6 := List.all_eq_true.1 kn_next0 (t - 700).toNat (List.mem_range.2 (by omega))
        rw [show (((t - 700).toNat : Nat) : Int) = t - 700 by omega, show (700 : Int) + (t - 700) = t by omega, show (760 : Int) + (t - 700) = t + 60 by omega, h4] at h6
        cases h6
      · exact q
      · exact absurd kn_next1 (h5 1300 (by omega) q)
    · exact absurd kn_next1 (h5 1300 (by omega) (by omega))

end Go.Proofs.YtclinbbghnebaaaGreat
