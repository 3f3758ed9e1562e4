/-
  Crews: what less work, milder rules and shorter times do. Conditions: none.
-/
import Derived.Test.YtagmodjadmecdaaGreatMA5
namespace Go.Proofs.YtagmodjadmecdaaGreat
open Go Go.RowKit

/-- Times of which some are left out, and the others are shorter. -/
inductive Shr : List Sp → List Sp → Prop
  | nil : Shr [] []
  | drop (s : Sp) {l' l : List Sp} : Shr l' l → Shr l' (s :: l)
  | keep {s' s : Sp} {l' l : List Sp} : s.b ≤ s'.b → s'.b ≤ s'.e → s'.e ≤ s.e → Shr l' l → Shr (s' :: l') (s :: l)
theorem Shr.refl : ∀ {l : List Sp}, (∀ x ∈ l, OkSp x) → Shr l l
  | [], _ => .nil
  | s :: l, h => .keep (Int.le_refl _) (h s (by simp)).2.1 (Int.le_refl _) (Shr.refl fun x hx => h x (by simp [hx]))
theorem Shr.mem {l' l : List Sp} (h : Shr l' l) : ∀ {x'}, x' ∈ l' → ∃ x, x ∈ l ∧ x.b ≤ x'.b ∧ x'.b ≤ x'.e ∧ x'.e ≤ x.e := by
  induction h with
  | nil => intro x' hx; cases hx
  | drop s _ ih => intro x' hx; obtain ⟨x, h1, h2⟩ := ih hx; exact ⟨x, by simp [h1], h2⟩
  | keep h1 h2 h3 _ ih =>
    intro x' hx
    rcases List.mem_cons.1 hx with e | hx
    · subst e; exact ⟨_, by simp, h1, h2, h3⟩
    · obtain ⟨x, h4, h5⟩ := ih hx; exact ⟨x, by simp [h4], h5⟩
theorem Shr.ok {l' l : List Sp} (h : Shr l' l) (hl : ∀ x ∈ l, OkSp x) : ∀ x ∈ l', OkSp x := fun x' hx => by
  obtain ⟨x, h1, h2, h3, h4⟩ := h.mem hx
  have := hl x h1
  unfold OkSp at this ⊢; omega
/-- Rules that are not harder. -/
def Mild (r r' : Rul) : Prop := r'.rest ≤ r.rest ∧ r.span ≤ r'.span ∧ r.work ≤ r'.work ∧ r.week = r'.week ∧ r.ww ≤ r'.ww
theorem Mild.refl (r : Rul) : Mild r r := ⟨Int.le_refl _, Int.le_refl _, Int.le_refl _, rfl, Int.le_refl _⟩
/-- A shift is short enough. -/
def ShOk (r : Rul) (x : Shf) : Prop := x.e - x.b ≤ r.span ∧ x.w ≤ r.work
def GoOk (r : Rul) (x : Shf) (l : List Sp) : Prop := ∀ y ∈ shGo r x l, ShOk r y
theorem goOk_nil {r : Rul} {x : Shf} : GoOk r x [] ↔ ShOk r x := by unfold GoOk shGo; simp
theorem goOk_cons {r : Rul} {x : Shf} {s : Sp} {l : List Sp} : GoOk r x (s :: l) ↔ if s.b < x.e + r.rest then GoOk r ⟨x.b, max x.e s.e, x.w + (s.e - s.b)⟩ l else ShOk r x ∧ GoOk r ⟨s.b, s.e, s.e - s.b⟩ l := by
  unfold GoOk
  rw [shGo]
  split
  · exact Iff.rfl
  · simp
/-- The shift that has begun is short enough. -/
theorem GoOk.first {r : Rul} : ∀ {l : List Sp} {x : Shf}, (∀ s ∈ l, OkSp s) → GoOk r x l → ShOk r x
  | [], x, _, h => goOk_nil.1 h
  | s :: l, x, hl, h => by
    rw [goOk_cons] at h
    split at h
    · have h1 := GoOk.first (fun s hs => hl s (by simp [hs])) h
      have h2 := hl s (by simp)
      unfold ShOk at h1 ⊢; unfold OkSp at h2; simp only [] at h1; omega
    · exact h.1
/-- A shift lies in another one. -/
def ShIn (x' x : Shf) : Prop := x.b ≤ x'.b ∧ x'.e ≤ x.e ∧ x'.w ≤ x.w
theorem ShIn.ok {r r' : Rul} {x x' : Shf} (hm : Mild r r') (h : ShIn x' x) (hx : ShOk r x) : ShOk r' x' := by
  unfold Mild at hm; unfold ShIn at h; unfold ShOk at hx ⊢; omega
-- windows
def sumW (l : List Sp) (a b : Int) : Int := sumI2 (l.map fun s => inW s a b)
theorem sumW_cons (s : Sp) (l : List Sp) (a b : Int) : sumW (s :: l) a b = inW s a b + sumW l a b := rfl
theorem sumW_zero {l : List Sp} {a b : Int} (h : ∀ s ∈ l, inW s a b = 0) : sumW l a b = 0 := by
  induction l with
  | nil => rfl
  | cons s l ih => rw [sumW_cons, h s (by simp), ih fun x hx => h x (by simp [hx])]; rfl
-- what Rested says
end Go.Proofs.YtagmodjadmecdaaGreat
