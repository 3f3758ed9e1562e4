/-
  The reference's losses: plain. Conditions: none.
-/
import Derived.Test.YtgkkgpenmppjcaaA18
namespace Go.Proofs.Ytgkkgpenmppjcaa
open Go Go.RowKit

theorem stepS_seal {sp : List Span} {i : Int} {x : Sur} (hx : x.sealed = true) (hp : 0 < sp.length) : (stepS sp i x).length = sp.length ∧ nth (stepS sp i x) (sp.length - 1) = narrowF (nth sp (sp.length - 1)) x ∧ (∀ k, k ≠ sp.length - 1 → nth (stepS sp i x) k = nth sp k) ∧ (∀ k, k < sp.length → begS (stepS sp i x) k = begS sp k) := by
  have e : stepS sp i x = sp.set (sp.length - 1) (narrowF (nth sp (sp.length - 1)) x) := by unfold stepS openS; rw [hx]; rfl
  rw [e]
  have hk : ∀ k, k ≠ sp.length - 1 → nth (sp.set (sp.length - 1) (narrowF (nth sp (sp.length - 1)) x)) k = nth sp k := fun k hk => nth_set_neS hk
  refine ⟨by rw [List.length_set], nth_set_eq (by omega), hk, fun k hk2 => ?_⟩
  unfold begS
  split
  · rfl
  · rw [hk _ (by omega)]
theorem stepS_open {sp : List Span} {i : Int} {x : Sur} (hx : x.sealed = false) : (stepS sp i x).length = sp.length + 1 ∧ nth (stepS sp i x) sp.length = narrowF ⟨(nth sp (sp.length - 1)).lo, 1000000, i⟩ x ∧ (∀ k, k < sp.length → nth (stepS sp i x) k = nth sp k) ∧ (∀ k, k ≤ sp.length → begS (stepS sp i x) k = begS sp k) := by
  have e : stepS sp i x = sp ++ [narrowF ⟨(nth sp (sp.length - 1)).lo, 1000000, i⟩ x] := by
    unfold stepS openS
    rw [hx]
    simp only [Bool.false_eq_true, if_false, List.length_append, List.length_singleton, Nat.add_sub_cancel]
    rw [snoc_nth, List.set_append_right _ _ (Nat.le_refl _), Nat.sub_self]; rfl
  rw [e]
  have hk : ∀ k, k < sp.length → nth (sp ++ [narrowF ⟨(nth sp (sp.length - 1)).lo, 1000000, i⟩ x]) k = nth sp k := fun k hk => snoc_lt hk
  refine ⟨by simp, snoc_nth, hk, fun k hk2 => ?_⟩
  unfold begS
  split
  · rfl
  · rw [hk _ (by omega)]
/-- The spans after k surveys, whatever they are. -/
def spK (l : List Sur) : Nat → List Span
  | 0 => [⟨0, 0, 0⟩]
  | k + 1 => stepS (spK l k) k (nth l k)
theorem spK_take {l : List Sur} {n : Nat} : ∀ {k : Nat}, k ≤ n → spK (l.take n) k = spK l k
  | 0, _ => rfl
  | k + 1, h => by
    show stepS (spK (l.take n) k) k (nth (l.take n) k) = stepS (spK l k) k (nth l k)
    rw [spK_take (by omega), nth_take (by omega)]
/-- What holds of the spans, also of those that cannot be. -/
structure SpE (sp : List Span) (n : Nat) : Prop where
  pos : 0 < sp.length
  end_ : (nth sp (sp.length - 1)).en = n
  up : ∀ k, k < sp.length → 0 ≤ begS sp k ∧ begS sp k ≤ (nth sp k).en ∧ (nth sp k).en ≤ n
  rng : ∀ k, k < sp.length → 0 ≤ (nth sp k).lo ∧ (nth sp k).hi ≤ 1000000
  mono : ∀ q k, q < k → k < sp.length → (nth sp q).lo ≤ (nth sp k).lo
theorem SpE.step {sp : List Span} {n : Nat} (h : SpE sp n) (x : Sur) : SpE (stepS sp n x) (n + 1) := by
  have hp := h.pos
  have he := h.end_
  have hr0 := h.rng (sp.length - 1) (by omega)
  have hu0 := h.up (sp.length - 1) (by omega)
  cases hx : x.sealed with
  | true =>
    obtain ⟨h1, h2, h3, h4⟩ := stepS_seal (sp := sp) (i := (n : Int)) hx hp
    generalize stepS sp n x = sq at *
    have e2 : (nth sq (sp.length - 1)).lo = max (nth sp (sp.length - 1)).lo (x.book - x.hi) ∧ (nth sq (sp.length - 1)).hi = min (nth sp (sp.length - 1)).hi (x.book - x.lo) ∧ (nth sq (sp.length - 1)).en = (nth sp (sp.length - 1)).en + 1 := by rw [h2]; exact ⟨rfl, rfl, rfl⟩
    refine ⟨by omega, by rw [h1, e2.2.2]; omega, fun k hk => ?_, fun k hk => ?_, fun q k hq hk => ?_⟩
    · rw [h4 k (by omega)]
      have hu := h.up k (by omega)
      by_cases hc : k = sp.length - 1
      · subst hc; omega
      · rw [h3 k hc]; omega
    · have hr := h.rng k (by omega)
      by_cases hc : k = sp.length - 1
      · subst hc; omega
      · rw [h3 k hc]; exact hr
    · rw [h3 q (by omega)]
      have hm := h.mono q k hq (by omega)
      by_cases hc : k = sp.length - 1
      · subst hc; omega
      · rw [h3 k hc]; exact hm
  | false =>
    obtain ⟨h1, h2, h3, h4⟩ := stepS_open (sp := sp) (i := (n : Int)) hx
    generalize stepS sp n x = sq at *
    have e2 : (nth sq sp.length).lo = max (nth sp (sp.length - 1)).lo (x.book - x.hi) ∧ (nth sq sp.length).hi = min 1000000 (x.book - x.lo) ∧ (nth sq sp.length).en = (n : Int) + 1 := by rw [h2]; exact ⟨rfl, rfl, rfl⟩
    have hb : begS sp sp.length = n := by unfold begS; rw [if_neg (by omega), he]
    refine ⟨by omega, by rw [h1, Nat.add_sub_cancel, e2.2.2]; omega, fun k hk => ?_, fun k hk => ?_, fun q k hq hk => ?_⟩
    · rw [h4 k (by omega)]
      by_cases hc : k = sp.length
      · subst hc; rw [hb]; omega
      · have hu := h.up k (by omega)
        rw [h3 k (by omega)]; omega
    · by_cases hc : k = sp.length
      · subst hc; omega
      · rw [h3 k (by omega)]; exact h.rng k (by omega)
    · rw [h3 q (by omega)]
      by_cases hc : k = sp.length
      · subst hc
        rcases Nat.lt_or_ge q (sp.length - 1) with h9 | h9
        · have hm := h.mono q (sp.length - 1) h9 (by omega); omega
        · have : q = sp.length - 1 := by omega
          subst this; omega
      · rw [h3 k (by omega)]; exact h.mono q k hq (by omega)
theorem SpE.first : SpE [⟨0, 0, 0⟩] 0 := by
  refine ⟨by simp, rfl, fun k hk => ?_, fun k hk => ?_, fun q k hq hk => ?_⟩
  · have : k = 0 := by simpa using hk
    subst this; decide
  · have : k = 0 := by simpa using hk
    subst this; decide
  · have : k = 0 := by simpa using hk
    omega
theorem spE (l : List Sur) : ∀ k, SpE (spK l k) k
  | 0 => SpE.first
  | k + 1 => (spE l k).step _
theorem begE_mono {sp : List Span} {n : Nat} (h : SpE sp n) {q k : Nat} (hqk : k < q) (hq : q < sp.length) : (nth sp k).en ≤ begS sp q := by
  induction q with
  | zero => omega
  | succ q ih =>
    have e : begS sp (q + 1) = (nth sp q).en := by unfold begS; rw [if_neg (by omega)]; rfl
    rw [e]
    rcases Nat.lt_or_ge k q with h1 | h1
    · have h2 := ih h1 (by omega)
      have h3 := h.up q (by omega)
      omega
    · have : k = q := by omega
      subst this; exact Int.le_refl _
/-- The span of a survey is one. -/
theorem span_one {sp : List Span} {n : Nat} (h : SpE sp n) {q k i : Nat} (hq : q < sp.length) (hk : k < sp.length) (a1 : begS sp q ≤ i) (a2 : (i : Int) < (nth sp q).en) (b1 : begS sp k ≤ i) (b2 : (i : Int) < (nth sp k).en) : q = k := by
  rcases Nat.lt_trichotomy q k with h1 | h1 | h1
  · have := begE_mono h h1 hk; omega
  · exact h1
  · have := begE_mono h h1 hq; omega
/-- The surveys cannot all be. -/
def FitBad (l : List Sur) (k : Nat) : Prop := ∃ q, q < (spK l k).length ∧ begS (spK l k) q < (nth (spK l k) q).en ∧ mostF ((spK l k).drop q) < (nth (spK l k) q).lo
theorem mostF_ge {a : Int} : ∀ {l : List Span}, a ≤ 1000000 → (∀ s ∈ l, a ≤ s.hi) → a ≤ mostF l
  | [], h, _ => h
  | s :: l, h, hs => by
    have := hs s (by simp)
    have := mostF_ge (l := l) h (fun t ht => hs t (by simp [ht]))
    simp only [mostF]; omega
theorem mostF_one {sp : List Span} (hp : 0 < sp.length) : mostF (sp.drop (sp.length - 1)) = min (nth sp (sp.length - 1)).hi 1000000 := by
  rw [drop_nth (by omega), show sp.length - 1 + 1 = sp.length by omega, List.drop_length]; rfl
/-- With no bad step up to k, all surveys up to k can be. -/
theorem fit_ok {l : List Sur} {k : Nat} (h : ∀ j, j < k → ¬ badS (spK l (j + 1))) : ¬ FitBad l k := by
  have hall : ∀ k, (∀ j, j < k → ¬ badS (spK l (j + 1))) → ∀ q, q < (spK l k).length → (nth (spK l k) q).lo ≤ (nth (spK l k) q).hi := by
    intro k
    induction k with
    | zero =>
      intro _ q hq
      have : q = 0 := by simpa [spK] using hq
      subst this; exact Int.le_refl 0
    | succ k ih =>
      intro h q hq
      have ih := ih (fun j hj => h j (by omega))
      have hb := h k (by omega)
      have hE := spE l k
      have hp := hE.pos
      have hq' : q < (stepS (spK l k) k (nth l k)).length := hq
      show (nth (stepS (spK l k) k (nth l k)) q).lo ≤ (nth (stepS (spK l k) k (nth l k)) q).hi
      have hb : ¬ badS (stepS (spK l k) k (nth l k)) := hb
      unfold badS at hb
      cases hx : (nth l k).sealed with
      | true =>
        obtain ⟨h1, h2, h3, h4⟩ := stepS_seal (sp := spK l k) (i := (k : Int)) hx hp
        rw [h1] at hb
        by_cases hc : q = (spK l k).length - 1
        · subst hc; omega
        · rw [h3 q hc]; exact ih q (by omega)
      | false =>
        obtain ⟨h1, h2, h3, h4⟩ := stepS_open (sp := spK l k) (i := (k : Int)) hx
        rw [h1, Nat.add_sub_cancel] at hb
        by_cases hc : q = (spK l k).length
        · subst hc; omega
        · rw [h3 q (by omega)]; exact ih q (by omega)
  rintro ⟨q, hq, _, hlt⟩
  have hE := spE l k
  have hr := hall k h
  have h1 : (nth (spK l k) q).lo ≤ mostF ((spK l k).drop q) := by
    refine mostF_ge (by have := hE.rng q hq; have := hr q hq; omega) (fun s hs => ?_)
    obtain ⟨j, hj, rfl⟩ := List.mem_iff_getElem.1 hs
    rw [List.length_drop] at hj
    rw [List.getElem_drop, ← nth_eq (by omega)]
    have h2 := hr (q + j) (by omega)
    rcases Nat.eq_zero_or_pos j with h0 | h0
    · subst h0; exact h2
    · have := hE.mono q (q + j) (by omega) (by omega); omega
  omega
theorem fit_bad {l : List Sur} {k : Nat} (h : badS (spK l (k + 1))) : FitBad l (k + 1) := by
  have hE := spE l (k + 1)
  have hp := hE.pos
  unfold badS at h
  refine ⟨(spK l (k + 1)).length - 1, by omega, ?_, by rw [mostF_one hp]; omega⟩
  have hE0 := spE l k
  have hp0 := hE0.pos
  have he0 := hE0.end_
  rw [hE.end_]
  show begS (stepS (spK l k) k (nth l k)) ((stepS (spK l k) k (nth l k)).length - 1) < _
  cases hx : (nth l k).sealed with
  | true =>
    obtain ⟨h1, h2, h3, h4⟩ := stepS_seal (sp := spK l k) (i := (k : Int)) hx hp0
    rw [h1, h4 _ (by omega)]
    have := hE0.up ((spK l k).length - 1) (by omega)
    omega
  | false =>
    obtain ⟨h1, h2, h3, h4⟩ := stepS_open (sp := spK l k) (i := (k : Int)) hx
    rw [h1, Nat.add_sub_cancel, h4 _ (Nat.le_refl _)]
    unfold begS
    rw [if_neg (by omega), he0]; omega
theorem run_spK {l : List Sur} : ∀ {k : Nat}, k ≤ l.length → (∀ j, j < k → ¬ badS (spK l (j + 1))) → runS l 0 [⟨0, 0, 0⟩] = runS (l.drop k) k (spK l k)
  | 0, _, _ => rfl
  | k + 1, h, hb => by
    have hk : ¬ badS (stepS (spK l k) k (nth l k)) := hb k (by omega)
    rw [run_spK (k := k) (by omega) (fun j hj => hb j (by omega)), drop_nth (show k < l.length by omega), runS, if_neg hk]; rfl
/-- What the run says, in words of single steps. -/
theorem run_cases (l : List Sur) : (∃ i, i < l.length ∧ runS l 0 [⟨0, 0, 0⟩] = ([], (i : Int)) ∧ badS (spK l (i + 1)) ∧ ∀ j, j < i → ¬ badS (spK l (j + 1))) ∨ (runS l 0 [⟨0, 0, 0⟩] = (spK l l.length, -1) ∧ ∀ j, j < l.length → ¬ badS (spK l (j + 1))) := by
  have h : ∀ k, k ≤ l.length → (∃ i, i < k ∧ badS (spK l (i + 1)) ∧ ∀ j, j < i → ¬ badS (spK l (j + 1))) ∨ (∀ j, j < k → ¬ badS (spK l (j + 1))) := by
    intro k
    induction k with
    | zero => intro _; exact .inr (fun j hj => by omega)
    | succ k ih =>
      intro hk
      rcases ih (by omega) with ⟨i, h1, h2⟩ | h1
      · exact .inl ⟨i, by omega, h2⟩
      · by_cases hb : badS (spK l (k + 1))
        · exact .inl ⟨k, by omega, hb, h1⟩
        · exact .inr (fun j hj => by
            rcases Nat.lt_or_ge j k with h9 | h9
            · exact h1 j h9
            · have : j = k := by omega
              subst this; exact hb)
  rcases h l.length (Nat.le_refl _) with ⟨i, h1, h2, h3⟩ | h1
  · refine .inl ⟨i, h1, ?_, h2, h3⟩
    have hk : badS (stepS (spK l i) i (nth l i)) := h2
    rw [run_spK (by omega) h3, drop_nth h1, runS, if_pos hk]
  · refine .inr ⟨?_, h1⟩
    rw [run_spK (Nat.le_refl _) h1, List.drop_length]; rfl

end Go.Proofs.Ytgkkgpenmppjcaa
