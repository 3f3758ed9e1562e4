/-
  The reference's Fit: plain. Conditions: none.
-/
import Derived.Test.YtgkkgpenmppjcaaA19
namespace Go.Proofs.Ytgkkgpenmppjcaa
open Go Go.RowKit

def gOpen (gs : List Bd) (k : Nat) (x : Sur) : List Bd := if x.sealed = true then (if k = 0 then gs ++ [⟨0, 0⟩] else gs) else gs ++ [⟨0, 1000000⟩]
def gNar (gs : List Bd) (x : Sur) : List Bd := gs.set (gs.length - 1) ⟨max (nth gs (gs.length - 1)).lo (x.book - x.hi), min (nth gs (gs.length - 1)).hi (x.book - x.lo)⟩
structure FitR (l : List Sur) (k f : Nat) (of : List Int) (gs : List Bd) : Prop where
  len : (spK l k).length = gs.length + f
  nil : k = 0 → of = [] ∧ gs = []
  pos : 0 < k → 0 < gs.length
  cap : gs.length ≤ k
  hi : ∀ g, g < gs.length → (nth gs g).hi = (nth (spK l k) (g + f)).hi
  lo0 : 0 < gs.length → (nth gs 0).lo = (nth (spK l k) f).lo
  lo : ∀ g, g + 1 < gs.length → (nth (spK l k) (g + 1 + f)).lo = max (nth gs (g + 1)).lo (nth (spK l k) (g + f)).lo
  ofl : of.length = k
  of : ∀ i, i < k → 0 ≤ nth of i ∧ nth of i < gs.length ∧ begS (spK l k) ((nth of i).toNat + f) ≤ i ∧ (i : Int) < (nth (spK l k) ((nth of i).toNat + f)).en
def FitX (l : List Sur) (k : Nat) (of : List Int) (gs : List Bd) : Prop := ∃ f, FitR l k f of gs
theorem FitX.nil (l : List Sur) : FitX l 0 [] [] := ⟨1, rfl, fun _ => ⟨rfl, rfl⟩, fun h => absurd h (by omega), Nat.le_refl _, fun g h => absurd h (by simp), fun h => absurd h (by simp), fun g h => absurd h (by simp), rfl, fun i h => absurd h (by omega)⟩
theorem FitX.open {l : List Sur} {k : Nat} {of : List Int} {gs : List Bd} (h : FitX l k of gs) : 0 < (gOpen gs k (nth l k)).length ∧ (gOpen gs k (nth l k)).length ≤ k + 1 := by
  obtain ⟨f, h⟩ := h
  have h1 := h.pos
  have h2 := h.cap
  unfold gOpen
  split
  · split
    · simp; omega
    · exact ⟨h1 (by omega), by omega⟩
  · simp; omega
theorem FitX.step {l : List Sur} {k : Nat} {of : List Int} {gs : List Bd} (h : FitX l k of gs) : FitX l (k + 1) (of ++ [((gOpen gs k (nth l k)).length : Int) - 1]) (gNar (gOpen gs k (nth l k)) (nth l k)) := by
  obtain ⟨f, h⟩ := h
  have hE := spE l k
  have hp := hE.pos
  have hl := h.len
  have hofl := h.ofl
  have hcap := h.cap
  have hof1 : ∀ i, i < k → ∀ y : Int, nth (of ++ [y]) i = nth of i := fun i hi y => snoc_lt (by omega)
  have hof2 : ∀ y : Int, nth (of ++ [y]) k = y := fun y => by rw [← hofl]; exact snoc_nth
  cases hx : (nth l k).sealed with
  | true =>
    obtain ⟨h1, h2, h3, h4⟩ := stepS_seal (sp := spK l k) (i := (k : Int)) hx hp
    have hsq : spK l (k + 1) = stepS (spK l k) k (nth l k) := rfl
    generalize stepS (spK l k) k (nth l k) = sq at *
    have e2 : (nth sq ((spK l k).length - 1)).lo = max (nth (spK l k) ((spK l k).length - 1)).lo ((nth l k).book - (nth l k).hi) ∧ (nth sq ((spK l k).length - 1)).hi = min (nth (spK l k) ((spK l k).length - 1)).hi ((nth l k).book - (nth l k).lo) ∧ (nth sq ((spK l k).length - 1)).en = (nth (spK l k) ((spK l k).length - 1)).en + 1 := by rw [h2]; exact ⟨rfl, rfl, rfl⟩
    rcases Nat.eq_zero_or_pos k with h0 | h0
    · subst h0
      obtain ⟨rfl, rfl⟩ := h.nil rfl
      have ho : gOpen ([] : List Bd) 0 (nth l 0) = [⟨0, 0⟩] := by unfold gOpen; rw [if_pos hx, if_pos rfl]; rfl
      rw [ho]
      have e3 : (nth sq 0).lo = max 0 ((nth l 0).book - (nth l 0).hi) ∧ (nth sq 0).hi = min 0 ((nth l 0).book - (nth l 0).lo) ∧ (nth sq 0).en = 1 := e2
      have hsl : sq.length = 1 := h1
      refine ⟨0, by rw [hsq, hsl]; rfl, fun h => absurd h (by omega), fun _ => by simp [gNar], by simp [gNar], fun g hg => ?_, fun _ => ?_, fun g hg => ?_, rfl, fun i hi => ?_⟩
      · have hg0 : g = 0 := by simp [gNar] at hg; omega
        subst hg0; rw [hsq, e3.2.1]; rfl
      · rw [hsq, e3.1]; rfl
      · simp [gNar] at hg
      · have hi0 : i = 0 := by omega
        subst hi0
        rw [hsq]
        refine ⟨by decide, by simp [gNar, nth], ?_, ?_⟩
        · show begS sq 0 ≤ _; unfold begS; simp
        · show _ < (nth sq 0).en; omega
    · have hgp := h.pos h0
      have ho : gOpen gs k (nth l k) = gs := by unfold gOpen; rw [if_pos hx, if_neg (by omega)]
      rw [ho]
      have hg1 : nth (gNar gs (nth l k)) (gs.length - 1) = ⟨max (nth gs (gs.length - 1)).lo ((nth l k).book - (nth l k).hi), min (nth gs (gs.length - 1)).hi ((nth l k).book - (nth l k).lo)⟩ := nth_set_eq (by omega)
      have hg2 : ∀ g, g ≠ gs.length - 1 → nth (gNar gs (nth l k)) g = nth gs g := fun g hg => nth_set_neS hg
      have hg3 : (gNar gs (nth l k)).length = gs.length := List.length_set
      generalize gNar gs (nth l k) = gq at *
      have hix : gs.length - 1 + f = (spK l k).length - 1 := by omega
      refine ⟨f, by rw [hsq]; omega, fun h => absurd h (by omega), fun _ => by omega, by omega, fun g hg => ?_, fun hg => ?_, fun g hg => ?_, by simp [hofl], fun i hi => ?_⟩
      · rw [hsq]
        have hh := h.hi g (by omega)
        by_cases hc : g = gs.length - 1
        · subst hc; rw [hg1, hix, e2.2.1]; rw [hix] at hh; simp only [hh]
        · rw [hg2 g hc, h3 _ (by omega)]; exact hh
      · rw [hsq]
        have hh := h.lo0 hgp
        by_cases hc : gs.length = 1
        · have e0 : gs.length - 1 = 0 := by omega
          rw [e0] at hg1
          rw [e0, Nat.zero_add] at hix
          rw [hg1, hix, e2.1]; rw [hix] at hh; simp only [hh, e0]
        · rw [hg2 0 (by omega), h3 _ (by omega)]; exact hh
      · rw [hsq]
        have hh := h.lo g (by omega)
        by_cases hc : g + 1 = gs.length - 1
        · have hix2 : g + 1 + f = (spK l k).length - 1 := by omega
          rw [hix2] at hh ⊢
          rw [h3 (g + f) (by omega), hc, hg1, e2.1]
          rw [hc] at hh
          simp only []; omega
        · rw [h3 _ (by omega), h3 (g + f) (by omega), hg2 _ hc]; exact hh
      · rw [hsq]
        rcases Nat.lt_or_ge i k with hi2 | hi2
        · rw [hof1 i hi2]
          obtain ⟨a, b, c, d⟩ := h.of i hi2
          refine ⟨a, by omega, by rw [h4 _ (by omega)]; exact c, ?_⟩
          by_cases hc : (nth of i).toNat + f = (spK l k).length - 1
          · rw [hc, e2.2.2]; rw [hc] at d; omega
          · rw [h3 _ hc]; exact d
        · have hik : i = k := by omega
          subst hik
          rw [hof2]
          have ht : ((gs.length : Int) - 1).toNat + f = (spK l i).length - 1 := by omega
          have hu := hE.up ((spK l i).length - 1) (by omega)
          have he := hE.end_
          refine ⟨by omega, by omega, by rw [ht, h4 _ (by omega)]; omega, by rw [ht, e2.2.2]; omega⟩
  | false =>
    obtain ⟨h1, h2, h3, h4⟩ := stepS_open (sp := spK l k) (i := (k : Int)) hx
    have hsq : spK l (k + 1) = stepS (spK l k) k (nth l k) := rfl
    generalize stepS (spK l k) k (nth l k) = sq at *
    have e2 : (nth sq (spK l k).length).lo = max (nth (spK l k) ((spK l k).length - 1)).lo ((nth l k).book - (nth l k).hi) ∧ (nth sq (spK l k).length).hi = min 1000000 ((nth l k).book - (nth l k).lo) ∧ (nth sq (spK l k).length).en = (k : Int) + 1 := by rw [h2]; exact ⟨rfl, rfl, rfl⟩
    have ho : gOpen gs k (nth l k) = gs ++ [⟨0, 1000000⟩] := by unfold gOpen; rw [hx]; rfl
    rw [ho]
    have hg0 : gNar (gs ++ [⟨0, 1000000⟩]) (nth l k) = gs ++ [⟨max 0 ((nth l k).book - (nth l k).hi), min 1000000 ((nth l k).book - (nth l k).lo)⟩] := by
      unfold gNar
      simp only [List.length_append, List.length_singleton, Nat.add_sub_cancel]
      rw [snoc_nth, List.set_append_right _ _ (Nat.le_refl _), Nat.sub_self]; rfl
    have hg1 : nth (gNar (gs ++ [⟨0, 1000000⟩]) (nth l k)) gs.length = ⟨max 0 ((nth l k).book - (nth l k).hi), min 1000000 ((nth l k).book - (nth l k).lo)⟩ := by rw [hg0]; exact snoc_nth
    have hg2 : ∀ g, g < gs.length → nth (gNar (gs ++ [⟨0, 1000000⟩]) (nth l k)) g = nth gs g := fun g hg => by rw [hg0]; exact snoc_lt hg
    have hg3 : (gNar (gs ++ [⟨0, 1000000⟩]) (nth l k)).length = gs.length + 1 := by rw [hg0]; simp
    have hr := hE.rng ((spK l k).length - 1) (by omega)
    have hgl : (((gs ++ [(⟨0, 1000000⟩ : Bd)]).length : Nat) : Int) - 1 = gs.length := by simp
    rw [hgl]
    generalize gNar (gs ++ [⟨0, 1000000⟩]) (nth l k) = gq at *
    refine ⟨f, by rw [hsq]; omega, fun h => absurd h (by omega), fun _ => by omega, by omega, fun g hg => ?_, fun hg => ?_, fun g hg => ?_, by simp [hofl], fun i hi => ?_⟩
    · rw [hsq]
      by_cases hc : g = gs.length
      · subst hc; rw [hg1, ← hl, e2.2.1]
      · rw [hg2 g (by omega), h3 _ (by omega)]; exact h.hi g (by omega)
    · rw [hsq]
      rcases Nat.eq_zero_or_pos gs.length with hc | hc
      · have hk0 : k = 0 := by
          rcases Nat.eq_zero_or_pos k with h9 | h9
          · exact h9
          · have := h.pos h9; omega
        subst hk0
        rw [hc] at hg1
        have hf : f = (spK l 0).length := by omega
        rw [hg1, hf, e2.1]; rfl
      · rw [hg2 0 hc, h3 _ (by omega)]; exact h.lo0 hc
    · rw [hsq]
      by_cases hc : g + 1 = gs.length
      · have hix2 : g + 1 + f = (spK l k).length := by omega
        have hix3 : g + f = (spK l k).length - 1 := by omega
        rw [hix2, h3 (g + f) (by omega), hix3, hc, hg1, e2.1]
        simp only []; omega
      · rw [h3 _ (by omega), h3 (g + f) (by omega), hg2 _ (by omega)]; exact h.lo g (by omega)
    · rw [hsq]
      rcases Nat.lt_or_ge i k with hi2 | hi2
      · rw [hof1 i hi2]
        obtain ⟨a, b, c, d⟩ := h.of i hi2
        exact ⟨a, by omega, by rw [h4 _ (by omega)]; exact c, by rw [h3 _ (by omega)]; exact d⟩
      · have hik : i = k := by omega
        subst hik
        rw [hof2]
        have ht : ((gs.length : Int)).toNat + f = (spK l i).length := by omega
        have he := hE.end_
        have hb : begS (spK l i) (spK l i).length = i := by unfold begS; rw [if_neg (by omega), he]
        refine ⟨by omega, by omega, by rw [ht, h4 _ (Nat.le_refl _), hb]; omega, by rw [ht, e2.2.2]; omega⟩
/-- After the loop forwards up to g. -/
def FitL (l : List Sur) (of : List Int) (g : Nat) (g2 : List Bd) : Prop := ∃ f gs, FitR l l.length f of gs ∧ g2.length = gs.length ∧ (∀ j, j < gs.length → (nth g2 j).hi = (nth gs j).hi) ∧ (∀ j, j < g → j < gs.length → (nth g2 j).lo = (nth (spK l l.length) (j + f)).lo) ∧ (∀ j, g ≤ j → nth g2 j = nth gs j)
theorem FitL.first {l : List Sur} {of : List Int} {gs : List Bd} (h : FitX l l.length of gs) : FitL l of 1 gs := by
  obtain ⟨f, h⟩ := h
  refine ⟨f, gs, h, rfl, fun _ _ => rfl, fun j hj hj2 => ?_, fun _ _ => rfl⟩
  have : j = 0 := by omega
  subst this
  rw [Nat.zero_add]; exact h.lo0 hj2
theorem FitL.step {l : List Sur} {of : List Int} {g : Nat} {g2 : List Bd} (h : FitL l of g g2) (h1 : 1 ≤ g) (hg : g < g2.length) : FitL l of (g + 1) (g2.set g ⟨max (nth g2 g).lo (nth g2 (g - 1)).lo, (nth g2 g).hi⟩) := by
  obtain ⟨f, gs, h, hl, hh, ha, hb⟩ := h
  have e1 : nth (g2.set g ⟨max (nth g2 g).lo (nth g2 (g - 1)).lo, (nth g2 g).hi⟩) g = ⟨max (nth g2 g).lo (nth g2 (g - 1)).lo, (nth g2 g).hi⟩ := nth_set_eq hg
  have e2 : ∀ j, j ≠ g → nth (g2.set g ⟨max (nth g2 g).lo (nth g2 (g - 1)).lo, (nth g2 g).hi⟩) j = nth g2 j := fun j hj => nth_set_neS hj
  refine ⟨f, gs, h, by rw [List.length_set]; exact hl, fun j hj => ?_, fun j hj hj2 => ?_, fun j hj => ?_⟩
  · by_cases hc : j = g
    · subst hc; rw [e1]; exact hh j hj
    · rw [e2 j hc]; exact hh j hj
  · by_cases hc : j = g
    · subst hc
      have h9 := h.lo (j - 1) (by omega)
      have h8 := ha (j - 1) (by omega) (by omega)
      rw [show j - 1 + 1 = j by omega] at h9
      rw [e1, h9, h8, hb j (Nat.le_refl _)]
    · rw [e2 j hc]; exact ha j (by omega) hj2
  · rw [e2 j (by omega)]; exact hb j (by omega)
/-- After the loop backwards down to m. -/
def FitM (l : List Sur) (of : List Int) (m : Int) (g3 : List Bd) : Prop := ∃ f gs, FitR l l.length f of gs ∧ g3.length = gs.length ∧ ∀ j : Nat, j < gs.length → (nth g3 j).lo = (nth (spK l l.length) (j + f)).lo ∧ (m < j → (nth g3 j).hi = mostF ((spK l l.length).drop (j + f))) ∧ ((j : Int) ≤ m → (nth g3 j).hi = (nth gs j).hi)
theorem FitM.first {l : List Sur} {of : List Int} {g : Nat} {g2 : List Bd} (h : FitL l of g g2) (hg : g2.length ≤ g) : FitM l of ((g2.length : Int) - 2) g2 := by
  obtain ⟨f, gs, h, hl, hh, ha, hb⟩ := h
  refine ⟨f, gs, h, hl, fun j hj => ⟨ha j (by omega) hj, fun hm => ?_, fun _ => hh j hj⟩⟩
  have hE := spE l l.length
  have hll := h.len
  have e : j + f = (spK l l.length).length - 1 := by omega
  have h9 := hE.rng (j + f) (by omega)
  rw [hh j hj, h.hi j hj, e, mostF_one hE.pos]
  rw [e] at h9; omega
theorem FitM.step {l : List Sur} {of : List Int} {m : Nat} {g3 : List Bd} (h : FitM l of m g3) (hm : m + 1 < g3.length) : FitM l of ((m : Int) - 1) (g3.set m ⟨(nth g3 m).lo, min (nth g3 m).hi (nth g3 (m + 1)).hi⟩) := by
  obtain ⟨f, gs, h, hl, hj⟩ := h
  have e1 : nth (g3.set m ⟨(nth g3 m).lo, min (nth g3 m).hi (nth g3 (m + 1)).hi⟩) m = ⟨(nth g3 m).lo, min (nth g3 m).hi (nth g3 (m + 1)).hi⟩ := nth_set_eq (by omega)
  have e2 : ∀ j, j ≠ m → nth (g3.set m ⟨(nth g3 m).lo, min (nth g3 m).hi (nth g3 (m + 1)).hi⟩) j = nth g3 j := fun j hj => nth_set_neS hj
  have hll := h.len
  refine ⟨f, gs, h, by rw [List.length_set]; exact hl, fun j hjl => ?_⟩
  by_cases hc : j = m
  · subst hc
    have a := hj j hjl
    have b := (hj (j + 1) (by omega)).2.1 (by omega)
    have d := a.2.2 (Int.le_refl _)
    have hh := h.hi j hjl
    rw [e1]
    refine ⟨a.1, fun _ => ?_, fun h9 => absurd h9 (by omega)⟩
    show min (nth g3 j).hi (nth g3 (j + 1)).hi = _
    rw [mostF_drop (show j + f < (spK l l.length).length by omega), b, d, hh, show j + 1 + f = j + f + 1 by omega]
    omega
  · rw [e2 j hc]
    have a := hj j hjl
    exact ⟨a.1, fun h9 => a.2.1 (by omega), fun h9 => a.2.2 (by omega)⟩
theorem FitM.len {l : List Sur} {of : List Int} {m : Int} {g3 : List Bd} (h : FitM l of m g3) : of.length = l.length := by
  obtain ⟨f, gs, h, _⟩ := h
  exact h.ofl
theorem FitM.at_ {l : List Sur} {of : List Int} {m : Int} {g3 : List Bd} (h : FitM l of m g3) (hm : m < 0) {i : Nat} (hi : i < l.length) : (0 ≤ nth of i ∧ nth of i < g3.length) ∧ ∃ q, q < (spK l l.length).length ∧ begS (spK l l.length) q ≤ i ∧ (i : Int) < (nth (spK l l.length) q).en ∧ (nth g3 (nth of i).toNat).lo = (nth (spK l l.length) q).lo ∧ (nth g3 (nth of i).toNat).hi = mostF ((spK l l.length).drop q) := by
  obtain ⟨f, gs, h, hl, hj⟩ := h
  obtain ⟨a, b, c, d⟩ := h.of i hi
  have hll := h.len
  have h9 := hj (nth of i).toNat (by omega)
  exact ⟨⟨a, by omega⟩, (nth of i).toNat + f, by omega, c, d, h9.1, h9.2.1 (by omega)⟩
theorem FitM.bad {l : List Sur} {of : List Int} {m : Int} {g3 : List Bd} (h : FitM l of m g3) (hm : m < 0) {i : Nat} (hi : i < l.length) (hb : (nth g3 (nth of i).toNat).hi < (nth g3 (nth of i).toNat).lo) : FitBad l l.length := by
  obtain ⟨_, q, h1, h2, h3, h4, h5⟩ := h.at_ hm hi
  exact ⟨q, h1, by omega, by omega⟩
theorem FitM.good {l : List Sur} {of : List Int} {m : Int} {g3 out : List Bd} (h : FitM l of m g3) (hm : m < 0) (ho : ∀ i, i < l.length → nth out i = nth g3 (nth of i).toNat ∧ ¬ (nth out i).hi < (nth out i).lo) : ¬ FitBad l l.length ∧ LosR (spK l l.length) 0 out := by
  have hE := spE l l.length
  have hL : LosR (spK l l.length) 0 out := fun q _ hq i hi1 hi2 => by
    have hu := hE.up q hq
    have hin : i < l.length := by omega
    obtain ⟨_, q2, h1, h2, h3, h4, h5⟩ := h.at_ hm hin
    have e := span_one hE hq h1 hi1 hi2 h2 h3
    subst e
    rw [(ho i hin).1, ← h4, ← h5]
  refine ⟨?_, hL⟩
  rintro ⟨q, hq, hb, hlt⟩
  have hu := hE.up q hq
  have h1 := hL q (Nat.zero_le _) hq (begS (spK l l.length) q).toNat (by omega) (by omega)
  have h2 := (ho (begS (spK l l.length) q).toNat (by omega)).2
  rw [h1] at h2
  exact h2 hlt

end Go.Proofs.Ytgkkgpenmppjcaa
