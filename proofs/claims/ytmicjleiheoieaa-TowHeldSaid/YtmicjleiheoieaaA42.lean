/-
  What holds mean for conflicts. Conditions: none.
-/
import Derived.Test.YtmicjleiheoieaaA36
import Derived.Test.YtmicjleiheoieaaA38
namespace Go.Proofs.Ytmicjleiheoieaa
open Go Go.RowKit

theorem confL_nil {l : List Voy} {ns : List Nar} : confL l ns = [] ↔ ∀ i j k, i < j → j < l.length → k < ns.length → barsV (nth l i) (nth l j) (nth ns k) = false := by
  constructor
  · intro h i j k hij hj hk
    cases hb : barsV (nth l i) (nth l j) (nth ns k)
    · rfl
    · have hm : (⟨i, j, k⟩ : Mt) ∈ confL l ns := by
        unfold confL
        refine List.mem_flatMap.2 ⟨i, by simp; omega, List.mem_flatMap.2 ⟨j, ?_, ?_⟩⟩
        · rw [List.mem_range']; exact ⟨j - (i + 1), by omega, by omega⟩
        · unfold confS; exact List.mem_map.2 ⟨k, List.mem_filter.2 ⟨by simpa using hk, hb⟩, rfl⟩
      rw [h] at hm; cases hm
  · intro h
    refine List.eq_nil_iff_forall_not_mem.2 fun m hm => ?_
    unfold confL at hm
    obtain ⟨i, hi, hm⟩ := List.mem_flatMap.1 hm
    obtain ⟨j, hj, hm⟩ := List.mem_flatMap.1 hm
    unfold confS at hm
    obtain ⟨k, hkf, _⟩ := List.mem_map.1 hm
    have hk1 := (List.mem_filter.1 hkf).1
    have hb := (List.mem_filter.1 hkf).2
    rw [List.mem_range'] at hj
    obtain ⟨q, hq, rfl⟩ := hj
    rw [h i (i + 1 + 1 * q) k (by omega) (by omega) (by simpa using hk1)] at hb; cases hb
theorem heldV_zero (v : Voy) : heldV v 0 = v := by cases v; simp [heldV]
theorem free_none {vl : List Voy} {ns : List Nar} {os : List Int} {i : Nat} (hc : confL vl ns = []) (hi : i < vl.length) (h0 : ∀ j, j < i → nth os j = 0) : FreeR vl ns os i 0 := fun j hj k hk => by
  rw [h0 j hj, heldV_zero, heldV_zero]; exact confL_nil.1 hc j i k hj hi hk
theorem zero_none {vl : List Voy} {ns : List Nar} {os : List Int} (hc : confL vl ns = []) : ∀ n, n ≤ vl.length → (∀ j, j < n → LeastR vl ns os j (nth os j)) → ∀ j, j < n → nth os j = 0
  | 0, _, _, j, h => absurd h (Nat.not_lt_zero j)
  | n + 1, hn, hl, j, hj => by
    have ih := zero_none hc n (by omega) (fun j hj => hl j (by omega))
    rcases Nat.lt_or_ge j n with h | h
    · exact ih j h
    · have e : j = n := by omega
      subst e
      have h1 := hl j (by omega)
      rcases Int.lt_or_le 0 (nth os j) with h2 | h2
      · exact absurd (free_none hc (by omega) ih) (h1.2.2 0 (Int.le_refl _) h2)
      · have := h1.1; omega
theorem held_fail {vl : List Voy} {ns : List Nar} {most a e : Int} {ls : List Int} (h : HoldsR vl ns most ls a e) (hm : 0 ≤ most) (he : e ≠ 0) : e = 7 ∧ 0 < a ∧ a < vl.length ∧ ls = [] ∧ confL vl ns ≠ [] := by
  rcases h with ⟨h, _⟩ | ⟨q, os, rfl, rfl, rfl, hq, hl, hn⟩
  · exact absurd h he
  · refine ⟨rfl, ?_, by omega, rfl, fun hc => ?_⟩
    · rcases Nat.eq_zero_or_pos q with h0 | h0
      · subst h0; exact absurd (fun j hj => absurd hj (Nat.not_lt_zero _) : FreeR vl ns os 0 0) (hn 0 (Int.le_refl _) hm)
      · omega
    · exact hn 0 (Int.le_refl _) hm (free_none hc hq (zero_none hc q (by omega) (fun j hj => (hl j hj).1)))
theorem held_good {vl : List Voy} {ns : List Nar} {most a e : Int} {ls : List Int} (h : HoldsR vl ns most ls a e) (he : e = 0) : a = 0 ∧ ls.length = vl.length ∧ ∀ j, j < vl.length → LeastR vl ns ls j (nth ls j) ∧ nth ls j ≤ most := by
  rcases h with ⟨_, h1, h2, h3⟩ | ⟨q, os, h1, _⟩
  · exact ⟨h1, h2, h3⟩
  · rw [he] at h1; cases h1
/-- The first n voyages, held back. -/
def heldL (vl : List Voy) (ls : List Int) (n : Nat) : List Voy := (List.range n).map fun j => heldV (nth vl j) (nth ls j)
theorem heldL_len {vl : List Voy} {ls : List Int} {n : Nat} : (heldL vl ls n).length = n := by simp [heldL]
theorem heldL_succ {vl : List Voy} {ls : List Int} {n : Nat} : heldL vl ls (n + 1) = heldL vl ls n ++ [heldV (nth vl n) (nth ls n)] := by simp [heldL, List.range_succ]
theorem heldL_nth {vl : List Voy} {ls : List Int} {n j : Nat} (h : j < n) : nth (heldL vl ls n) j = heldV (nth vl j) (nth ls j) := by
  unfold heldL nth; simp [List.getD_eq_getElem?_getD, h]
theorem held_free {vl : List Voy} {ns : List Nar} {ls : List Int} (h : ∀ j, j < vl.length → LeastR vl ns ls j (nth ls j)) : confL (heldL vl ls vl.length) ns = [] := by
  refine confL_nil.2 fun i j k hij hj hk => ?_
  rw [heldL_len] at hj
  rw [heldL_nth (by omega), heldL_nth hj]
  exact (h j hj).2.1 i hij k hk
theorem held_less {vl : List Voy} {ns : List Nar} {ls : List Int} {i : Nat} (h : LeastR vl ns ls i (nth ls i)) (hp : 0 < nth ls i) : confL (heldL vl ls i ++ [heldV (nth vl i) (nth ls i - 1)]) ns ≠ [] := fun hc => by
  refine h.2.2 (nth ls i - 1) (by omega) (by omega) fun j hj k hk => ?_
  have h1 := confL_nil.1 hc j i k hj (by rw [List.length_append, heldL_len]; simp) hk
  have e1 : nth (heldL vl ls i ++ [heldV (nth vl i) (nth ls i - 1)]) j = heldV (nth vl j) (nth ls j) := by
    rw [nth_snoc_lt (by rw [heldL_len]; exact hj), heldL_nth hj]
  have e2 : nth (heldL vl ls i ++ [heldV (nth vl i) (nth ls i - 1)]) i = heldV (nth vl i) (nth ls i - 1) := by
    have h := nth_snoc_eq (xs := heldL vl ls i) (x := heldV (nth vl i) (nth ls i - 1))
    rw [heldL_len] at h; exact h
  rw [e1, e2] at h1; exact h1
def sumI (ls : List Int) : Int := ls.foldl (· + ·) 0
theorem sumI_snoc (ls : List Int) (x : Int) : sumI (ls ++ [x]) = sumI ls + x := by simp [sumI]
theorem sumI_rng {ls : List Int} {B : Int} (hB : 0 ≤ B) : ∀ n, n ≤ ls.length → (∀ j, j < n → 0 ≤ nth ls j ∧ nth ls j ≤ B) → 0 ≤ sumI (ls.take n) ∧ sumI (ls.take n) ≤ B * n
  | 0, _, _ => by simp [sumI]
  | n + 1, hn, h => by
    have h1 := sumI_rng hB n (by omega) (fun j hj => h j (by omega))
    have h2 := h n (by omega)
    rw [take_nth (by omega), sumI_snoc]
    rw [show ((n + 1 : Nat) : Int) = (n : Int) + 1 by omega, Int.mul_add, Int.mul_one]
    omega
theorem sumI_zero {ls : List Int} : ∀ n, n ≤ ls.length → (∀ j, j < n → 0 ≤ nth ls j) → sumI (ls.take n) ≤ 0 → ∀ j, j < n → nth ls j = 0
  | 0, _, _, _, j, h => absurd h (Nat.not_lt_zero j)
  | n + 1, hn, h, hs, j, hj => by
    have h0 : ∀ m, m ≤ ls.length → (∀ j, j < m → 0 ≤ nth ls j) → 0 ≤ sumI (ls.take m) := by
      intro m
      induction m with
      | zero => intro _ _; simp [sumI]
      | succ m ih => intro hm hh; have h1 := ih (by omega) (fun j hj => hh j (by omega)); have h2 := hh m (by omega); rw [take_nth (by omega), sumI_snoc]; omega
    have h1 := h0 n (by omega) (fun j hj => h j (by omega))
    have h2 := h n (by omega)
    rw [take_nth (by omega), sumI_snoc] at hs
    rcases Nat.lt_or_ge j n with q | q
    · exact sumI_zero n (by omega) (fun j hj => h j (by omega)) (by omega) j q
    · have e : j = n := by omega
      subst e; omega
theorem held_sum {vl : List Voy} {ns : List Nar} {ls : List Int} (hl : ls.length = vl.length) (h : ∀ j, j < vl.length → LeastR vl ns ls j (nth ls j)) : 0 < sumI ls ↔ 0 < (confL vl ns).length := by
  constructor
  · intro hs
    refine List.length_pos_iff.2 fun hc => ?_
    have hz := zero_none hc vl.length (Nat.le_refl _) h
    have h1 := (sumI_rng (ls := ls) (B := 0) (Int.le_refl _) ls.length (Nat.le_refl _) (fun j hj => by rw [hz j (by omega)]; omega)).2
    rw [List.take_length] at h1
    omega
  · intro hc
    rcases Int.lt_or_le 0 (sumI ls) with h1 | h1
    · exact h1
    · exfalso
      have hz := sumI_zero ls.length (Nat.le_refl _) (fun j hj => (h j (by omega)).1) (by rw [List.take_length]; exact h1)
      have hn : confL vl ns = [] := confL_nil.2 fun i j k hij hj hk => by
        have h2 := (h j hj).2.1 i hij k hk
        rw [hz i (by omega), hz j (by omega), heldV_zero, heldV_zero] at h2; exact h2
      rw [hn] at hc; cases hc
theorem open_zero {vl : List Voy} {ns : List Nar} (h1 : vl.length ≤ 12) (h2 : ns.length ≤ 20) (h3 : ∀ v ∈ vl, okVoy v = true) (h4 : ∀ n ∈ ns, okNar n = true) (h5 : ∀ v ∈ vl, ∀ n ∈ ns, thrE v n = 0) : OpenE vl ns = 0 := by
  unfold OpenE
  rw [if_neg (by omega), if_neg ?_]
  · have o1 : ∀ (v : Voy) (l : List Nar), (∀ n ∈ l, thrE v n = 0) → opE1 v l = 0 := by
      intro v l
      induction l with
      | nil => intro _; rfl
      | cons a l ih => intro h; unfold opE1; rw [if_pos (h a (by simp))]; exact ih (fun n hn => h n (by simp [hn]))
    clear h1 h3
    induction vl with
    | nil => rfl
    | cons a l ih => unfold opE2; rw [if_pos (o1 a ns (h5 a (by simp)))]; exact ih (fun v hv => h5 v (by simp [hv]))
  · rw [Bool.or_eq_true]
    rintro (h | h)
    · obtain ⟨x, hx, h⟩ := List.any_eq_true.1 h; simp [chk, h3 x hx] at h
    · obtain ⟨n, hx, h⟩ := List.any_eq_true.1 h; simp [h4 n hx] at h
theorem okVoy_held {v : Voy} {h : Int} (hk : okVoy v = true) (h0 : 0 ≤ v.st.lo + h) (h1 : v.st.hi + h ≤ 1000000) : okVoy (heldV v h) = true := by
  unfold okVoy at hk ⊢
  rw [Bool.and_eq_true] at hk ⊢
  refine ⟨?_, hk.2⟩
  have h2 := hk.1
  unfold okVoy0 at h2 ⊢
  rw [decide_eq_true_eq] at h2 ⊢
  show _ ∧ _
  simp only [heldV]
  omega
/-- Voyages, held back within their time, are valid together as they were. -/
theorem open_held {vl us : List Voy} {ns : List Nar} (ho : OpenE vl ns = 0) (hl : us.length ≤ 12) (h : ∀ u ∈ us, ∃ v ∈ vl, ∃ h : Int, u = heldV v h ∧ 0 ≤ v.st.lo + h ∧ v.st.hi + h ≤ 1000000) : OpenE us ns = 0 := by
  have ht := thr_of_open ho
  have h2 : ns.length ≤ 20 := by
    unfold OpenE at ho; split at ho
    · cases ho
    · omega
  refine open_zero hl h2 (fun u hu => ?_) ht.2.1 (fun u hu n hn => ?_)
  · obtain ⟨v, hv, q, rfl, h3, h4⟩ := h u hu; exact okVoy_held (ht.1 v hv) h3 h4
  · obtain ⟨v, hv, q, rfl, _⟩ := h u hu; exact ht.2.2 v hv n hn

end Go.Proofs.Ytmicjleiheoieaa
