/-
  What Order's answer means for other orders. Conditions: none.
-/
import Derived.Test.YtmicjleiheoieaaA45
namespace Go.Proofs.Ytmicjleiheoieaa
open Go Go.RowKit

theorem thr_val (v : Voy) (n : Nar) : thrE v n = 0 ∨ thrE v n = 9 := by
  unfold thrE
  split
  · split <;> simp
  · simp
theorem opE1_val (v : Voy) : ∀ ns : List Nar, (opE1 v ns = 0 ∧ ∀ n ∈ ns, thrE v n = 0) ∨ (opE1 v ns = 9 ∧ ¬ ∀ n ∈ ns, thrE v n = 0)
  | [] => .inl ⟨rfl, by simp⟩
  | n :: ns => by
    unfold opE1
    rcases thr_val v n with h | h
    · rw [if_pos h]
      rcases opE1_val v ns with ⟨h1, h2⟩ | ⟨h1, h2⟩
      · exact .inl ⟨h1, fun m hm => by rcases List.mem_cons.1 hm with rfl | hm; exact h; exact h2 m hm⟩
      · exact .inr ⟨h1, fun hc => h2 fun m hm => hc m (by simp [hm])⟩
    · rw [if_neg (by omega)]
      exact .inr ⟨h, fun hc => by have := hc n (by simp); omega⟩
theorem opE2_val (ns : List Nar) : ∀ l : List Voy, (opE2 ns l = 0 ∧ ∀ v ∈ l, opE1 v ns = 0) ∨ (opE2 ns l = 9 ∧ ¬ ∀ v ∈ l, opE1 v ns = 0)
  | [] => .inl ⟨rfl, by simp⟩
  | v :: l => by
    unfold opE2
    rcases opE1_val v ns with ⟨h, _⟩ | ⟨h, _⟩
    · rw [if_pos h]
      rcases opE2_val ns l with ⟨h1, h2⟩ | ⟨h1, h2⟩
      · exact .inl ⟨h1, fun m hm => by rcases List.mem_cons.1 hm with rfl | hm; exact h; exact h2 m hm⟩
      · exact .inr ⟨h1, fun hc => h2 fun m hm => hc m (by simp [hm])⟩
    · rw [if_neg (by omega)]
      exact .inr ⟨h, fun hc => by have := hc v (by simp); omega⟩
theorem OpenE.perm {us vl : List Voy} {ns : List Nar} (h : us.Perm vl) : OpenE us ns = OpenE vl ns := by
  have hm : ∀ v, v ∈ us ↔ v ∈ vl := fun v => h.mem_iff
  have h1 : (us.any fun v => decide (chk v ≠ 0)) = vl.any fun v => decide (chk v ≠ 0) := by
    rw [Bool.eq_iff_iff, List.any_eq_true, List.any_eq_true]
    constructor
    · rintro ⟨x, hx, hc⟩; exact ⟨x, (hm x).1 hx, hc⟩
    · rintro ⟨x, hx, hc⟩; exact ⟨x, (hm x).2 hx, hc⟩
  have h2 : opE2 ns us = opE2 ns vl := by
    rcases opE2_val ns us with ⟨a, b⟩ | ⟨a, b⟩ <;> rcases opE2_val ns vl with ⟨c, d⟩ | ⟨c, d⟩
    · rw [a, c]
    · exact absurd (fun v hv => b v ((hm v).2 hv)) d
    · exact absurd (fun v hv => d v ((hm v).1 hv)) b
    · rw [a, c]
  unfold OpenE
  rw [h.length_eq, h1, h2]
theorem permV_ord (vl : List Voy) : permV vl (ordL vl.length) = vl := by
  refine List.ext_getElem (by unfold permV; rw [List.length_map, ordL_len]) fun i h1 h2 => ?_
  simp [permV, ordL, nth, List.getD_eq_getElem?_getD, h2]
theorem permV_perm {vl : List Voy} {pk : List Int} (h : okPick vl.length pk) (hl : pk.length = vl.length) : (permV vl pk).Perm vl := by
  have h1 : (permV vl pk).Perm (permV vl (ordL vl.length)) := (h.perm hl).map _
  rw [permV_ord] at h1; exact h1
theorem mem_perms {n : Nat} : ∀ (m : Nat) (pk rest : List Int), okPick n (pk ++ rest) → rest.length = m → pk ++ rest ∈ permsF n m pk
  | 0, pk, rest, _, hr => by rw [List.eq_nil_of_length_eq_zero hr]; simp [permsF]
  | m + 1, pk, [], _, hr => by simp at hr
  | m + 1, pk, a :: rest, h, hr => by
    have ha := h.1 a (by simp)
    have hn : ¬ a ∈ pk := fun hm => by
      have := (List.nodup_append.1 h.2).2.2 a hm a (by simp)
      exact this rfl
    have e : ((a.toNat : Nat) : Int) = a := by omega
    have ih := mem_perms m (pk ++ [a]) rest (by rw [List.append_assoc]; exact h) (by simpa using hr)
    unfold permsF
    refine List.mem_flatMap.2 ⟨a.toNat, by simp; omega, ?_⟩
    rw [e, if_neg hn]
    rw [List.append_assoc] at ih; exact ih
theorem stepF_le {vl : List Voy} {ns : List Nar} {most : Int} (pk : List Int) (g : List Int × List Int) : ∃ g', stepF vl ns most (some g) pk = some g' ∧ sumI g'.2 ≤ sumI g.2 := by
  obtain ⟨o, g⟩ := g
  cases h : feasF vl ns most pk with
  | none => exact ⟨_, stepF_none h, Int.le_refl _⟩
  | some hs =>
    by_cases hl : sumI hs < sumI g
    · exact ⟨_, stepF_less h hl, by show sumI hs ≤ sumI g; omega⟩
    · exact ⟨_, stepF_more h hl, Int.le_refl _⟩
theorem fold_le {vl : List Voy} {ns : List Nar} {most : Int} : ∀ (L : List (List Int)) (g : List Int × List Int), ∃ g', L.foldl (stepF vl ns most) (some g) = some g' ∧ sumI g'.2 ≤ sumI g.2
  | [], g => ⟨g, rfl, Int.le_refl _⟩
  | pk :: L, g => by
    obtain ⟨g1, h1, l1⟩ := stepF_le (vl := vl) (ns := ns) (most := most) pk g
    obtain ⟨g2, h2, l2⟩ := fold_le L g1
    exact ⟨g2, by rw [List.foldl_cons, h1]; exact h2, by omega⟩
theorem fold_least {vl : List Voy} {ns : List Nar} {most : Int} {pk hs : List Int} (hf : feasF vl ns most pk = some hs) : ∀ (L : List (List Int)) (b : Option (List Int × List Int)), pk ∈ L → ∃ g, L.foldl (stepF vl ns most) b = some g ∧ sumI g.2 ≤ sumI hs
  | [], _, h => by simp at h
  | p :: L, b, h => by
    rw [List.foldl_cons]
    rcases List.mem_cons.1 h with rfl | h
    · have : ∃ g1, stepF vl ns most b pk = some g1 ∧ sumI g1.2 ≤ sumI hs := by
        cases b with
        | none => exact ⟨_, stepF_first hf, Int.le_refl _⟩
        | some g =>
          obtain ⟨o, g⟩ := g
          by_cases hl : sumI hs < sumI g
          · exact ⟨_, stepF_less hf hl, Int.le_refl _⟩
          · exact ⟨_, stepF_more hf hl, by show sumI g ≤ sumI hs; omega⟩
      obtain ⟨g1, h1, l1⟩ := this
      obtain ⟨g2, h2, l2⟩ := fold_le (vl := vl) (ns := ns) (most := most) L g1
      exact ⟨g2, by rw [h1]; exact h2, by omega⟩
    · exact fold_least hf L _ h
theorem fold_feas {vl : List Voy} {ns : List Nar} {most : Int} : ∀ (L : List (List Int)) (b : Option (List Int × List Int)) (g : List Int × List Int), L.foldl (stepF vl ns most) b = some g → b = some g ∨ feasF vl ns most g.1 = some g.2
  | [], b, g, h => .inl h
  | p :: L, b, g, h => by
    rw [List.foldl_cons] at h
    rcases fold_feas L _ g h with h1 | h1
    · cases hf : feasF vl ns most p with
      | none => rw [stepF_none hf] at h1; exact .inl h1
      | some hs =>
        cases b with
        | none => rw [stepF_first hf] at h1; cases h1; exact .inr hf
        | some q =>
          obtain ⟨o, q⟩ := q
          by_cases hl : sumI hs < sumI q
          · rw [stepF_less hf hl] at h1; cases h1; exact .inr hf
          · rw [stepF_more hf hl] at h1; exact .inl h1
    · exact .inr h1
theorem holdsR_e {vl : List Voy} {ns : List Nar} {most a e : Int} {ls : List Int} (h : HoldsR vl ns most ls a e) : (e = 0 ∧ a = 0 ∧ ls.length = vl.length) ∨ (e = 7 ∧ ls.length = 0) := by
  rcases h with ⟨h1, h2, h3, _⟩ | ⟨q, os, h1, _, h2, _⟩
  · exact .inl ⟨h1, h2, h3⟩
  · exact .inr ⟨h1, by rw [h2]; rfl⟩
section
variable {vl : List Voy} {ns : List Nar} {most tot a f : Int} {ord ls pk h : List Int} {fd : Bool}
/-- No other order is better. -/
theorem best_other (hb : BestM vl ns most (permsF vl.length vl.length []) fd ord ls tot) (hok : okPick vl.length pk) (hl : pk.length = vl.length) (hR : HoldsR (permV vl pk) ns most h a f) : (fd = false → f = 7) ∧ (fd = true → f = 0 → tot ≤ sumI h) := by
  have hm := mem_perms vl.length [] pk hok hl
  rw [List.nil_append] at hm
  have hf : f = 0 → ∃ g, bestF vl ns most (permsF vl.length vl.length []) = some g ∧ sumI g.2 ≤ sumI h := fun h0 => by
    rcases holdsR_e hR with ⟨_, ha, _⟩ | ⟨h1, _⟩
    · subst h0; subst ha
      exact fold_least (feas_some hR) _ _ hm
    · omega
  rcases hb with ⟨rfl, h1, _⟩ | ⟨rfl, h1, _, _, _, h2⟩
  · refine ⟨fun _ => ?_, fun h => by cases h⟩
    rcases holdsR_e hR with ⟨h0, _⟩ | ⟨h0, _⟩
    · obtain ⟨g, hg, _⟩ := hf h0
      rw [h1] at hg; cases hg
    · exact h0
  · refine ⟨(fun h => by cases h), fun _ h0 => ?_⟩
    obtain ⟨g, hg, hs⟩ := hf h0
    rw [h1] at hg; cases hg
    rw [h2]; exact hs
/-- The order that is found has the holds that are told. -/
theorem best_good (hb : BestM vl ns most (permsF vl.length vl.length []) fd ord ls tot) (hfd : fd = true) : (okPick vl.length ord ∧ ord.length = vl.length ∧ ls.length = vl.length) ∧ tot = sumI (permH ls ord) ∧ HoldsR (permV vl ord) ns most (permH ls ord) 0 0 := by
  rcases hb with ⟨h, _⟩ | ⟨_, h1, h2, h3, h4, h5⟩
  · rw [hfd] at h; cases h
  · refine ⟨⟨h2, h3, h4⟩, h5, ?_⟩
    rcases fold_feas _ _ _ h1 with h | h
    · cases h
    · exact feas_spec h
theorem best_none (hb : BestM vl ns most (permsF vl.length vl.length []) fd ord ls tot) (hfd : fd = false) : ord.length = 0 ∧ ls.length = 0 ∧ tot = 0 := by
  rcases hb with ⟨_, _, rfl, rfl, h⟩ | ⟨h, _⟩
  · exact ⟨rfl, rfl, h⟩
  · rw [hfd] at h; cases h
/-- What the law asks of Order and of Holds of another order. -/
theorem best_law {e : Int} (hO : OrderA vl ns most ord ls tot e) (h6 : vl.length ≤ 6) (hm : 0 ≤ most ∧ most ≤ 5000) (hok : okPick vl.length pk) (hl : pk.length = vl.length) (hA : HoldsA (permV vl pk) ns most h a f) :
    (e ≠ 0 ∧ f = e ∧ ord.length = 0 ∧ ls.length = 0 ∧ tot = 0) ∨
    (e = 0 ∧ (f = 0 → tot ≤ sumI h) ∧ (okPick vl.length ord ∧ ord.length = vl.length ∧ ls.length = vl.length) ∧ tot = sumI (permH ls ord) ∧ ∀ h' a' f', HoldsA (permV vl ord) ns most h' a' f' → h' = permH ls ord ∧ f' = 0) := by
  have hpe : OpenE (permV vl pk) ns = OpenE vl ns := OpenE.perm (permV_perm hok hl)
  rcases hO with ⟨h1, _⟩ | ⟨_, h0, rfl, rfl, h2, h3⟩ | ⟨_, _, h1, _⟩ | ⟨_, h0, _, fd, hb, h3⟩
  · omega
  · have hb := hold_bad hA (by rw [hpe]; exact h0)
    exact .inl ⟨by omega, by rw [hb.2.2, hpe, h3], rfl, rfl, h2⟩
  · exact absurd hm h1
  · have hR := hold_ok hA (by rw [hpe]; exact h0) hm
    have hbo := best_other hb hok hl hR
    cases fd with
    | false =>
      have hn := best_none hb rfl
      exact .inl ⟨by simp at h3; omega, by have := hbo.1 rfl; simp at h3; omega, hn.1, hn.2.1, hn.2.2⟩
    | true =>
      have hg := best_good hb rfl
      refine .inr ⟨by simpa using h3, hbo.2 rfl, hg.1, hg.2.1, fun h' a' f' hA' => ?_⟩
      have hR' := hold_ok hA' (by rw [OpenE.perm (permV_perm hg.1.1 hg.1.2.1)]; exact h0) hm
      have hu := HoldsR.unique hR' hg.2.2
      exact ⟨hu.1, hu.2.2⟩
end
theorem holdsA_rng {vl : List Voy} {ns : List Nar} {most a e : Int} {ls : List Int} (h : HoldsA vl ns most ls a e) (hm : most ≤ 255) : ls.length ≤ vl.length ∧ ∀ j, j < ls.length → 0 ≤ nth ls j ∧ nth ls j ≤ 255 := by
  rcases h with ⟨_, rfl, _⟩ | ⟨_, _, rfl, _⟩ | ⟨_, _, h⟩
  · exact ⟨Nat.zero_le _, fun j hj => absurd hj (Nat.not_lt_zero _)⟩
  · exact ⟨Nat.zero_le _, fun j hj => absurd hj (Nat.not_lt_zero _)⟩
  · refine ⟨holdsR_len h, fun j hj => ?_⟩
    rcases h with ⟨_, _, h1, h2⟩ | ⟨_, _, _, _, rfl, _⟩
    · have h3 := h2 j (by omega)
      exact ⟨h3.1.1, by omega⟩
    · exact absurd hj (Nat.not_lt_zero _)
theorem sumB_rng {ls : List Int} : ∀ n, n ≤ ls.length → (∀ j, j < n → 0 ≤ nth ls j ∧ nth ls j ≤ 255) → 0 ≤ sumI (ls.take n) ∧ sumI (ls.take n) ≤ 255 * n
  | 0, _, _ => by simp [sumI]
  | n + 1, hn, h => by
    have h1 := sumB_rng n (by omega) (fun j hj => h j (by omega))
    have h2 := h n (by omega)
    rw [take_nth (by omega), sumI_snoc]
    omega
/-- Where not all of n are taken, one is left. -/
theorem left_of {n : Nat} {pk : List Int} (h : okPick n pk) (hl : pk.length < n) : ∃ u : Nat, u < n ∧ ¬ (u : Int) ∈ pk := by
  refine Classical.byContradiction fun hc => ?_
  have h1 : ∀ x ∈ ordL n, x ∈ pk := fun x hx => by
    unfold ordL at hx
    obtain ⟨u, hu, rfl⟩ := List.mem_map.1 hx
    exact Classical.byContradiction fun hn => hc ⟨u, by simpa using hu, hn⟩
  have hd : (ordL n).Nodup := by
    unfold ordL
    exact List.Pairwise.map _ (fun a b h e => h (by omega)) List.nodup_range
  have h3 := (perm_of_incl hd h1 (by rw [ordL_len]; omega)).length_eq
  rw [ordL_len] at h3; omega

end Go.Proofs.Ytmicjleiheoieaa
