/-
  Rows of hulls: no allowed rows are shorter than the best ones, and the best ones are allowed: plain laws. Conditions: none.
-/
import Derived.Test.YtmicjleiheoieaaA7
import Derived.Test.YtmicjleiheoieaaA25
namespace Go.Proofs.Ytmicjleiheoieaa
open Go Go.RowKit
theorem pick_keep {x : Int × Int} {i l q : Int} (hl : 0 ≤ l) (hx : 0 ≤ x.2) : 0 ≤ (pickR x i l q).2 ∧ (pickR x i l q).2 ≤ x.2 := by
  unfold pickR; split
  · rename_i h; show 0 ≤ l + q ∧ l + q ≤ x.2; omega
  · omega
theorem pick_new {x : Int × Int} {i l q : Int} (hl : 0 ≤ l) (hq : 0 ≤ q) : 0 ≤ (pickR x i l q).2 ∧ (pickR x i l q).2 ≤ l + q := by
  unfold pickR; split
  · show 0 ≤ l + q ∧ l + q ≤ l + q; omega
  · omega
theorem goR_keep {rest : List Hull → Int} {W : Int} : ∀ (m : Nat) (r : Row) (x : Int × Int) (i : Int) (ys : List Hull), (∀ h ∈ ys, 0 ≤ h.len ∧ 0 ≤ h.wid) → 0 ≤ r.long → 0 ≤ x.2 → 0 ≤ (goR rest W m r x i ys).2 ∧ (goR rest W m r x i ys).2 ≤ x.2
  | 0, _, x, _, _, _, _, hx => by unfold goR; omega
  | _ + 1, _, x, _, [], _, _, hx => by unfold goR; omega
  | m + 1, r, x, i, h :: ys, hy, hr, hx => by
    unfold goR; split
    · omega
    · have h1 := hy h (by simp)
      have hp := pick_keep (x := x) (i := i) (l := max r.long h.len) (q := rest ys) (by omega) hx
      have := goR_keep (rest := rest) (W := W) m (addH r h) (pickR x i (max r.long h.len) (rest ys)) (i + 1) ys (fun z hz => hy z (by simp [hz])) (by show 0 ≤ max r.long h.len; omega) hp.1
      omega
theorem wide_mono : ∀ (p : List Hull) (r : Row), (∀ h ∈ p, 0 ≤ h.len ∧ 0 ≤ h.wid) → r.wide ≤ (p.foldl addH r).wide
  | [], _, _ => Int.le_refl _
  | h :: p, r, hp => by
    have h1 := hp h (by simp)
    have := wide_mono p (addH r h) (fun z hz => hp z (by simp [hz]))
    have e : (addH r h).wide = r.wide + h.wid := rfl
    rw [List.foldl_cons]; omega
theorem goR_low {rest : List Hull → Int} {W : Int} {t : List Hull} : ∀ (p : List Hull) (m : Nat) (r : Row) (x : Int × Int) (i : Int), 0 < p.length → p.length ≤ m → (∀ h ∈ p ++ t, 0 ≤ h.len ∧ 0 ≤ h.wid) → 0 ≤ r.long → (p.foldl addH r).wide ≤ W → 0 ≤ rest t →
    0 ≤ (goR rest W m r x i (p ++ t)).2 ∧ (goR rest W m r x i (p ++ t)).2 ≤ (p.foldl addH r).long + rest t
  | [], _, _, _, _, h, _, _, _, _, _ => absurd h (by simp)
  | h :: p, 0, _, _, _, _, hm, _, _, _, _ => absurd hm (by simp)
  | h :: p, m + 1, r, x, i, _, hm, hy, hr, hw, hq => by
    have h1 := hy h (by simp)
    have hw1 := wide_mono p (addH r h) (fun z hz => hy z (by simp [hz]))
    rw [List.foldl_cons] at hw
    have e : (addH r h).wide = r.wide + h.wid := rfl
    have hl : 0 ≤ (addH r h).long := by show 0 ≤ max r.long h.len; omega
    rw [List.cons_append]; unfold goR; rw [if_neg (by omega), List.foldl_cons]
    cases p with
    | nil =>
      have hp := pick_new (x := x) (i := i) (l := max r.long h.len) (q := rest t) (by omega) hq
      have := goR_keep (rest := rest) (W := W) m (addH r h) (pickR x i (max r.long h.len) (rest t)) (i + 1) t (fun z hz => hy z (by simp [hz])) hl hp.1
      show 0 ≤ (goR rest W m (addH r h) (pickR x i (max r.long h.len) (rest t)) (i + 1) t).2 ∧ (goR rest W m (addH r h) (pickR x i (max r.long h.len) (rest t)) (i + 1) t).2 ≤ max r.long h.len + rest t
      omega
    | cons g p => exact goR_low (g :: p) m (addH r h) _ (i + 1) (by simp) (by simp at hm ⊢; omega) (fun z hz => hy z (by simp at hz ⊢; exact .inr hz)) hl hw hq
def okRows (W : Int) (rs : List (List Hull)) : Prop := ∀ r ∈ rs, (1 ≤ r.length ∧ r.length ≤ 4) ∧ (rowOf r).wide ≤ W
def sumLong (rs : List (List Hull)) : Int := (rs.map fun r => (rowOf r).long).sum
theorem bestR_low {W : Int} : ∀ (rs : List (List Hull)) (n : Nat), rs.length ≤ n → okRows W rs → (∀ h ∈ rs.flatten, 0 ≤ h.len ∧ 0 ≤ h.wid) → 0 ≤ (bestR W n rs.flatten).2 ∧ (bestR W n rs.flatten).2 ≤ sumLong rs
  | [], n, _, _, _ => by
    have e : bestR W n ([] : List (List Hull)).flatten = (0, 0) := by cases n <;> rfl
    rw [e]; exact ⟨Int.le_refl _, Int.le_refl _⟩
  | r :: rs, 0, h, _, _ => absurd h (by simp)
  | r :: rs, n + 1, hn, ho, hy => by
    have h1 := ho r (by simp)
    have ih := bestR_low rs n (by simpa using hn) (fun q hq => ho q (by simp [hq])) (fun z hz => hy z (by simp only [List.flatten_cons, List.mem_append]; exact .inr hz))
    have e : sumLong (r :: rs) = (rowOf r).long + sumLong rs := by simp [sumLong]
    rw [e, List.flatten_cons]
    cases r with
    | nil => simp at h1
    | cons h r =>
      have h2 := goR_low (rest := fun zs => (bestR W n zs).2) (W := W) (t := rs.flatten) (h :: r) 4 ⟨0, 0, 0⟩ (0, -1) 0 (by simp) h1.1.2 (by simpa using hy) (Int.le_refl _) h1.2 ih.1
      have e2 : bestR W (n + 1) ((h :: r) ++ rs.flatten) = goR (fun zs => (bestR W n zs).2) W 4 ⟨0, 0, 0⟩ (0, -1) 0 ((h :: r) ++ rs.flatten) := rfl
      rw [e2]
      have e3 : ((h :: r).foldl addH ⟨0, 0, 0⟩).long = (rowOf (h :: r)).long := rfl
      omega
def GoodX (full : List Hull) (rest : List Hull → Int) (W : Int) (x : Int × Int) : Prop :=
  x.2 < 0 ∨ ∃ k : Nat, x.1 = k ∧ (1 ≤ k ∧ k ≤ 4) ∧ k ≤ full.length ∧ (rowOf (full.take k)).wide ≤ W ∧ 0 ≤ rest (full.drop k) ∧ x.2 = (rowOf (full.take k)).long + rest (full.drop k)
theorem goR_sound {rest : List Hull → Int} {W : Int} {full : List Hull} : ∀ (m : Nat) (r : Row) (x : Int × Int) (i : Nat) (ys : List Hull), m + i ≤ 4 → full.drop i = ys → i ≤ full.length → r = rowOf (full.take i) → GoodX full rest W x → GoodX full rest W (goR rest W m r x i ys)
  | 0, _, _, _, _, _, _, _, _, hx => by unfold goR; exact hx
  | _ + 1, _, _, _, [], _, _, _, _, hx => by unfold goR; exact hx
  | m + 1, r, x, i, h :: ys, hm, hd, hi, hr, hx => by
    have hlt : i < full.length := by
      rcases Nat.lt_or_ge i full.length with h | h
      · exact h
      · rw [List.drop_eq_nil_of_le h] at hd; cases hd
    have hd2 := drop_nth hlt
    rw [hd] at hd2
    injection hd2 with e1 e2
    have hr2 : addH r h = rowOf (full.take (i + 1)) := by rw [take_nth hlt, hr, e1]; simp [rowOf]
    unfold goR; split
    · exact hx
    · rename_i hw
      have h9 : ((i : Int) + 1) = ((i + 1 : Nat) : Int) := by omega
      rw [h9]
      refine goR_sound m (addH r h) _ (i + 1) ys (by omega) e2.symm (by omega) hr2 ?_
      unfold pickR; split
      · rename_i hp
        refine .inr ⟨i + 1, by simp, by omega, by omega, ?_, ?_, ?_⟩
        · rw [← hr2]; show r.wide + h.wid ≤ W; omega
        · rw [← e2]; exact hp.1
        · rw [← hr2, ← e2]; rfl
      · exact hx
theorem bestR_sound {W : Int} {n : Nat} {ys : List Hull} (hy : 0 < ys.length) (h : 0 ≤ (bestR W n ys).2) : ∃ (k m : Nat), n = m + 1 ∧ (bestR W n ys).1 = k ∧ (1 ≤ k ∧ k ≤ 4) ∧ k ≤ ys.length ∧ (rowOf (ys.take k)).wide ≤ W ∧ 0 ≤ (bestR W m (ys.drop k)).2 ∧ (bestR W n ys).2 = (rowOf (ys.take k)).long + (bestR W m (ys.drop k)).2 := by
  cases ys with
  | nil => simp at hy
  | cons z ys =>
    cases n with
    | zero => simp [bestR] at h
    | succ m =>
      have h1 := goR_sound (rest := fun zs => (bestR W m zs).2) (W := W) (full := z :: ys) 4 ⟨0, 0, 0⟩ (0, -1) 0 (z :: ys) (by decide) rfl (by simp) rfl (.inl (by decide))
      have e : bestR W (m + 1) (z :: ys) = goR (fun zs => (bestR W m zs).2) W 4 ⟨0, 0, 0⟩ (0, -1) ((0 : Nat) : Int) (z :: ys) := rfl
      rw [← e] at h1
      rcases h1 with h1 | ⟨k, h2, h3, h4, h5, h6, h7⟩
      · omega
      · exact ⟨k, m, rfl, h2, h3, h4, h5, h6, h7⟩
/-- Hulls in rows of these sizes. -/
def splitR : List Int → List Hull → List (List Hull)
  | [], _ => []
  | n :: ns, ys => ys.take n.toNat :: splitR ns (ys.drop n.toNat)
theorem rows_sound {W : Int} : ∀ (n : Nat) (ys : List Hull), 0 ≤ (bestR W n ys).2 → (splitR (rowsR W n ys) ys).flatten = ys ∧ okRows W (splitR (rowsR W n ys) ys) ∧ sumLong (splitR (rowsR W n ys) ys) = (bestR W n ys).2
  | 0, ys, h => by
    cases ys with
    | nil => exact ⟨rfl, fun _ h => (by cases h), rfl⟩
    | cons z ys => simp [bestR] at h
  | n + 1, ys, h => by
    rcases Nat.eq_zero_or_pos ys.length with h0 | h0
    · have : ys = [] := List.eq_nil_of_length_eq_zero h0
      subst this
      exact ⟨rfl, fun _ h => (by cases h), rfl⟩
    · obtain ⟨k, m, e1, e2, h3, h4, h5, h6, h7⟩ := bestR_sound h0 h
      obtain rfl : n = m := by omega
      rw [rowsR_step h0 h, e2]
      have ek : ((k : Int)).toNat = k := by simp
      simp only [splitR, ek, Nat.add_sub_cancel]
      have ih := rows_sound n (ys.drop k) h6
      refine ⟨by rw [List.flatten_cons, ih.1, List.take_append_drop], fun r hr => ?_, ?_⟩
      · rcases List.mem_cons.1 hr with rfl | hr
        · exact ⟨by rw [List.length_take]; omega, h5⟩
        · exact ih.2.1 r hr
      · have e : sumLong (ys.take k :: splitR (rowsR W n (ys.drop k)) (ys.drop k)) = (rowOf (ys.take k)).long + sumLong (splitR (rowsR W n (ys.drop k)) (ys.drop k)) := by simp [sumLong]
        rw [e, ih.2.2, h7]
theorem splitR_len : ∀ (ns : List Int) (ys : List Hull), (splitR ns ys).length = ns.length
  | [], _ => rfl
  | _ :: ns, ys => by simp [splitR, splitR_len ns]
theorem okRows_mono {W W' : Int} {rs : List (List Hull)} (h : okRows W rs) (hw : W ≤ W') : okRows W' rs := fun r hr => ⟨(h r hr).1, Int.le_trans (h r hr).2 hw⟩
/-- A wider fairway: no longer a tow. -/
theorem bestR_wider {W W' : Int} {n : Nat} {ys : List Hull} (hw : W ≤ W') (hy : ∀ h ∈ ys, 0 ≤ h.len ∧ 0 ≤ h.wid) (h : 0 ≤ (bestR W n ys).2) : 0 ≤ (bestR W' n ys).2 ∧ (bestR W' n ys).2 ≤ (bestR W n ys).2 := by
  have h1 := rows_sound n ys h
  have h2 := bestR_low (W := W') (splitR (rowsR W n ys) ys) n (by rw [splitR_len]; exact rowsR_len n ys) (okRows_mono h1.2.1 hw) (by rw [h1.1]; exact hy)
  rw [h1.1, h1.2.2] at h2
  exact h2
/-- What a tow of these rows measures. -/
theorem size_rows : ∀ (rs : List (List Hull)) (s : Size), (rs.foldl addRow s).len = s.len + sumLong rs ∧ (rs.foldl addRow s).hulls = s.hulls + rs.flatten.length ∧ ∀ W : Int, (rs.foldl addRow s).wid ≤ W ↔ s.wid ≤ W ∧ ∀ r ∈ rs, (rowOf r).wide ≤ W
  | [], s => by simp [sumLong]
  | r :: rs, s => by
    have ih := size_rows rs (addRow s r)
    rw [List.foldl_cons]
    refine ⟨?_, ?_, fun W => ?_⟩
    · rw [ih.1]; simp [addRow, sumLong]; omega
    · rw [ih.2.1]; simp [addRow]; omega
    · rw [ih.2.2 W]
      constructor
      · intro ⟨h1, h2⟩
        have h3 : max s.wid (rowOf r).wide ≤ W := h1
        exact ⟨by omega, fun q hq => by rcases List.mem_cons.1 hq with rfl | hq; (omega); exact h2 q hq⟩
      · intro ⟨h1, h2⟩
        have h3 := h2 r (by simp)
        exact ⟨by show max s.wid (rowOf r).wide ≤ W; omega, fun q hq => h2 q (by simp [hq])⟩

end Go.Proofs.Ytmicjleiheoieaa
