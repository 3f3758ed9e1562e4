/-
  Part 16 of the proof: contracts and plain laws. Conditions: none.
-/
import Derived.Test.YtgoajalaomakpaaGreatCK15
namespace Go.Proofs.YtgoajalaomakpaaGreat
open Go Go.RowKit

theorem cmpL_zero : ∀ {x y : List Int}, cmpL x y = 0 ↔ x = y
  | [], [] => by simp [cmpL]
  | [], _ :: _ => by simp [cmpL]
  | _ :: _, [] => by simp [cmpL]
  | a :: x, b :: y => by
    have := @cmpL_zero x y
    have h := @cmp_eq a b
    unfold cmpL
    by_cases q : cmpI3 a b = 0
    · rw [if_neg (by omega), this]
      have := h.1 q
      simp [this]
    · rw [if_pos q]
      constructor
      · intro e; exact absurd e q
      · intro e; simp only [List.cons.injEq] at e; exact absurd (h.2 e.1) q
theorem cmpL_trans : ∀ {x y z : List Int}, cmpL x y < 0 → cmpL y z < 0 → cmpL x z < 0
  | [], [], _, h, _ => absurd h (by simp [cmpL])
  | [], _ :: _, [], _, h => absurd h (by simp [cmpL])
  | [], _ :: _, _ :: _, _, _ => by simp [cmpL]
  | _ :: _, [], _, h, _ => absurd h (by simp [cmpL])
  | _ :: _, _ :: _, [], _, h => absurd h (by simp [cmpL])
  | a :: x, b :: y, c :: z, h1, h2 => by
    have ih := @cmpL_trans x y z
    have e1 := @cmp_eq a b; have e2 := @cmp_eq b c; have e3 := @cmp_eq a c
    have l1 := @cmp_lt a b; have l2 := @cmp_lt b c; have l3 := @cmp_lt a c
    rw [cmpL] at h1 h2 ⊢
    by_cases q1 : cmpI3 a b = 0
    · rw [if_neg (by omega)] at h1
      by_cases q2 : cmpI3 b c = 0
      · rw [if_neg (by omega)] at h2
        rw [if_neg (by omega)]
        exact ih h1 h2
      · rw [if_pos q2] at h2
        rw [if_pos (by omega)]; omega
    · rw [if_pos q1] at h1
      by_cases q2 : cmpI3 b c = 0
      · rw [if_pos (by omega)]; omega
      · rw [if_pos q2] at h2
        rw [if_pos (by omega)]; omega
theorem cmpL_anti : ∀ {x y : List Int}, 0 < cmpL x y → cmpL y x < 0
  | [], [], h => absurd h (by simp [cmpL])
  | [], _ :: _, h => absurd h (by simp [cmpL])
  | _ :: _, [], _ => by simp [cmpL]
  | a :: x, b :: y, h => by
    have ih := @cmpL_anti x y
    have e1 := @cmp_eq a b; have e2 := @cmp_eq b a
    have l1 := @cmp_gt a b; have l2 := @cmp_lt b a
    rw [cmpL] at h ⊢
    by_cases q1 : cmpI3 a b = 0
    · rw [if_neg (by omega)] at h
      rw [if_neg (by omega)]
      exact ih h
    · rw [if_pos q1] at h
      rw [if_pos (by omega)]; omega
theorem cmpL_pre (p x y : List Int) : cmpL (p ++ x) (p ++ y) = cmpL x y := by
  induction p with
  | nil => rfl
  | cons a p ih =>
    have e1 := (@cmp_eq a a).2 rfl
    rw [List.cons_append, List.cons_append, cmpL, if_neg (by omega), ih]
/-- A run is better than another one. -/
def bt (a b : Rn) : Bool := btr a.s a.g b.s b.g
theorem bt_iff {a b : Rn} : bt a b = true ↔ b.g < a.g ∨ (a.g = b.g ∧ (a.s.length < b.s.length ∨ (a.s.length = b.s.length ∧ cmpL a.s b.s < 0))) := by
  unfold bt btr
  rw [decide_eq_true_eq, or3_lt, cmp_lt, cmp_eq, cmp_lt, cmp_eq]
  omega
theorem bt_trans {a b c : Rn} (h1 : bt a b = true) (h2 : bt b c = true) : bt a c = true := by
  rw [bt_iff] at *
  have := @cmpL_trans a.s b.s c.s
  omega
theorem bt_total {a b : Rn} (h : bt a b = false) : bt b a = true ∨ a = b := by
  have h' : ¬ bt a b = true := by rw [h]; exact Bool.false_ne_true
  rw [bt_iff] at h' ⊢
  have h1 := @cmpL_zero a.s b.s
  have h2 := @cmpL_anti a.s b.s
  by_cases q : a.g = b.g ∧ a.s.length = b.s.length ∧ cmpL a.s b.s = 0
  · right
    obtain ⟨q1, _, q3⟩ := q
    have := h1.1 q3
    cases a; cases b; simp_all
  · left
    omega
theorem bt_neg {a b c : Rn} (h1 : bt a b = false) (h2 : bt b c = false) : bt a c = false := by
  cases h : bt a c
  · rfl
  · rcases bt_total h1 with q | q
    · exact absurd (bt_trans q h) (by rw [h2]; exact Bool.false_ne_true)
    · rw [q, h2] at h; cases h
theorem bt_irr (a : Rn) : bt a a = false := by
  have : ¬ bt a a = true := by
    rw [bt_iff]
    have := (@cmpL_zero a.s a.s).2 rfl
    omega
  simpa using this
theorem bt_pre (p : List Int) (g : Int) (a b : Rn) : bt ⟨p ++ a.s, g + a.g⟩ ⟨p ++ b.s, g + b.g⟩ = bt a b := by
  rw [Bool.eq_iff_iff, bt_iff, bt_iff]
  simp only [List.length_append, cmpL_pre]
  omega
/-- An offer is before another one. -/
def prc (l : List Off) (i j : Int) : Prop := (nth l i.toNat).b < (nth l j.toNat).b ∨ ((nth l i.toNat).b = (nth l j.toNat).b ∧ i < j)
instance (l : List Off) (i j : Int) : Decidable (prc l i j) := by unfold prc; infer_instance
theorem prc_trans {l : List Off} {i j k : Int} (h1 : prc l i j) (h2 : prc l j k) : prc l i k := by unfold prc at *; omega
theorem prc_irr {l : List Off} {i : Int} (h : prc l i i) : False := by unfold prc at h; omega
/-- Offers that can be carried one after another, in order. -/
def Fea (l : List Off) : Hul → List Int → Prop
  | _, [] => True
  | h, i :: r => (0 ≤ i ∧ i < (l.length : Int)) ∧ inT l h i ∧ (∀ j ∈ r.head?, prc l i j) ∧ Fea l (aftH h (nth l i.toNat)) r
def gnF (l : List Off) : Hul → List Int → Int
  | _, [] => 0
  | h, i :: r => (nth l i.toNat).p - farH h (nth l i.toNat) * h.c + gnF l (aftH h (nth l i.toNat)) r
/-- The best run of some. -/
def IsB (P : Rn → Prop) (r : Rn) : Prop := P r ∧ ∀ q, P q → bt q r = false
theorem IsB.uniq {P : Rn → Prop} {a b : Rn} (h1 : IsB P a) (h2 : IsB P b) : a = b := by
  rcases bt_total (h2.2 a h1.1) with q | q
  · rw [h1.2 b h2.1] at q; cases q
  · exact q
/-- Runs that begin with an offer; the way to it costs nothing. -/
def CandI (l : List Off) (h : Hul) (i : Int) (q : Rn) : Prop := ∃ r, q.s = i :: r ∧ (∀ j ∈ r.head?, prc l i j) ∧ Fea l (aftH h (nth l i.toNat)) r ∧ q.g = (nth l i.toNat).p + gnF l (aftH h (nth l i.toNat)) r
/-- Runs that go on with one of some later offers, or not at all. -/
def CandL (l : List Off) (h h' : Hul) (now : Rn) (L : List Int) (q : Rn) : Prop := q = now ∨ ∃ j ∈ L, inT l h' j ∧ ∃ c, CandI l h j c ∧ q = ⟨now.s ++ c.s, now.g + c.g - farH h' (nth l j.toNat) * h'.c⟩
theorem bst_best {l : List Off} {h h' : Hul} {fr : List Rn} {now : Rn} {later : List Int} (hf : ∀ j ∈ later, IsB (CandI l h j) (nth fr j.toNat)) : ∀ k, k ≤ later.length → IsB (CandL l h h' now (later.take k)) (bstK l h' fr now later k)
  | 0, _ => ⟨.inl rfl, fun q hq => by
    rcases hq with rfl | ⟨j, hj, _⟩
    · exact bt_irr _
    · simp at hj⟩
  | k + 1, hk => by
    obtain ⟨ih1, ih2⟩ := bst_best (h' := h') (now := now) hf k (by omega)
    have hm : nth later k ∈ later := nth_mem (by omega)
    obtain ⟨f1, f2⟩ := hf _ hm
    have hr : nxR l h' fr now (nth later k) = ⟨now.s ++ (nth fr (nth later k).toNat).s, now.g + (nth fr (nth later k).toNat).g - farH h' (nth l (nth later k).toNat) * h'.c⟩ := rfl
    have hcr : ∀ c, CandI l h (nth later k) c → bt ⟨now.s ++ c.s, now.g + c.g - farH h' (nth l (nth later k).toNat) * h'.c⟩ (nxR l h' fr now (nth later k)) = false := fun c hc => by
      have e := bt_pre now.s (now.g - farH h' (nth l (nth later k).toNat) * h'.c) c (nth fr (nth later k).toNat)
      rw [f2 c hc] at e
      rw [hr, ← e]
      congr 2 <;> omega
    rw [take_nth (show k < later.length by omega)]
    unfold bstK bstStep
    by_cases hb : bstOk l h' fr now (bstK l h' fr now later k) (nth later k)
    · rw [if_pos hb]
      refine ⟨.inr ⟨_, by simp, hb.1, _, f1, rfl⟩, fun q hq => ?_⟩
      have old : ∀ q, CandL l h h' now (later.take k) q → bt q (nxR l h' fr now (nth later k)) = false := fun q hq => by
        cases hq2 : bt q (nxR l h' fr now (nth later k))
        · rfl
        · exact absurd (bt_trans hq2 (show bt _ _ = true from hb.2)) (by rw [ih2 q hq]; exact Bool.false_ne_true)
      rcases hq with rfl | ⟨j, hj, hi, c, hc, rfl⟩
      · exact old _ (.inl rfl)
      · rcases List.mem_append.1 hj with hj | hj
        · exact old _ (.inr ⟨j, hj, hi, c, hc, rfl⟩)
        · obtain rfl := List.mem_singleton.1 hj
          exact hcr c hc
    · rw [if_neg hb]
      refine ⟨?_, fun q hq => ?_⟩
      · rcases ih1 with e | ⟨j, hj, q⟩
        · exact .inl e
        · exact .inr ⟨j, List.mem_append_left _ hj, q⟩
      · rcases hq with rfl | ⟨j, hj, hi, c, hc, rfl⟩
        · exact ih2 _ (.inl rfl)
        · rcases List.mem_append.1 hj with hj | hj
          · exact ih2 _ (.inr ⟨j, hj, hi, c, hc, rfl⟩)
          · obtain rfl := List.mem_singleton.1 hj
            have h9 : bt (nxR l h' fr now (nth later k)) (bstK l h' fr now later k) = false := by
              cases q : bt (nxR l h' fr now (nth later k)) (bstK l h' fr now later k)
              · rfl
              · exact absurd ⟨hi, q⟩ hb
            exact bt_neg (hcr c hc) h9
theorem bstP_best {l : List Off} {h h' : Hul} {fr : List Rn} {now : Rn} {later : List Int} (hf : ∀ j ∈ later, IsB (CandI l h j) (nth fr j.toNat)) : IsB (CandL l h h' now later) (bstP l h' fr now later) := by
  have := bst_best (h' := h') (now := now) hf later.length (Nat.le_refl _)
  rwa [List.take_length] at this
theorem nth_set {α : Type} [Inhabited α] {xs : List α} {i j : Nat} {v : α} (h : j < xs.length) : nth (xs.set i v) j = if i = j then v else nth xs j := by
  rw [nth_eq (by rw [List.length_set]; exact h), List.getElem_set, nth_eq h]
/-- The order is strict. -/
structure InsI (l : List Off) (k : Nat) (j : Nat) (es : List Int) : Prop where
  len : k < es.length
  jk : j ≤ k
  me : nth es j = (k : Int)
  oth : ∀ a b, a < b → b ≤ k → a ≠ j → b ≠ j → prc l (nth es a) (nth es b)
  up : ∀ b, j < b → b ≤ k → (nth l (nth es j).toNat).b < (nth l (nth es b).toNat).b
  dn : ∀ a, a < j → nth es a < (k : Int)
  dn2 : ∀ a, j < a → a ≤ k → nth es a < (k : Int)
  rest : ∀ a, k < a → a < es.length → nth es a = (a : Int)
theorem InsI.done {l : List Off} {k : Nat} : ∀ (j : Nat) (es : List Int), InsI l k j es → (∀ a b, a < b → b ≤ k → prc l (nth (insJ (cmpO l) es j) a) (nth (insJ (cmpO l) es j) b)) ∧ (∀ a, a ≤ k → nth (insJ (cmpO l) es j) a ≤ (k : Int)) ∧ (∀ a, k < a → a < es.length → nth (insJ (cmpO l) es j) a = (a : Int)) ∧ (insJ (cmpO l) es j).length = es.length
  | 0, es, h => by
    rw [insJ]
    have hm := h.me
    refine ⟨fun a b hab hb => ?_, fun a ha => ?_, h.rest, rfl⟩
    · by_cases q : a = 0
      · subst q
        exact .inl (h.up b hab hb)
      · exact h.oth a b hab hb q (by omega)
    · by_cases q : a = 0
      · subst q; omega
      · have := h.dn2 a (by omega) ha; omega
  | j + 1, es, h => by
    have hlen := h.len
    have hjk := h.jk
    unfold insJ
    split
    · rename_i hc
      unfold cmpO at hc
      have hs : ∀ i, i < es.length → nth ((es.set (j + 1) (nth es j)).set j (nth es (j + 1))) i = if j = i then nth es (j + 1) else if j + 1 = i then nth es j else nth es i := fun i hi => by
        rw [nth_set (by rw [List.length_set]; exact hi), nth_set hi]
      have := InsI.done (l := l) (k := k) j ((es.set (j + 1) (nth es j)).set j (nth es (j + 1))) ?_
      · simpa using this
      · have hme := h.me
        have hdj := h.dn j (by omega)
        refine ⟨by simpa using h.len, by omega, ?_, fun a b hab hb ha hb2 => ?_, fun b hb1 hb2 => ?_, fun a ha => ?_, fun a ha1 ha2 => ?_, fun a ha1 ha2 => ?_⟩
        · rw [hs j (by omega), if_pos rfl]; exact hme
        · have ea := hs a (by omega)
          have eb := hs b (by omega)
          rw [if_neg (fun e => ha e.symm)] at ea
          rw [if_neg (fun e => hb2 e.symm)] at eb
          rw [ea, eb]
          by_cases q1 : j + 1 = a
          · rw [if_pos q1, if_neg (by omega)]
            exact h.oth j b (by omega) hb (by omega) (by omega)
          · rw [if_neg q1]
            by_cases q2 : j + 1 = b
            · rw [if_pos q2]; exact h.oth a j (by omega) (by omega) (by omega) (by omega)
            · rw [if_neg q2]; exact h.oth a b hab hb (by omega) (by omega)
        · rw [hs j (by omega), hs b (by omega), if_pos rfl, if_neg (by omega)]
          by_cases q : j + 1 = b
          · rw [if_pos q]; omega
          · rw [if_neg q]; exact h.up b (by omega) hb2
        · rw [hs a (by omega), if_neg (by omega), if_neg (by omega)]; exact h.dn a (by omega)
        · rw [hs a (by omega), if_neg (by omega)]
          by_cases q : j + 1 = a
          · rw [if_pos q]; omega
          · rw [if_neg q]; exact h.dn2 a (by omega) ha2
        · simp only [List.length_set] at ha2
          rw [hs a ha2, if_neg (by omega), if_neg (by omega)]; exact h.rest a ha1 ha2
    · rename_i hc
      unfold cmpO at hc
      have hme := h.me
      refine ⟨fun a b hab hb => ?_, fun a ha => ?_, h.rest, rfl⟩
      · by_cases q1 : a = j + 1
        · subst q1
          exact .inl (h.up b hab hb)
        · by_cases q2 : b = j + 1
          · subst q2
            have h1 : (nth l (nth es a).toNat).b ≤ (nth l (nth es j).toNat).b := by
              by_cases q3 : a = j
              · rw [q3]; exact Int.le_refl _
              · have := h.oth a j (by omega) (by omega) (by omega) (by omega)
                unfold prc at this; omega
            have h2 := h.dn a (by omega)
            unfold prc; omega
          · exact h.oth a b hab hb q1 q2
      · by_cases q : a = j + 1
        · subst q; omega
        · rcases Nat.lt_or_ge a (j + 1) with q2 | q2
          · have := h.dn a q2; omega
          · have := h.dn2 a (by omega) ha; omega
theorem insI_sorted {l : List Off} : ∀ k, k < l.length → (∀ a b, a < b → b ≤ k → prc l (nth (insI (cmpO l) (iotaL l.length) k) a) (nth (insI (cmpO l) (iotaL l.length) k) b)) ∧ (∀ a, a ≤ k → nth (insI (cmpO l) (iotaL l.length) k) a ≤ (k : Int)) ∧ (∀ a, k < a → a < l.length → nth (insI (cmpO l) (iotaL l.length) k) a = (a : Int)) ∧ (insI (cmpO l) (iotaL l.length) k).length = l.length
  | 0, h => by
    rw [insI]
    exact ⟨fun a b h1 h2 => by omega, fun a ha => by rw [show a = 0 by omega, iotaL_nth h]; exact Int.le_refl _, fun a _ ha => iotaL_nth ha, iotaL_len _⟩
  | k + 1, h => by
    obtain ⟨h1, h2, h3, h4⟩ := insI_sorted (l := l) k (by omega)
    have := InsI.done (l := l) (k := k + 1) (k + 1) (insI (cmpO l) (iotaL l.length) k) ⟨by omega, Nat.le_refl _, h3 (k + 1) (by omega) h, fun a b hab hb ha hb2 => h1 a b hab (by omega), fun b q1 q2 => by omega, fun a ha => by have := h2 a (by omega); omega, fun a q1 q2 => by omega, fun a q1 q2 => h3 a (by omega) (by omega)⟩
    rw [h4] at this
    exact this
theorem ordP_sorted {l : List Off} : ∀ a b, a < b → b < l.length → prc l (nth (ordP l) a) (nth (ordP l) b) := fun a b hab hb => (insI_sorted (l := l) (l.length - 1) (by omega)).1 a b hab (by omega)
theorem ordP_all {l : List Off} {i : Int} (h : 0 ≤ i ∧ i < (l.length : Int)) : ∃ k, k < l.length ∧ nth (ordP l) k = i := by
  have h1 : i ∈ iotaL l.length := by
    have := nth_mem (xs := iotaL l.length) (i := i.toNat) (by rw [iotaL_len]; omega)
    rwa [iotaL_nth (by omega), show ((i.toNat : Nat) : Int) = i by omega] at this
  obtain ⟨k, hk, e⟩ := List.getElem_of_mem ((ordP_perm l).mem_iff.2 h1)
  rw [ordP_len] at hk
  exact ⟨k, hk, by rw [nth_eq (by rw [ordP_len]; exact hk)]; exact e⟩
/-- What comes behind an offer in the order is what is behind it. -/
theorem ordP_later {l : List Off} {k : Nat} (hk : k < l.length) {j : Int} : j ∈ (ordP l).drop (k + 1) ↔ (0 ≤ j ∧ j < (l.length : Int)) ∧ prc l (nth (ordP l) k) j := by
  constructor
  · intro h
    refine ⟨ordP_mem (List.mem_of_mem_drop h), ?_⟩
    obtain ⟨i, hi, rfl⟩ := List.getElem_of_mem h
    rw [List.length_drop, ordP_len] at hi
    rw [List.getElem_drop, ← nth_eq]
    exact ordP_sorted k (k + 1 + i) (by omega) (by omega)
  · rintro ⟨h1, h2⟩
    obtain ⟨m, hm, rfl⟩ := ordP_all h1
    have : k < m := by
      rcases Nat.lt_trichotomy k m with q | q | q
      · exact q
      · subst q; exact (prc_irr h2).elim
      · exact (prc_irr (prc_trans h2 (ordP_sorted m k q hk))).elim
    rw [nth_eq (by rw [ordP_len]; exact hm)]
    rw [show (ordP l)[m]'(by rw [ordP_len]; exact hm) = ((ordP l).drop (k + 1))[m - (k + 1)]'(by rw [List.length_drop, ordP_len]; omega) by rw [List.getElem_drop]; congr 1; omega]
    exact List.getElem_mem _
theorem candI_L {l : List Off} {h : Hul} {k : Nat} (hk : k < l.length) (q : Rn) : CandI l h (nth (ordP l) k) q ↔ CandL l h (aftH h (nth l (nth (ordP l) k).toNat)) ⟨[nth (ordP l) k], (nth l (nth (ordP l) k).toNat).p⟩ ((ordP l).drop (k + 1)) q := by
  generalize hi : nth (ordP l) k = i
  have hlat := fun j => ordP_later hk (j := j)
  rw [hi] at hlat
  constructor
  · rintro ⟨r, h1, h2, h3, h4⟩
    cases r with
    | nil =>
      refine .inl ?_
      have h5 : q.g = (nth l i.toNat).p := by rw [h4]; simp [gnF]
      cases q; simp_all
    | cons j r =>
      obtain ⟨h5, h6, h7, h8⟩ := h3
      refine .inr ⟨j, (hlat j).2 ⟨h5, h2 j (by simp)⟩, h6, ⟨j :: r, (nth l j.toNat).p + gnF l (aftH h (nth l j.toNat)) r⟩, ⟨r, rfl, h7, h8, rfl⟩, ?_⟩
      have h9 : q.g = (nth l i.toNat).p + ((nth l j.toNat).p + gnF l (aftH h (nth l j.toNat)) r) - farH (aftH h (nth l i.toNat)) (nth l j.toNat) * (aftH h (nth l i.toNat)).c := by
        rw [h4, gnF]
        have : gnF l (aftH (aftH h (nth l i.toNat)) (nth l j.toNat)) r = gnF l (aftH h (nth l j.toNat)) r := rfl
        rw [this]; omega
      cases q; simp_all
  · rintro (rfl | ⟨j, hj, hin, c, ⟨r, c1, c2, c3, c4⟩, rfl⟩)
    · exact ⟨[], rfl, fun j hj => by simp at hj, trivial, by simp [gnF]⟩
    · obtain ⟨q1, q2⟩ := (hlat j).1 hj
      refine ⟨j :: r, by rw [c1]; rfl, fun a ha => ?_, ⟨q1, hin, c2, c3⟩, ?_⟩
      · simp only [List.head?_cons, Option.mem_def, Option.some.injEq] at ha
        subst ha; exact q2
      · rw [gnF, c4]
        have : gnF l (aftH (aftH h (nth l i.toNat)) (nth l j.toNat)) r = gnF l (aftH h (nth l j.toNat)) r := rfl
        rw [this]
        show (nth l i.toNat).p + ((nth l j.toNat).p + gnF l (aftH h (nth l j.toNat)) r) - _ = _
        omega
theorem tabT_best {l : List Off} {h : Hul} : ∀ t, t ≤ l.length → ∀ k, l.length - t ≤ k → k < l.length → IsB (CandI l h (nth (ordP l) k)) (nth (tabT l h (ordP l) t) (nth (ordP l) k).toNat)
  | 0, _, k, h1, h2 => by omega
  | t + 1, ht, k, h1, h2 => by
    have ih := tabT_best (l := l) (h := h) t (by omega)
    have hk0 := ordP_mem (nth_mem (xs := ordP l) (i := k) (by rw [ordP_len]; exact h2))
    have hn0 := ordP_mem (nth_mem (xs := ordP l) (i := l.length - (t + 1)) (by rw [ordP_len]; omega))
    rw [tabT, nth_set (by rw [tabT_len]; omega)]
    by_cases q : k = l.length - (t + 1)
    · subst q
      rw [if_pos rfl]
      have := bstP_best (l := l) (h := h) (h' := aftH h (nth l (nth (ordP l) (l.length - (t + 1))).toNat)) (fr := tabT l h (ordP l) t) (now := ⟨[nth (ordP l) (l.length - (t + 1))], (nth l (nth (ordP l) (l.length - (t + 1))).toNat).p⟩) (later := (ordP l).drop (l.length - t)) (fun j hj => by
        obtain ⟨i, hi, rfl⟩ := List.getElem_of_mem hj
        rw [List.length_drop, ordP_len] at hi
        rw [List.getElem_drop, ← nth_eq]
        exact ih _ (by omega) (by omega))
      have e : l.length - t = l.length - (t + 1) + 1 := by omega
      rw [e] at this ⊢
      exact ⟨(candI_L h2 _).2 this.1, fun q hq => this.2 q ((candI_L h2 q).1 hq)⟩
    · rw [if_neg (fun e => by
        have h9 : nth (ordP l) (l.length - (t + 1)) = nth (ordP l) k := by omega
        have := ordP_sorted (l := l) (l.length - (t + 1)) k (by omega) h2
        rw [h9] at this
        exact prc_irr this)]
      exact ih k (by omega) h2
/-- Best returns the best list that can be carried. -/
theorem bestP_best (l : List Off) (h : Hul) : IsB (fun q => Fea l h q.s ∧ q.g = gnF l h q.s) (bestP l h) := by
  have := bstP_best (l := l) (h := h) (h' := h) (fr := tabT l h (ordP l) l.length) (now := ⟨[], 0⟩) (later := ordP l) (fun j hj => by
    obtain ⟨i, hi, rfl⟩ := List.getElem_of_mem hj
    have hi2 := hi
    rw [ordP_len] at hi2
    rw [← nth_eq]
    exact tabT_best l.length (Nat.le_refl _) _ (by omega) hi2)
  have key : ∀ q : Rn, (Fea l h q.s ∧ q.g = gnF l h q.s) ↔ CandL l h h ⟨[], 0⟩ (ordP l) q := fun q => by
    constructor
    · rintro ⟨h1, h2⟩
      cases hs : q.s with
      | nil =>
        refine .inl ?_
        rw [hs, gnF] at h2
        cases q; simp_all
      | cons j r =>
        rw [hs] at h1 h2
        obtain ⟨q1, q2, q3, q4⟩ := h1
        obtain ⟨m, hm, e⟩ := ordP_all q1
        refine .inr ⟨j, by rw [← e]; exact nth_mem (by rw [ordP_len]; exact hm), q2, ⟨j :: r, (nth l j.toNat).p + gnF l (aftH h (nth l j.toNat)) r⟩, ⟨r, rfl, q3, q4, rfl⟩, ?_⟩
        rw [gnF] at h2
        have : q.g = 0 + ((nth l j.toNat).p + gnF l (aftH h (nth l j.toNat)) r) - farH h (nth l j.toNat) * h.c := by omega
        cases q; simp_all
    · rintro (rfl | ⟨j, hj, hin, c, ⟨r, c1, c2, c3, c4⟩, rfl⟩)
      · exact ⟨trivial, rfl⟩
      · show Fea l h ([] ++ c.s) ∧ 0 + c.g - _ = gnF l h ([] ++ c.s)
        rw [List.nil_append, c1]
        refine ⟨⟨ordP_mem hj, hin, c2, c3⟩, ?_⟩
        rw [gnF, c4]; omega
  exact ⟨(key _).2 this.1, fun q hq => this.2 q ((key q).1 hq)⟩
theorem bestP_len {l : List Off} {h : Hul} (h1 : l.length ≤ 12) (hok : ∀ x ∈ l, okOff x = true) (hh : okHul h) : (bestP l h).s.length ≤ 12 := by
  have := (bstK_bd (l := l) (h := h) (fr := tabT l h (ordP l) l.length) (now := ⟨[], 0⟩) (later := ordP l) (a := 0) (t := 12) hok hh (fun i hi => (tabT_bd hok hh (fun i h => ordP_mem h) (ordP_len _) _ (Nat.le_refl _) i (by rw [tabT_len] at hi; exact hi)).mono h1) (by simp [RnB]) (fun i hi => ordP_mem hi) (tabT_len _ _ _ _) _ (Nat.le_refl _)).2.2
  rw [Nat.zero_add] at this
  exact this

end Go.Proofs.YtgoajalaomakpaaGreat
