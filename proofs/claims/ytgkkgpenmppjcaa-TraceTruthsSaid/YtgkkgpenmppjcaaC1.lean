/-
  True losses lie within the bounds of the losses: plain. Conditions: none.
-/
import Derived.Test.YtgkkgpenmppjcaaA19
namespace Go.Proofs.Ytgkkgpenmppjcaa
open Go Go.RowKit

/-- What was lost before the i-th survey. -/
def prevT (tr : List Int) (i : Nat) : Int := if i = 0 then 0 else nth tr (i - 1)
/-- True losses, and surveys that see ranges in which what is on board lies. -/
structure TrOk (us : List Sur) (tr : List Int) (L : Int) : Prop where
  len : tr.length = us.length
  last : L = prevT tr us.length
  rng : 0 ≤ L ∧ L ≤ 59 * us.length
  sur : ∀ i, i < us.length → okSur (nth us i) = true
  ok : ∀ i, i < us.length → ((nth us i).book - (nth us i).hi ≤ nth tr i ∧ nth tr i ≤ (nth us i).book - (nth us i).lo) ∧ prevT tr i ≤ nth tr i ∧ ((nth us i).sealed = true → nth tr i = prevT tr i)
theorem prevT_snoc {tr : List Int} {y : Int} {i : Nat} (h : i ≤ tr.length) : prevT (tr ++ [y]) i = prevT tr i := by
  unfold prevT
  split
  · rfl
  · rw [snoc_lt (by omega)]
theorem TrOk.nil : TrOk [] [] 0 := ⟨rfl, rfl, by decide, fun i h => absurd h (by simp), fun i h => absurd h (by simp)⟩
theorem TrOk.snoc {us : List Sur} {tr : List Int} {L : Int} (h : TrOk us tr L) (x : Sur) (L' : Int) (hL : L ≤ L' ∧ L' ≤ L + 59) (hs : x.sealed = true → L' = L) (ho : okSur x = true) (h1 : x.book - x.hi ≤ L') (h2 : L' ≤ x.book - x.lo) : TrOk (us ++ [x]) (tr ++ [L']) L' := by
  have hl := h.len
  have hr := h.rng
  refine ⟨by simp [hl], ?_, ?_, fun i hi => ?_, fun i hi => ?_⟩
  · unfold prevT
    rw [if_neg (by simp), List.length_append, List.length_singleton, Nat.add_sub_cancel, ← hl, snoc_nth]
  · rw [List.length_append, List.length_singleton]; omega
  · rw [List.length_append, List.length_singleton] at hi
    rcases Nat.lt_or_ge i us.length with h9 | h9
    · rw [snoc_lt h9]; exact h.sur i h9
    · have e : i = us.length := by omega
      subst e; rw [snoc_nth]; exact ho
  · rw [List.length_append, List.length_singleton] at hi
    rw [prevT_snoc (by omega)]
    rcases Nat.lt_or_ge i us.length with h9 | h9
    · rw [snoc_lt h9, snoc_lt (by omega)]; exact h.ok i h9
    · have e : i = us.length := by omega
      subst e
      rw [snoc_nth, ← hl, snoc_nth, hl, ← h.last]
      exact ⟨⟨h1, h2⟩, hL.1, hs⟩
theorem TrOk.mono {us : List Sur} {tr : List Int} {L : Int} (h : TrOk us tr L) {i j : Nat} (hij : i ≤ j) (hj : j < us.length) : nth tr i ≤ nth tr j := by
  induction j with
  | zero => have : i = 0 := by omega
            subst this; exact Int.le_refl _
  | succ j ih =>
    rcases Nat.lt_or_ge i (j + 1) with h1 | h1
    · have h2 := ih (by omega) (by omega)
      have h3 := (h.ok (j + 1) hj).2.1
      have e : prevT tr (j + 1) = nth tr j := by unfold prevT; rw [if_neg (by omega)]; rfl
      omega
    · have : i = j + 1 := by omega
      subst this; exact Int.le_refl _
theorem TrOk.nonneg {us : List Sur} {tr : List Int} {L : Int} (h : TrOk us tr L) {i : Nat} (hi : i < us.length) : 0 ≤ nth tr i := by
  have h1 := h.mono (Nat.zero_le i) hi
  have h2 := (h.ok 0 (by omega)).2.1
  have e : prevT tr 0 = 0 := rfl
  omega
/-- What is known of the spans when there is a truth. -/
structure SpT (us : List Sur) (tr : List Int) (k : Nat) (sp : List Span) : Prop where
  e : SpE sp k
  t1 : ∀ q i, q < sp.length → i < k → begS sp q ≤ i → (nth sp q).lo ≤ nth tr i
  t2 : ∀ q i : Nat, q < sp.length → i < k → (i : Int) < (nth sp q).en → nth tr i ≤ (nth sp q).hi
  t3 : (nth sp (sp.length - 1)).lo ≤ prevT tr k ∧ prevT tr k ≤ (nth sp (sp.length - 1)).hi
  t4 : ∀ i : Nat, i < k → begS sp (sp.length - 1) ≤ i → nth tr i = prevT tr k
  t5 : ∀ q i : Nat, q < sp.length → begS sp q ≤ i → (i : Int) < (nth sp q).en → (nth us i).book - (nth us i).hi ≤ (nth sp q).lo ∧ (nth sp q).hi ≤ (nth us i).book - (nth us i).lo
  t6 : ∀ q i : Nat, 0 < q → q < sp.length → begS sp q = i → i < k ∧ (nth us i).sealed = false
  t7 : (nth sp 0).hi ≤ 0
theorem SpT.first (us : List Sur) (tr : List Int) : SpT us tr 0 [⟨0, 0, 0⟩] := by
  refine ⟨SpE.first, fun q i _ h => by omega, fun q i _ h => by omega, ⟨Int.le_refl 0, Int.le_refl 0⟩, fun i h => by omega, fun q i hq h1 h2 => ?_, fun q i h0 hq => ?_, Int.le_refl 0⟩
  · have : q = 0 := by simpa using hq
    subst this
    have e : (nth [(⟨0, 0, 0⟩ : Span)] 0).en = 0 := rfl
    omega
  · have : q = 0 := by simpa using hq
    omega
theorem SpT.step {us : List Sur} {tr : List Int} {L : Int} {k : Nat} {sp : List Span} (ht : TrOk us tr L) (hk : k < us.length) (h : SpT us tr k sp) : SpT us tr (k + 1) (stepS sp k (nth us k)) := by
  have hp := h.e.pos
  have hen := h.e.end_
  have hlm := ht.nonneg hk
  obtain ⟨⟨x1, x2⟩, x3, x4⟩ := ht.ok k hk
  have hpv : prevT tr (k + 1) = nth tr k := by unfold prevT; rw [if_neg (by omega)]; rfl
  have hsr := ht.sur k hk
  simp only [okSur, decide_eq_true_eq] at hsr
  have hE := h.e.step (nth us k)
  cases hx : (nth us k).sealed with
  | true =>
    obtain ⟨h1, h2, h3, h4⟩ := stepS_seal (sp := sp) (i := (k : Int)) hx hp
    generalize stepS sp k (nth us k) = sq at *
    have e2 : (nth sq (sp.length - 1)).lo = max (nth sp (sp.length - 1)).lo ((nth us k).book - (nth us k).hi) ∧ (nth sq (sp.length - 1)).hi = min (nth sp (sp.length - 1)).hi ((nth us k).book - (nth us k).lo) ∧ (nth sq (sp.length - 1)).en = (nth sp (sp.length - 1)).en + 1 := by rw [h2]; exact ⟨rfl, rfl, rfl⟩
    have hxs := x4 hx
    have h3' := h.t3
    refine ⟨hE, fun q i hq hi hb => ?_, fun q i hq hi hb => ?_, ?_, fun i hi hb => ?_, fun q i hq hb he => ?_, fun q i h0 hq hb => ?_, ?_⟩
    · rw [h1] at hq
      rw [h4 q hq] at hb
      by_cases hc : q = sp.length - 1
      · subst hc
        have e9 : nth tr i = nth tr k := by
          rcases Nat.lt_or_ge i k with h9 | h9
          · rw [h.t4 i h9 hb, hxs]
          · have : i = k := by omega
            rw [this]
        omega
      · rw [h3 q hc]
        rcases Nat.lt_or_ge i k with h9 | h9
        · exact h.t1 q i hq h9 hb
        · have e9 : i = k := by omega
          have h8 := h.e.mono q (sp.length - 1) (by omega) (by omega)
          subst e9; omega
    · rw [h1] at hq
      have hmo := ht.mono (i := i) (j := k) (by omega) hk
      by_cases hc : q = sp.length - 1
      · subst hc; omega
      · rw [h3 q hc] at hb ⊢
        have hu := h.e.up q hq
        exact h.t2 q i hq (by omega) hb
    · rw [h1, hpv]; omega
    · rw [h1] at hb
      rw [h4 _ (by omega)] at hb
      rw [hpv]
      rcases Nat.lt_or_ge i k with h9 | h9
      · rw [h.t4 i h9 hb, hxs]
      · have : i = k := by omega
        rw [this]
    · rw [h1] at hq
      rw [h4 q hq] at hb
      by_cases hc : q = sp.length - 1
      · subst hc
        rcases Nat.lt_or_ge i k with h9 | h9
        · have h8 := h.t5 _ i hq hb (by omega)
          omega
        · have : i = k := by omega
          subst this; omega
      · rw [h3 q hc] at he ⊢
        exact h.t5 q i hq hb he
    · rw [h1] at hq
      rw [h4 q hq] at hb
      have h9 := h.t6 q i h0 hq hb
      exact ⟨by omega, h9.2⟩
    · by_cases hc : sp.length - 1 = 0
      · rw [hc] at e2; have := h.t7; omega
      · rw [h3 0 (by omega)]; exact h.t7
  | false =>
    obtain ⟨h1, h2, h3, h4⟩ := stepS_open (sp := sp) (i := (k : Int)) hx
    generalize stepS sp k (nth us k) = sq at *
    have e2 : (nth sq sp.length).lo = max (nth sp (sp.length - 1)).lo ((nth us k).book - (nth us k).hi) ∧ (nth sq sp.length).hi = min 1000000 ((nth us k).book - (nth us k).lo) ∧ (nth sq sp.length).en = (k : Int) + 1 := by rw [h2]; exact ⟨rfl, rfl, rfl⟩
    have hb0 : begS sp sp.length = k := by unfold begS; rw [if_neg (by omega), hen]
    have h3' := h.t3
    refine ⟨hE, fun q i hq hi hb => ?_, fun q i hq hi hb => ?_, ?_, fun i hi hb => ?_, fun q i hq hb he => ?_, fun q i h0 hq hb => ?_, ?_⟩
    · rw [h4 q (by omega)] at hb
      by_cases hc : q = sp.length
      · subst hc
        have : i = k := by omega
        subst this; omega
      · rw [h3 q (by omega)]
        rcases Nat.lt_or_ge i k with h9 | h9
        · exact h.t1 q i (by omega) h9 hb
        · have e9 : i = k := by omega
          have h8 : (nth sp q).lo ≤ (nth sp (sp.length - 1)).lo := by
            rcases Nat.lt_or_ge q (sp.length - 1) with h7 | h7
            · exact h.e.mono q (sp.length - 1) h7 (by omega)
            · have : q = sp.length - 1 := by omega
              rw [this]; exact Int.le_refl _
          subst e9; omega
    · have hmo := ht.mono (i := i) (j := k) (by omega) hk
      by_cases hc : q = sp.length
      · subst hc; omega
      · rw [h3 q (by omega)] at hb ⊢
        have hu := h.e.up q (by omega)
        exact h.t2 q i (by omega) (by omega) hb
    · rw [h1, hpv, Nat.add_sub_cancel]; omega
    · rw [h1, Nat.add_sub_cancel, h4 _ (Nat.le_refl _)] at hb
      have : i = k := by omega
      subst this; exact hpv.symm
    · rw [h4 q (by omega)] at hb
      by_cases hc : q = sp.length
      · subst hc
        have : i = k := by omega
        subst this; omega
      · rw [h3 q (by omega)] at he ⊢
        exact h.t5 q i (by omega) hb he
    · rw [h4 q (by omega)] at hb
      by_cases hc : q = sp.length
      · subst hc
        have : i = k := by omega
        subst this; exact ⟨by omega, hx⟩
      · have h9 := h.t6 q i h0 (by omega) hb
        exact ⟨by omega, h9.2⟩
    · rw [h3 0 (by omega)]; exact h.t7
theorem spT {us : List Sur} {tr : List Int} {L : Int} (ht : TrOk us tr L) : ∀ {k : Nat}, k ≤ us.length → SpT us tr k (spK us k)
  | 0, _ => SpT.first us tr
  | k + 1, h => (spT ht (by omega)).step ht (by omega)
theorem TrOk.notBad {us : List Sur} {tr : List Int} {L : Int} (ht : TrOk us tr L) {j : Nat} (hj : j < us.length) : ¬ badS (spK us (j + 1)) := by
  have h := (spT ht (k := j + 1) (by omega)).t3
  unfold badS; omega
theorem TrOk.run {us : List Sur} {tr : List Int} {L : Int} (ht : TrOk us tr L) {n : Nat} (hn : n ≤ us.length) : runS (us.take n) 0 [⟨0, 0, 0⟩] = (spK us n, -1) := by
  have hl : (us.take n).length = n := by rw [List.length_take]; omega
  rcases run_cases (us.take n) with ⟨i, h1, _, h3, _⟩ | ⟨h1, _⟩
  · rw [hl] at h1
    rw [spK_take (by omega)] at h3
    exact absurd h3 (ht.notBad (by omega))
  · rw [hl, spK_take (Nat.le_refl _)] at h1; exact h1
theorem span_in {sp : List Span} {n : Nat} (h : SpE sp n) {i : Nat} (hi : i < n) : ∃ q, q < sp.length ∧ begS sp q ≤ i ∧ (i : Int) < (nth sp q).en := by
  have hp := h.pos
  have key : ∀ m, m < sp.length → (i : Int) < (nth sp m).en → ∃ q, q < sp.length ∧ begS sp q ≤ i ∧ (i : Int) < (nth sp q).en := by
    intro m
    induction m with
    | zero => intro hm h1; exact ⟨0, hm, by unfold begS; simp, h1⟩
    | succ m ih =>
      intro hm h1
      by_cases hc : (i : Int) < (nth sp m).en
      · exact ih (by omega) hc
      · have e : begS sp (m + 1) = (nth sp m).en := by unfold begS; rw [if_neg (by omega)]; rfl
        exact ⟨m + 1, hm, by omega, h1⟩
  have he := h.end_
  exact key (sp.length - 1) (by omega) (by omega)
theorem mostF_le {sp : List Span} {q r : Nat} (h : q ≤ r) (hr : r < sp.length) : mostF (sp.drop q) ≤ (nth sp r).hi := by
  rw [mostF_drop (by omega)]
  rcases Nat.lt_or_ge q r with h1 | h1
  · have := mostF_le (sp := sp) (q := q + 1) (r := r) (by omega) hr
    omega
  · have : q = r := by omega
    subst this; omega
termination_by r - q
theorem mostF_up {sp : List Span} : ∀ {q r : Nat}, q ≤ r → mostF (sp.drop q) ≤ mostF (sp.drop r)
  | q, 0, h => by
    have : q = 0 := by omega
    subst this; exact Int.le_refl _
  | q, r + 1, h => by
    rcases Nat.lt_or_ge q (r + 1) with h1 | h1
    · have h2 := mostF_up (sp := sp) (q := q) (r := r) (by omega)
      rcases Nat.lt_or_ge r sp.length with h3 | h3
      · rw [mostF_drop h3] at h2; omega
      · have e1 : sp.drop r = [] := List.drop_eq_nil_of_le h3
        have e2 : sp.drop (r + 1) = [] := List.drop_eq_nil_of_le (by omega)
        rw [e1] at h2; rw [e2]; exact h2
    · have : q = r + 1 := by omega
      subst this; exact Int.le_refl _
theorem mostF_geq {sp : List Span} {a : Int} {q : Nat} (h0 : a ≤ 1000000) (h : ∀ r, q ≤ r → r < sp.length → a ≤ (nth sp r).hi) : a ≤ mostF (sp.drop q) := by
  refine mostF_ge h0 (fun s hs => ?_)
  obtain ⟨j, hj, rfl⟩ := List.mem_iff_getElem.1 hs
  rw [List.length_drop] at hj
  rw [List.getElem_drop, ← nth_eq (by omega)]
  exact h (q + j) (by omega) (by omega)
/-- What the bounds of the losses are like when there is a truth. -/
structure TrBd (us : List Sur) (tr : List Int) (n : Nat) (M : List Bd) : Prop where
  tru : ∀ i, i < n → (nth M i).lo ≤ nth tr i ∧ nth tr i ≤ (nth M i).hi
  pos : ∀ i, i < n → 0 ≤ (nth M i).lo ∧ (nth M i).hi ≤ 1000000
  up : ∀ i, i < n → 0 < i → (nth M (i - 1)).lo ≤ (nth M i).lo ∧ (nth M (i - 1)).hi ≤ (nth M i).hi
  fit : ∀ i, i < n → (nth us i).book - (nth us i).hi ≤ (nth M i).lo ∧ (nth M i).hi ≤ (nth us i).book - (nth us i).lo
  slt : ∀ i, i < n → (nth us i).sealed = true → if i = 0 then (nth M i).lo = 0 ∧ (nth M i).hi = 0 else (nth M i).lo = (nth M (i - 1)).lo ∧ (nth M i).hi = (nth M (i - 1)).hi
theorem TrOk.bounds {us : List Sur} {tr : List Int} {L : Int} (ht : TrOk us tr L) {n : Nat} (hn : n ≤ us.length) {M : List Bd} (hL : LosR (spK us n) 0 M) : TrBd us tr n M := by
  have h := spT ht hn
  generalize spK us n = sp at *
  have hE := h.e
  have hat : ∀ i, i < n → ∃ q, q < sp.length ∧ begS sp q ≤ i ∧ (i : Int) < (nth sp q).en ∧ nth M i = ⟨(nth sp q).lo, mostF (sp.drop q)⟩ := fun i hi => by
    obtain ⟨q, a, b, c⟩ := span_in hE hi
    exact ⟨q, a, b, c, hL q (Nat.zero_le _) a i b c⟩
  have hen : ∀ q r, q ≤ r → r < sp.length → (nth sp q).en ≤ (nth sp r).en := fun q r h1 h2 => by
    rcases Nat.lt_or_ge q r with h3 | h3
    · have := begE_mono hE h3 h2; have := hE.up r h2; omega
    · have : q = r := by omega
      subst this; exact Int.le_refl _
  have htr : ∀ i q, i < n → q < sp.length → begS sp q ≤ i → (i : Int) < (nth sp q).en → nth tr i ≤ mostF (sp.drop q) := fun i q hi hq hb he => by
    have h9 := h.t2 q i hq hi he
    have h8 := hE.rng q hq
    exact mostF_geq (by omega) (fun r h1 h2 => h.t2 r i h2 hi (by have := hen q r h1 h2; omega))
  refine ⟨fun i hi => ?_, fun i hi => ?_, fun i hi h0 => ?_, fun i hi => ?_, fun i hi hs => ?_⟩
  · obtain ⟨q, a, b, c, e⟩ := hat i hi
    rw [e]; exact ⟨h.t1 q i a hi b, htr i q hi a b c⟩
  · obtain ⟨q, a, b, c, e⟩ := hat i hi
    rw [e]
    have h1 := hE.rng q a
    have h2 := mostF_le (sp := sp) (Nat.le_refl q) a
    exact ⟨h1.1, Int.le_trans h2 h1.2⟩
  · obtain ⟨q, a, b, c, e⟩ := hat i hi
    obtain ⟨r, a2, b2, c2, e2⟩ := hat (i - 1) (by omega)
    rw [e, e2]
    have hrq : r ≤ q := by
      rcases Nat.lt_or_ge q r with h1 | h1
      · have := begE_mono hE h1 a2; omega
      · exact h1
    refine ⟨?_, mostF_up hrq⟩
    rcases Nat.lt_or_ge r q with h1 | h1
    · exact hE.mono r q h1 a
    · have : r = q := by omega
      subst this; exact Int.le_refl _
  · obtain ⟨q, a, b, c, e⟩ := hat i hi
    rw [e]
    have h1 := h.t5 q i a b c
    have h2 := mostF_le (sp := sp) (Nat.le_refl q) a
    exact ⟨h1.1, Int.le_trans h2 h1.2⟩
  · obtain ⟨q, a, b, c, e⟩ := hat i hi
    split
    · rename_i h0
      subst h0
      have hq0 : q = 0 := by
        rcases Nat.eq_zero_or_pos q with h1 | h1
        · exact h1
        · have hu := hE.up q a
          have h9 := h.t6 q 0 h1 a (by omega)
          rw [hs] at h9; cases h9.2
      subst hq0
      rw [e]
      have h1 := hE.rng 0 a
      have h2 := mostF_le (sp := sp) (Nat.le_refl 0) a
      have h3 := h.t7
      have h4 := h.t1 0 0 a hi b
      have h5 := htr 0 0 hi a b c
      have h6 := ht.nonneg (i := 0) (by omega)
      constructor
      · show (nth sp 0).lo = 0; omega
      · show mostF (sp.drop 0) = 0; omega
    · rename_i h0
      have hb2 : begS sp q ≤ ((i - 1 : Nat) : Int) := by
        by_cases hc : begS sp q = i
        · rcases Nat.eq_zero_or_pos q with h1 | h1
          · subst h1
            have : begS sp 0 = 0 := by unfold begS; rw [if_pos rfl]
            omega
          · have h9 := h.t6 q i h1 a hc
            rw [hs] at h9; cases h9.2
        · omega
      have e2 := hL q (Nat.zero_le _) a (i - 1) hb2 (by omega)
      rw [e, e2]; exact ⟨rfl, rfl⟩
theorem TrOk.fewer {us : List Sur} {tr : List Int} {L : Int} (ht : TrOk us tr L) {n : Nat} (hn : n < us.length) {M M' : List Bd} (hL : LosR (spK us (n + 1)) 0 M) (hL' : LosR (spK us n) 0 M') {i : Nat} (hi : i < n) : (nth M' i).lo ≤ (nth M i).lo ∧ (nth M i).hi ≤ (nth M' i).hi := by
  have hE := spE us n
  obtain ⟨q, a, b, c⟩ := span_in hE hi
  rw [hL' q (Nat.zero_le _) a i b c]
  have hL : LosR (stepS (spK us n) n (nth us n)) 0 M := hL
  generalize spK us n = sp at *
  have hp := hE.pos
  have key : ∀ sq : List Span, sp.length ≤ sq.length → (∀ k, k < sp.length → begS sq k = begS sp k ∧ (nth sp k).lo ≤ (nth sq k).lo ∧ (nth sq k).hi ≤ (nth sp k).hi ∧ (nth sp k).en ≤ (nth sq k).en) → LosR sq 0 M → (nth sp q).lo ≤ (nth M i).lo ∧ (nth M i).hi ≤ mostF (sp.drop q) := fun sq h1 h2 h3 => by
    have h4 := h2 q a
    rw [h3 q (Nat.zero_le _) (by omega) i (by rw [h4.1]; exact b) (by omega)]
    have h5 := mostF_le (sp := sq) (Nat.le_refl q) (by omega)
    have h6 := hE.rng q a
    refine ⟨h4.2.1, mostF_geq (Int.le_trans h5 (by omega)) (fun r hr1 hr2 => ?_)⟩
    have h7 := mostF_le (sp := sq) hr1 (by omega)
    have h8 := h2 r hr2
    exact Int.le_trans h7 h8.2.2.1
  cases hx : (nth us n).sealed with
  | true =>
    obtain ⟨h1, h2, h3, h4⟩ := stepS_seal (sp := sp) (i := (n : Int)) hx hp
    have e2 : (nth (stepS sp n (nth us n)) (sp.length - 1)).lo = max (nth sp (sp.length - 1)).lo ((nth us n).book - (nth us n).hi) ∧ (nth (stepS sp n (nth us n)) (sp.length - 1)).hi = min (nth sp (sp.length - 1)).hi ((nth us n).book - (nth us n).lo) ∧ (nth (stepS sp n (nth us n)) (sp.length - 1)).en = (nth sp (sp.length - 1)).en + 1 := by rw [h2]; exact ⟨rfl, rfl, rfl⟩
    refine key _ (by omega) (fun k hk => ?_) hL
    refine ⟨h4 k hk, ?_⟩
    by_cases hc : k = sp.length - 1
    · subst hc; omega
    · rw [h3 k hc]; omega
  | false =>
    obtain ⟨h1, h2, h3, h4⟩ := stepS_open (sp := sp) (i := (n : Int)) hx
    refine key _ (by omega) (fun k hk => ?_) hL
    rw [h3 k hk]
    exact ⟨h4 k (by omega), by omega⟩

end Go.Proofs.Ytgkkgpenmppjcaa
