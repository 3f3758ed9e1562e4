/-
  Losses: plain. Conditions: none.
-/
import Derived.Test.YtblkphbblkncdaaA4
namespace Go.Proofs.Ytblkphbblkncdaa
open Go Go.RowKit

structure Bd where
  lo : Int
  hi : Int
instance : Inhabited Bd := ⟨⟨default, default⟩⟩
def encBd (x : Bd) : List Value := [.int .i64 x.lo, .int .i64 x.hi]
/-- The spans with one more, if the hatches were open. -/
def openS (sp : List Span) (i : Int) (x : Sur) : List Span := if x.sealed then sp else sp ++ [⟨(nth sp (sp.length - 1)).lo, 1000000, i⟩]
def stepS (sp : List Span) (i : Int) (x : Sur) : List Span := (openS sp i x).set ((openS sp i x).length - 1) (narrowF (nth (openS sp i x) ((openS sp i x).length - 1)) x)
def badS (sp : List Span) : Prop := (nth sp (sp.length - 1)).hi < (nth sp (sp.length - 1)).lo
instance (sp : List Span) : Decidable (badS sp) := inferInstanceAs (Decidable (_ < _))
/-- The spans of all surveys from the i-th on, or the first survey that cannot be. -/
def runS : List Sur → Int → List Span → List Span × Int
  | [], _, sp => (sp, -1)
  | x :: l, i, sp => if badS (stepS sp i x) then ([], i) else runS l (i + 1) (stepS sp i x)
/-- The least of the greatest losses. -/
def mostF : List Span → Int
  | [] => 1000000
  | s :: l => min s.hi (mostF l)
/-- Where the surveys of the k-th span begin. -/
def begS (sp : List Span) (k : Nat) : Int := if k = 0 then 0 else (nth sp (k - 1)).en
/-- Spans of n surveys. -/
structure SpOk (sp : List Span) (n : Nat) : Prop where
  pos : 0 < sp.length
  len : sp.length ≤ n + 1
  end_ : (nth sp (sp.length - 1)).en = n
  up : ∀ k, k < sp.length → 0 ≤ begS sp k ∧ begS sp k ≤ (nth sp k).en ∧ (nth sp k).en ≤ n
  rng : ∀ k, k < sp.length → (0 ≤ (nth sp k).lo ∧ (nth sp k).lo ≤ (nth sp k).hi ∧ (nth sp k).hi ≤ 1000000)
theorem SpOk.first : SpOk [⟨0, 0, 0⟩] 0 := by
  refine ⟨by simp, by simp, by simp [nth], fun k hk => ?_, fun k hk => ?_⟩
  · have : k = 0 := by simpa using hk
    subst this; simp [begS, nth]
  · have : k = 0 := by simpa using hk
    subst this; simp [nth]
theorem mostF_drop {sp : List Span} {k : Nat} (h : k < sp.length) : mostF (sp.drop k) = min (mostF (sp.drop (k + 1))) (nth sp k).hi := by
  rw [drop_nth h, mostF]; omega
theorem nth_set_neS {α : Type} [Inhabited α] {xs : List α} {i j : Nat} {y : α} (h : i ≠ j) : nth (xs.set j y) i = nth xs i := by simp [nth, List.getD_eq_getElem?_getD, List.getElem?_set_ne (Ne.symm h)]
theorem snoc_nth {α : Type} [Inhabited α] {xs : List α} {x : α} : nth (xs ++ [x]) xs.length = x := by simp [nth, List.getD_eq_getElem?_getD]
theorem snoc_lt {α : Type} [Inhabited α] {xs : List α} {x : α} {j : Nat} (h : j < xs.length) : nth (xs ++ [x]) j = nth xs j := by simp [nth, List.getD_eq_getElem?_getD, List.getElem?_append_left h]
theorem stepS_len {sp : List Span} {i : Int} {x : Sur} : (stepS sp i x).length = (openS sp i x).length := by simp [stepS]
/-- Spans of n surveys, the last of which may be empty. -/
structure SpO (sp : List Span) (n : Nat) : Prop where
  pos : 0 < sp.length
  len : sp.length ≤ n + 2
  end_ : (nth sp (sp.length - 1)).en = n
  up : ∀ k, k < sp.length → 0 ≤ begS sp k ∧ begS sp k ≤ (nth sp k).en ∧ (nth sp k).en ≤ n
  rng : ∀ k, k < sp.length → (0 ≤ (nth sp k).lo ∧ (nth sp k).lo ≤ (nth sp k).hi ∧ (nth sp k).hi ≤ 1000000)
theorem SpOk.open {sp : List Span} {n : Nat} (h : SpOk sp n) (x : Sur) : SpO (openS sp n x) n := by
  have hp := h.pos
  unfold openS
  split
  · exact ⟨h.pos, by have := h.len; omega, h.end_, h.up, h.rng⟩
  · have hlast : nth (sp ++ [(⟨(nth sp (sp.length - 1)).lo, 1000000, n⟩ : Span)]) sp.length = ⟨(nth sp (sp.length - 1)).lo, 1000000, n⟩ := snoc_nth
    have hl : (sp ++ [(⟨(nth sp (sp.length - 1)).lo, 1000000, n⟩ : Span)]).length = sp.length + 1 := by simp
    have hb : ∀ k, k ≤ sp.length → begS (sp ++ [(⟨(nth sp (sp.length - 1)).lo, 1000000, n⟩ : Span)]) k = begS sp k := fun k hk => by
      unfold begS
      split
      · rfl
      · rw [snoc_lt (by omega)]
    refine ⟨by omega, by have := h.len; omega, by rw [hl, Nat.add_sub_cancel, hlast], fun k hk => ?_, fun k hk => ?_⟩
    · rw [hb k (by omega)]
      rcases Nat.lt_or_ge k sp.length with hk2 | hk2
      · rw [snoc_lt hk2]; exact h.up k hk2
      · have e : k = sp.length := by omega
        subst e
        rw [hlast]
        have he : begS sp sp.length = n := by unfold begS; rw [if_neg (by omega), h.end_]
        rw [he]
        exact ⟨by omega, Int.le_refl _, Int.le_refl _⟩
    · rcases Nat.lt_or_ge k sp.length with hk2 | hk2
      · rw [snoc_lt hk2]; exact h.rng k hk2
      · have e : k = sp.length := by omega
        subst e
        rw [hlast]
        have := h.rng (sp.length - 1) (by omega)
        exact ⟨this.1, by show (nth sp (sp.length - 1)).lo ≤ 1000000; omega, Int.le_refl _⟩
theorem SpOk.step {sp : List Span} {n : Nat} (h : SpOk sp n) (x : Sur) (hb : ¬ badS (stepS sp n x)) : SpOk (stepS sp n x) (n + 1) := by
  have ho := h.open x
  have hp := ho.pos
  unfold badS at hb
  rw [stepS_len] at hb
  have hl : nth (stepS sp n x) ((openS sp n x).length - 1) = narrowF (nth (openS sp n x) ((openS sp n x).length - 1)) x := nth_set_eq (by omega)
  have hk : ∀ k, k < (openS sp n x).length - 1 → nth (stepS sp n x) k = nth (openS sp n x) k := fun k hk => nth_set_neS (by omega)
  have hbg : ∀ k, k < (openS sp n x).length → begS (stepS sp n x) k = begS (openS sp n x) k := fun k hk2 => by
    unfold begS
    split
    · rfl
    · rw [hk _ (by omega)]
  rw [hl] at hb
  have hr := ho.rng ((openS sp n x).length - 1) (by omega)
  have he := ho.end_
  refine ⟨by rw [stepS_len]; exact hp, by rw [stepS_len]; exact ho.len, by rw [stepS_len, hl]; simp only [narrowF]; omega, fun k hk2 => ?_, fun k hk2 => ?_⟩
  · rw [stepS_len] at hk2
    rw [hbg k hk2]
    have hu := ho.up k hk2
    rcases Nat.lt_or_ge k ((openS sp n x).length - 1) with h1 | h1
    · rw [hk k h1]; exact ⟨hu.1, hu.2.1, by omega⟩
    · have e : k = (openS sp n x).length - 1 := by omega
      rw [e] at hu ⊢
      rw [hl]; simp only [narrowF]; omega
  · rw [stepS_len] at hk2
    rcases Nat.lt_or_ge k ((openS sp n x).length - 1) with h1 | h1
    · rw [hk k h1]; exact ho.rng k hk2
    · have e : k = (openS sp n x).length - 1 := by omega
      rw [e, hl]
      simp only [narrowF] at hb ⊢
      omega
/-- The losses of the spans from the k-th on are written. -/
def LosR (sp : List Span) (k : Nat) (L : List Bd) : Prop := ∀ q, k ≤ q → q < sp.length → ∀ i : Nat, begS sp q ≤ i → (i : Int) < (nth sp q).en → nth L i = ⟨(nth sp q).lo, mostF (sp.drop q)⟩
/-- The list M is L, but v at t places from f on. -/
def Filled (L M : List Bd) (f t : Nat) (v : Bd) : Prop := M.length = L.length ∧ ∀ i, i < L.length → nth M i = if f ≤ i ∧ i < f + t then v else nth L i
theorem Filled.zero {L : List Bd} {f : Nat} {v : Bd} : Filled L L f 0 v := ⟨rfl, fun i _ => by rw [if_neg (by omega)]⟩
theorem Filled.next {L M : List Bd} {f t : Nat} {v : Bd} (h : Filled L M f t v) (hl : f + t < L.length) : Filled L (M.set (f + t) v) f (t + 1) v := by
  refine ⟨by rw [List.length_set]; exact h.1, fun i hi => ?_⟩
  by_cases hq : i = f + t
  · subst hq
    rw [nth_set_eq (by rw [h.1]; exact hl), if_pos (by omega)]
  · rw [nth_set_neS hq, h.2 i hi]
    by_cases hc : f ≤ i ∧ i < f + t
    · rw [if_pos hc, if_pos (by omega)]
    · rw [if_neg hc, if_neg (by omega)]
theorem begS_mono {sp : List Span} {n : Nat} (h : SpOk sp n) {q k : Nat} (hqk : k < q) (hq : q < sp.length) : (nth sp k).en ≤ begS sp q := by
  induction q with
  | zero => omega
  | succ q ih =>
    have e : begS sp (q + 1) = (nth sp q).en := by unfold begS; rw [if_neg (by omega)]; rfl
    rw [e]
    rcases Nat.lt_or_ge k q with h1 | h1
    · have h2 := ih h1 (by omega)
      have h3 := h.up q (by omega)
      omega
    · have : k = q := by omega
      subst this; exact Int.le_refl _
theorem LosR.next {sp : List Span} {n k : Nat} {L M : List Bd} (ho : SpOk sp n) (hL : L.length = n) (h : LosR sp (k + 1) L) (hk : k < sp.length) (hf : Filled L M (begS sp k).toNat ((nth sp k).en - begS sp k).toNat ⟨(nth sp k).lo, mostF (sp.drop k)⟩) : LosR sp k M := fun q hq1 hq2 i hi1 hi2 => by
  have hu := ho.up q hq2
  have huk := ho.up k hk
  have hin : i < L.length := by omega
  rw [hf.2 i hin]
  rcases Nat.lt_or_ge k q with h1 | h1
  · have hb := begS_mono ho h1 hq2
    rw [if_neg (by omega)]
    exact h q (by omega) hq2 i hi1 hi2
  · have e : q = k := by omega
    subst e
    rw [if_pos (by omega)]
theorem LosR.top {sp : List Span} {L : List Bd} : LosR sp sp.length L := fun q h1 h2 => by omega

end Go.Proofs.Ytblkphbblkncdaa
