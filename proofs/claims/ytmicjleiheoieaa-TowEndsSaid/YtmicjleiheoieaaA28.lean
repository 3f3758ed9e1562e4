/-
  Minutes in a truth lie within the bounds, and grow along the way: plain laws. Conditions: none.
-/
import Derived.Test.YtmicjleiheoieaaA27
namespace Go.Proofs.Ytmicjleiheoieaa
open Go Go.RowKit
theorem ceilD_le {a b c : Int} (hb : 0 < b) (h : a ≤ c * b) : (a + b - 1) / b ≤ c := by
  have h1 : (a + b - 1) / b < c + 1 := by
    rw [Int.ediv_lt_iff_lt_mul hb, Int.add_mul]
    omega
  omega
theorem le_ceilD {a b : Int} (hb : 0 < b) : a ≤ (a + b - 1) / b * b := by
  have := Int.lt_ediv_add_one_mul_self (a + b - 1) hb
  rw [Int.add_mul] at this
  omega
theorem ceilD_anti {x s1 s2 : Int} (hx : 0 ≤ x) (h1 : 1 ≤ s1) (h2 : s1 ≤ s2) : (x + s2 - 1) / s2 ≤ (x + s1 - 1) / s1 := by
  refine ceilD_le (by omega) ?_
  have h3 := le_ceilD (a := x) (b := s1) (by omega)
  have h4 : 0 ≤ (x + s1 - 1) / s1 := Int.ediv_nonneg (by omega) (by omega)
  exact Int.le_trans h3 (Int.mul_le_mul_of_nonneg_left h2 h4)
theorem ceilD_mono {x y s : Int} (hxy : x ≤ y) (h1 : 1 ≤ s) : (x + s - 1) / s ≤ (y + s - 1) / s := Int.ediv_le_ediv (by omega) (by omega)
theorem tak_eq {w s x : Int} (h : x = max w (-w)) : tak w s = (60 * x + s - 1) / s := by subst h; rfl
def lastTo : Int → List Run → Int
  | d, [] => d
  | _, r :: rs => lastTo r.to rs
theorem lastTo_eq : ∀ (rs : List Run) (d : Int), (rs.map (·.to)).getLastD d = lastTo d rs
  | [], _ => rfl
  | r :: rs, d => by rw [List.map_cons, List.getLastD_cons]; exact lastTo_eq rs r.to
theorem lastTo_any {rs : List Run} (h : 0 < rs.length) (d e : Int) : lastTo d rs = lastTo e rs := by
  cases rs with
  | nil => simp at h
  | cons r rs => rfl
structure RT (tp tw : List Int) : Prop where
  p : ∀ x ∈ tp, 0 ≤ x ∧ x ≤ 255
  w : ∀ x ∈ tw, 0 ≤ x ∧ x ≤ 255
theorem tru_low {tp tw : List Int} (hT : RT tp tw) {way p : Int} : ∀ (rs : List Run) (a m : Int) (i : Nat), okRuns way a rs = true → (way = 1 ∨ way = -1) → (way = 1 → a ≤ p ∧ p ≤ lastTo (a - 1) rs) → (way = -1 → p ≤ a ∧ lastTo (a + 1) rs ≤ p) → m ≤ truGo tp tw p i rs m
  | [], a, m, i, _, hw, h1, h2 => by rcases hw with h | h; (have := h1 h; simp only [lastTo] at this; omega); (have := h2 h; simp only [lastTo] at this; omega)
  | r :: rs, a, m, i, h, hw, h1, h2 => by
    simp only [okRuns, Bool.and_eq_true] at h
    obtain ⟨hr, hrs⟩ := h
    unfold okRun at hr
    rw [decide_eq_true_eq] at hr
    obtain ⟨_, e1, e2, e3, e4, e5⟩ := hr
    have hs := pck_rng (b := r.sp) (y := prt tp i) e4.1 (prt_rng hT.p)
    have hq := pck_rng (b := r.wt) (y := prt tw i) e5.1 (prt_rng hT.w)
    unfold sgn at e3
    have hl : lastTo (a - 1) (r :: rs) = lastTo r.to rs ∧ lastTo (a + 1) (r :: rs) = lastTo r.to rs := ⟨rfl, rfl⟩
    have hd := div_rng (d := max (p - r.frm) (-(p - r.frm))) (s := pck r.sp (prt tp i))
    unfold truGo
    split
    · omega
    · rename_i hp
      rw [if_neg (by omega)]
      split
      · have : 0 ≤ (60 * max (p - r.frm) (-(p - r.frm)) + pck r.sp (prt tp i) - 1) / pck r.sp (prt tp i) := Int.ediv_nonneg (by omega) (by omega)
        omega
      · rename_i hc
        have hd : 0 ≤ (60 * max (r.to - r.frm) (r.frm - r.to) + pck r.sp (prt tp i) - 1) / pck r.sp (prt tp i) := Int.ediv_nonneg (by omega) (by omega)
        refine Int.le_trans ?_ (tru_low hT rs r.to (m + pck r.wt (prt tw i) + (60 * max (r.to - r.frm) (r.frm - r.to) + pck r.sp (prt tp i) - 1) / pck r.sp (prt tp i)) (i + 1) hrs hw (fun e => ?_) (fun e => ?_))
        · omega
        · have h3 := h1 e
          rw [hl.1] at h3
          have h4 : r.to < p := by split at e3 <;> omega
          refine ⟨by omega, ?_⟩
          cases hh : rs with
          | nil => rw [hh] at h3; simp only [lastTo] at h3; omega
          | cons q qs => rw [hh] at h3; exact h3.2
        · have h3 := h2 e
          rw [hl.2] at h3
          have h4 : p < r.to := by split at e3 <;> omega
          refine ⟨by omega, ?_⟩
          cases hh : rs with
          | nil => rw [hh] at h3; simp only [lastTo] at h3; omega
          | cons q qs => rw [hh] at h3; exact h3.2
theorem tru_in {tp tw : List Int} (hT : RT tp tw) {way p : Int} : ∀ (rs : List Run) (a m : Int) (t : Bnd) (i : Nat), okRuns way a rs = true → (way = 1 ∨ way = -1) → (way = 1 → a ≤ p ∧ p ≤ lastTo (a - 1) rs) → (way = -1 → p ≤ a ∧ lastTo (a + 1) rs ≤ p) → (t.lo ≤ m ∧ m ≤ t.hi) →
    (arrGo p rs t).lo ≤ truGo tp tw p i rs m ∧ truGo tp tw p i rs m ≤ (arrGo p rs t).hi
  | [], a, m, t, i, _, hw, h1, h2, _ => by rcases hw with h | h; (have := h1 h; simp only [lastTo] at this; omega); (have := h2 h; simp only [lastTo] at this; omega)
  | r :: rs, a, m, t, i, h, hw, h1, h2, hm => by
    simp only [okRuns, Bool.and_eq_true] at h
    obtain ⟨hr, hrs⟩ := h
    unfold okRun at hr
    rw [decide_eq_true_eq] at hr
    obtain ⟨_, e1, e2, e3, e4, e5⟩ := hr
    have hs := pck_rng (b := r.sp) (y := prt tp i) e4.1 (prt_rng hT.p)
    have hq := pck_rng (b := r.wt) (y := prt tw i) e5.1 (prt_rng hT.w)
    unfold sgn at e3
    have hl : lastTo (a - 1) (r :: rs) = lastTo r.to rs ∧ lastTo (a + 1) (r :: rs) = lastTo r.to rs := ⟨rfl, rfl⟩
    unfold truGo arrGo
    by_cases hp : p = r.frm
    · rw [if_pos hp, if_pos hp.symm]; exact hm
    · rw [if_neg hp, if_neg (show ¬ r.frm = p from fun h => hp h.symm), if_neg (show ¬ pck r.sp (prt tp i) < 1 by omega)]
      have hC : ((0 < p - r.frm ↔ r.frm < r.to) ∧ max (p - r.frm) (-(p - r.frm)) ≤ max (r.to - r.frm) (r.frm - r.to)) ↔ r.frm + wayTo r p = p := by
        unfold wayTo
        split at e3 <;> split <;> omega
      by_cases hc : r.frm + wayTo r p = p
      · rw [if_pos (hC.2 hc), if_pos hc]
        have hw2 : max (wayTo r p) (-(wayTo r p)) = max (p - r.frm) (-(p - r.frm)) := by rw [show wayTo r p = p - r.frm by omega]
        rw [tak_eq hw2.symm, tak_eq hw2.symm]
        have q1 := ceilD_anti (x := 60 * max (p - r.frm) (-(p - r.frm))) (s1 := pck r.sp (prt tp i)) (s2 := r.sp.hi) (by omega) (by omega) (by omega)
        have q2 := ceilD_anti (x := 60 * max (p - r.frm) (-(p - r.frm))) (s1 := r.sp.lo) (s2 := pck r.sp (prt tp i)) (by omega) (by omega) (by omega)
        constructor
        · show t.lo + _ ≤ _; omega
        · show _ ≤ t.hi + _; omega
      · rw [if_neg (fun h => hc (hC.1 h)), if_neg hc]
        have hw2 : max (wayTo r p) (-(wayTo r p)) = max (r.to - r.frm) (r.frm - r.to) := by
          unfold wayTo at hc ⊢
          split at hc <;> split <;> omega
        rw [tak_eq hw2.symm, tak_eq hw2.symm]
        have q1 := ceilD_anti (x := 60 * max (r.to - r.frm) (r.frm - r.to)) (s1 := pck r.sp (prt tp i)) (s2 := r.sp.hi) (by omega) (by omega) (by omega)
        have q2 := ceilD_anti (x := 60 * max (r.to - r.frm) (r.frm - r.to)) (s1 := r.sp.lo) (s2 := pck r.sp (prt tp i)) (by omega) (by omega) (by omega)
        refine tru_in hT rs r.to _ _ (i + 1) hrs hw (fun e => ?_) (fun e => ?_) ⟨by show t.lo + _ ≤ _; omega, by show _ ≤ t.hi + _; omega⟩
        · have h3 := h1 e
          rw [hl.1] at h3
          have h4 : r.to < p := by unfold wayTo at hc; split at e3 <;> split at hc <;> omega
          refine ⟨by omega, ?_⟩
          cases hh : rs with
          | nil => rw [hh] at h3; simp only [lastTo] at h3; omega
          | cons q qs => rw [hh] at h3; exact h3.2
        · have h3 := h2 e
          rw [hl.2] at h3
          have h4 : p < r.to := by unfold wayTo at hc; split at e3 <;> split at hc <;> omega
          refine ⟨by omega, ?_⟩
          cases hh : rs with
          | nil => rw [hh] at h3; simp only [lastTo] at h3; omega
          | cons q qs => rw [hh] at h3; exact h3.2
theorem tru_mono {tp tw : List Int} (hT : RT tp tw) {way p q : Int} : ∀ (rs : List Run) (a m : Int) (i : Nat), okRuns way a rs = true → (way = 1 ∨ way = -1) → (way = 1 → a ≤ p ∧ p ≤ q ∧ q ≤ lastTo (a - 1) rs) → (way = -1 → p ≤ a ∧ q ≤ p ∧ lastTo (a + 1) rs ≤ q) →
    truGo tp tw p i rs m ≤ truGo tp tw q i rs m
  | [], a, m, i, _, hw, h1, h2 => by rcases hw with h | h; (have := h1 h; simp only [lastTo] at this; omega); (have := h2 h; simp only [lastTo] at this; omega)
  | r :: rs, a, m, i, h, hw, h1, h2 => by
    have h' := h
    simp only [okRuns, Bool.and_eq_true] at h
    obtain ⟨hr, hrs⟩ := h
    unfold okRun at hr
    rw [decide_eq_true_eq] at hr
    obtain ⟨_, e1, e2, e3, e4, e5⟩ := hr
    have hs := pck_rng (b := r.sp) (y := prt tp i) e4.1 (prt_rng hT.p)
    unfold sgn at e3
    have hl : lastTo (a - 1) (r :: rs) = lastTo r.to rs ∧ lastTo (a + 1) (r :: rs) = lastTo r.to rs := ⟨rfl, rfl⟩
    by_cases hp : p = r.frm
    · have e : truGo tp tw p i (r :: rs) m = m := by unfold truGo; rw [if_pos hp]
      rw [e]
      exact tru_low hT (r :: rs) a m i h' hw (fun e => ⟨by have := h1 e; omega, (h1 e).2.2⟩) (fun e => ⟨by have := h2 e; omega, (h2 e).2.2⟩)
    · have hq : ¬ q = r.frm := by intro e; rcases hw with e9 | e9; (have := h1 e9; split at e3 <;> omega); (have := h2 e9; split at e3 <;> omega)
      have rest : ∀ x : Int, (way = 1 → r.to < x ∧ x ≤ lastTo (a - 1) (r :: rs)) → (way = -1 → x < r.to ∧ lastTo (a + 1) (r :: rs) ≤ x) →
          (way = 1 → x ≤ lastTo (r.to - 1) rs) ∧ (way = -1 → lastTo (r.to + 1) rs ≤ x) := by
        intro x g1 g2
        rw [hl.1] at g1; rw [hl.2] at g2
        cases hh : rs with
        | nil => rw [hh] at g1 g2; simp only [lastTo] at g1 g2; exact ⟨fun e => by have := g1 e; omega, fun e => by have := g2 e; omega⟩
        | cons y ys => rw [hh] at g1 g2; exact ⟨fun e => (g1 e).2, fun e => (g2 e).2⟩
      unfold truGo
      rw [if_neg hp, if_neg hq, if_neg (show ¬ pck r.sp (prt tp i) < 1 by omega), if_neg (show ¬ pck r.sp (prt tp i) < 1 by omega)]
      by_cases c1 : (0 < p - r.frm ↔ r.frm < r.to) ∧ max (p - r.frm) (-(p - r.frm)) ≤ max (r.to - r.frm) (r.frm - r.to)
      · rw [if_pos c1]
        by_cases c2 : (0 < q - r.frm ↔ r.frm < r.to) ∧ max (q - r.frm) (-(q - r.frm)) ≤ max (r.to - r.frm) (r.frm - r.to)
        · rw [if_pos c2]
          have := ceilD_mono (x := 60 * max (p - r.frm) (-(p - r.frm))) (y := 60 * max (q - r.frm) (-(q - r.frm))) (s := pck r.sp (prt tp i)) (by rcases hw with e9 | e9; (have := h1 e9; split at e3 <;> omega); (have := h2 e9; split at e3 <;> omega)) (by omega)
          omega
        · rw [if_neg c2]
          have h4 : (way = 1 → r.to < q) ∧ (way = -1 → q < r.to) := ⟨fun e9 => by have := h1 e9; split at e3 <;> omega, fun e9 => by have := h2 e9; split at e3 <;> omega⟩
          have h5 := rest q (fun e => ⟨h4.1 e, (h1 e).2.2⟩) (fun e => ⟨h4.2 e, (h2 e).2.2⟩)
          refine Int.le_trans ?_ (tru_low hT rs r.to _ (i + 1) hrs hw (fun e => ⟨by have := h4.1 e; omega, h5.1 e⟩) (fun e => ⟨by have := h4.2 e; omega, h5.2 e⟩))
          have := ceilD_mono (x := 60 * max (p - r.frm) (-(p - r.frm))) (y := 60 * max (r.to - r.frm) (r.frm - r.to)) (s := pck r.sp (prt tp i)) (by omega) (by omega)
          omega
      · have c2 : ¬ ((0 < q - r.frm ↔ r.frm < r.to) ∧ max (q - r.frm) (-(q - r.frm)) ≤ max (r.to - r.frm) (r.frm - r.to)) := by
          intro c2; apply c1
          rcases hw with e9 | e9
          · have := h1 e9; split at e3 <;> omega
          · have := h2 e9; split at e3 <;> omega
        rw [if_neg c1, if_neg c2]
        have h4 : (way = 1 → r.to < p) ∧ (way = -1 → p < r.to) := ⟨fun e9 => by have := h1 e9; split at e3 <;> omega, fun e9 => by have := h2 e9; split at e3 <;> omega⟩
        have h5 := rest q (fun e => ⟨by have := h4.1 e; have := h1 e; omega, (h1 e).2.2⟩) (fun e => ⟨by have := h4.2 e; have := h2 e; omega, (h2 e).2.2⟩)
        exact tru_mono hT rs r.to _ (i + 1) hrs hw (fun e => ⟨by have := h4.1 e; omega, (h1 e).2.1, h5.1 e⟩) (fun e => ⟨by have := h4.2 e; omega, (h2 e).2.1, h5.2 e⟩)
theorem way_args {v : Voy} {p : Int} (hk : okVoy v = true) (ho : onWay v [p] = true) : (way0 v = 1 → frst v ≤ p ∧ p ≤ lastTo (frst v - 1) v.runs) ∧ (way0 v = -1 → p ≤ frst v ∧ lastTo (frst v + 1) v.runs ≤ p) := by
  have h1 := onWay_rng ho
  have hp := (okVoy_rng hk).pos
  have hl : ∀ d, lastTo d v.runs = lst v := fun d => by unfold lst; rw [lastTo_eq]; exact lastTo_any hp d 0
  rw [hl, hl]
  rcases way0_cases hk with ⟨e, e1⟩ | ⟨e, e1⟩
  · exact ⟨fun _ => by omega, fun e2 => by omega⟩
  · exact ⟨fun e2 => by omega, fun _ => by omega⟩
theorem truV_in {v : Voy} {ts : Int} {tp tw : List Int} {p : Int} (hT : RT tp tw) (hts : 0 ≤ ts ∧ ts ≤ 255) (hk : okVoy v = true) (ho : onWay v [p] = true) : (arr v p).lo ≤ tru v ts tp tw p ∧ tru v ts tp tw p ≤ (arr v p).hi := by
  have h := way_args hk ho
  exact tru_in hT v.runs (frst v) (pck v.st ts) v.st 0 (Bool.and_eq_true_iff.1 hk).2 (sgn_or _ _) h.1 h.2 (pck_rng (okVoy_st hk).1 hts)
theorem truV_mono {v : Voy} {ts : Int} {tp tw : List Int} {n : Nar} (hT : RT tp tw) (hk : okVoy v = true) (hm : okNar n = true) (h1 : onWay v [entP v n] = true) (h2 : onWay v [leaP v n] = true) : tru v ts tp tw (entP v n) ≤ tru v ts tp tw (leaP v n) := by
  have a1 := way_args hk h1
  have a2 := way_args hk h2
  have hn := hm
  unfold okNar at hn
  rw [decide_eq_true_eq] at hn
  have hv := (okVoy_rng hk).len
  have htl : 0 ≤ tail v := by unfold tail; omega
  refine tru_mono hT v.runs (frst v) (pck v.st ts) 0 (Bool.and_eq_true_iff.1 hk).2 (sgn_or _ _) (fun e => ⟨(a1.1 e).1, ?_, (a2.1 e).2⟩) (fun e => ⟨(a1.2 e).1, ?_, (a2.2 e).2⟩)
  · rcases way0_cases hk with ⟨e', e1⟩ | ⟨e', e1⟩
    · unfold entP leaP; rw [if_neg (by omega), if_neg (by omega)]; omega
    · rw [e'] at e; omega
  · rcases way0_cases hk with ⟨e', e1⟩ | ⟨e', e1⟩
    · rw [e'] at e; omega
    · unfold entP leaP; rw [if_pos e1, if_pos e1]; omega

end Go.Proofs.Ytmicjleiheoieaa
