/-
  From sack to sack: plain. Conditions: none.
-/
import Derived.Test.YtblkphbblkncdaaD6
namespace Go.Proofs.Ytblkphbblkncdaa
open Go Go.RowKit

theorem nth_appL {α : Type} [Inhabited α] {a b : List α} {i : Nat} (h : i < a.length) : nth (a ++ b) i = nth a i := by simp [nth, List.getD_eq_getElem?_getD, List.getElem?_append_left h]
theorem evA_app {l m : List Ev} {p : List Int} {k : Nat} (h : nth p k < (l.length : Int)) (h0 : 0 ≤ nth p k) : evA (l ++ m) p k = evA l p k := by unfold evA; rw [nth_appL (by omega)]
theorem posA_app {l m : List Ev} {p : List Int} : ∀ {k : Nat}, (∀ j, j < k → 0 ≤ nth p j ∧ nth p j < (l.length : Int)) → posA (l ++ m) p k = posA l p k
  | 0, _ => rfl
  | k + 1, h => by
    have h1 := h k (by omega)
    show (if _ then _ else _) = if _ then _ else _
    rw [evA_app h1.2 h1.1]
theorem evA_ext {l : List Ev} {p : List Int} {n : Int} {k : Nat} (h : k < p.length) : evA l (p ++ [n]) k = evA l p k := by unfold evA; rw [nth_appL h]
theorem posA_ext {l : List Ev} {p : List Int} {n : Int} : ∀ {k : Nat}, k ≤ p.length → posA l (p ++ [n]) k = posA l p k
  | 0, _ => rfl
  | k + 1, h => by
    show (if _ then _ else _) = if _ then _ else _
    rw [evA_ext (by omega)]
theorem Goes.mono {l : List Ev} {x : Lay} {h : Int} (g : Goes l x h) (m : List Ev) : Goes (l ++ m) x h := by
  have e : ∀ k, k < x.path.length → evA (l ++ m) x.path k = evA l x.path k := fun k hk => by have := g.rng k hk; exact evA_app this.2.1 this.1
  have ep : ∀ k, k ≤ x.path.length → posA (l ++ m) x.path k = posA l x.path k := fun k hk => posA_app (fun j hj => by have := g.rng j (by omega); exact ⟨this.1, this.2.1⟩)
  refine ⟨g.ne, g.tn, fun k hk => ?_, g.inc, fun k hk => ?_, fun k h0 hk => ?_, ?_⟩
  · have := g.rng k hk
    rw [e k hk, List.length_append]
    exact ⟨this.1, by omega, this.2.2⟩
  · rw [e k (by have := g.ne; omega)]; exact g.fst k hk
  · rw [e k hk, ep k (by omega)]; exact g.stp k h0 hk
  · rw [ep _ (Nat.le_refl _)]; exact g.fin
theorem Goes.less {l : List Ev} {x : Lay} {h t : Int} (g : Goes l x h) (h1 : 1 ≤ t) (h2 : t ≤ x.tons) : Goes l ⟨x.bill, t, x.path⟩ h :=
  ⟨g.ne, h1, fun k hk => by have := g.rng k hk; exact ⟨this.1, this.2.1, Int.le_trans h2 this.2.2⟩, g.inc, g.fst, g.stp, g.fin⟩
theorem evA_last {l : List Ev} {x : Ev} {p : List Int} : evA (l ++ [x]) (p ++ [(l.length : Int)]) p.length = x := by
  unfold evA
  rw [snoc_nth]
  show nth (l ++ [x]) l.length = x
  rw [snoc_nth]
theorem Goes.first {l : List Ev} {x : Ev} (hk : x.kind = 1) (ht : 1 ≤ x.tons) : Goes (l ++ [x]) ⟨x.bill, x.tons, [(l.length : Int)]⟩ x.to := by
  have e : evA (l ++ [x]) [(l.length : Int)] 0 = x := evA_last (p := [])
  refine ⟨Nat.zero_lt_one, ht, fun k hk => ?_, fun k h0 hk => ?_, fun k hk0 => ?_, fun k h0 hk => ?_, ?_⟩
  · have : k = 0 := by have : k < 1 := hk; omega
    subst this
    show (0 : Int) ≤ (l.length : Int) ∧ (l.length : Int) < ((l ++ [x]).length : Int) ∧ x.tons ≤ (evA (l ++ [x]) [(l.length : Int)] 0).tons
    rw [e, List.length_append, List.length_singleton]
    omega
  · have : k < 1 := hk; omega
  · subst hk0
    show (evA (l ++ [x]) [(l.length : Int)] 0).kind = 1 ∧ (evA (l ++ [x]) [(l.length : Int)] 0).bill = x.bill
    rw [e]; exact ⟨hk, rfl⟩
  · have : k < 1 := hk; omega
  · show (if (evA (l ++ [x]) [(l.length : Int)] 0).kind = 3 then (-1 : Int) else (evA (l ++ [x]) [(l.length : Int)] 0).to) = x.to
    rw [e, if_neg (by omega)]
theorem Goes.ext {l : List Ev} {y : Lay} {h t : Int} {x : Ev} (g : Goes l y h) (h0 : 0 ≤ h) (hf : x.frm = h) (hk : x.kind = 2 ∨ x.kind = 3) (h1 : 1 ≤ t) (h2 : t ≤ y.tons) (h3 : t ≤ x.tons) : Goes (l ++ [x]) ⟨y.bill, t, y.path ++ [(l.length : Int)]⟩ (if x.kind = 3 then -1 else x.to) := by
  have gm := g.mono [x]
  have hlen : (y.path ++ [(l.length : Int)]).length = y.path.length + 1 := by simp
  have hne := g.ne
  have en : nth (y.path ++ [(l.length : Int)]) y.path.length = (l.length : Int) := snoc_nth
  refine ⟨by rw [hlen]; omega, h1, fun k hk => ?_, fun k k0 hk => ?_, fun k hk0 => ?_, fun k k0 hk2 => ?_, ?_⟩
  · rw [hlen] at hk
    show 0 ≤ nth (y.path ++ [(l.length : Int)]) k ∧ nth (y.path ++ [(l.length : Int)]) k < ((l ++ [x]).length : Int) ∧ t ≤ (evA (l ++ [x]) (y.path ++ [(l.length : Int)]) k).tons
    rcases Nat.lt_or_ge k y.path.length with q | q
    · rw [nth_appL q, evA_ext q]
      have := gm.rng k q
      exact ⟨this.1, this.2.1, Int.le_trans h2 this.2.2⟩
    · have : k = y.path.length := by omega
      subst this
      rw [en, evA_last, List.length_append, List.length_singleton]
      omega
  · rw [hlen] at hk
    show nth (y.path ++ [(l.length : Int)]) (k - 1) < nth (y.path ++ [(l.length : Int)]) k
    rw [nth_appL (by omega)]
    rcases Nat.lt_or_ge k y.path.length with q | q
    · rw [nth_appL q]; exact g.inc k k0 q
    · have : k = y.path.length := by omega
      subst this
      rw [en]
      exact (g.rng _ (by omega)).2.1
  · show (evA (l ++ [x]) (y.path ++ [(l.length : Int)]) k).kind = 1 ∧ (evA (l ++ [x]) (y.path ++ [(l.length : Int)]) k).bill = y.bill
    rw [evA_ext (by omega)]; exact gm.fst k hk0
  · rw [hlen] at hk2
    show (evA (l ++ [x]) (y.path ++ [(l.length : Int)]) k).frm = posA (l ++ [x]) (y.path ++ [(l.length : Int)]) k ∧ ((evA (l ++ [x]) (y.path ++ [(l.length : Int)]) k).kind = 2 ∨ ((evA (l ++ [x]) (y.path ++ [(l.length : Int)]) k).kind = 3 ∧ k + 1 = (y.path ++ [(l.length : Int)]).length))
    rw [posA_ext (by omega), hlen]
    rcases Nat.lt_or_ge k y.path.length with q | q
    · rw [evA_ext q]
      have := gm.stp k k0 q
      refine ⟨this.1, this.2.elim .inl (fun h9 => ?_)⟩
      exfalso
      have hfin := gm.fin
      rw [← h9.2] at hfin
      have hfin : (if (evA (l ++ [x]) y.path k).kind = 3 then (-1 : Int) else (evA (l ++ [x]) y.path k).to) = h := hfin
      rw [if_pos h9.1] at hfin
      omega
    · have : k = y.path.length := by omega
      subst this
      rw [evA_last]
      exact ⟨hf.trans gm.fin.symm, hk.elim .inl (fun h9 => .inr ⟨h9, rfl⟩)⟩
  · show posA (l ++ [x]) (y.path ++ [(l.length : Int)]) (y.path ++ [(l.length : Int)]).length = _
    rw [hlen]
    show (if (evA (l ++ [x]) (y.path ++ [(l.length : Int)]) y.path.length).kind = 3 then (-1 : Int) else (evA (l ++ [x]) (y.path ++ [(l.length : Int)]) y.path.length).to) = _
    rw [evA_last]
/-! ### What is taken -/
theorem takR_left : ∀ {l : List Lay} {t : Int}, (∀ x ∈ l, 1 ≤ x.tons) → ∀ q ∈ (takR l t).1, ∃ y ∈ l, q.bill = y.bill ∧ q.path = y.path ∧ 1 ≤ q.tons ∧ q.tons ≤ y.tons
  | [], _, _, q, hq => by cases hq
  | x :: r, t, h, q, hq => by
    have hx := h x (by simp)
    simp only [takR] at hq
    split at hq
    · exact ⟨q, hq, rfl, rfl, h q hq, Int.le_refl _⟩
    · split at hq
      · rcases List.mem_cons.1 hq with rfl | hq
        · exact ⟨x, by simp, rfl, rfl, by show 1 ≤ x.tons - t; omega, by show x.tons - t ≤ x.tons; omega⟩
        · exact ⟨q, List.mem_cons_of_mem _ hq, rfl, rfl, h q (List.mem_cons_of_mem _ hq), Int.le_refl _⟩
      · obtain ⟨y, hy, e⟩ := takR_left (l := r) (t := t - x.tons) (fun y hy => h y (List.mem_cons_of_mem _ hy)) q hq
        exact ⟨y, List.mem_cons_of_mem _ hy, e⟩
/-- What is taken, from the top: of each layer all its tons, but of the last one. -/
theorem takR_ord : ∀ {l : List Lay} {t : Int}, (∀ x ∈ l, 1 ≤ x.tons) → (takR l t).2.length ≤ l.length ∧ ∀ j, j < (takR l t).2.length → (nth (takR l t).2 j).bill = (nth l j).bill ∧ (nth (takR l t).2 j).path = (nth l j).path ∧ (1 ≤ (nth (takR l t).2 j).tons ∧ (nth (takR l t).2 j).tons ≤ (nth l j).tons ∧ (nth (takR l t).2 j).tons ≤ t) ∧ (j + 1 < (takR l t).2.length → (nth (takR l t).2 j).tons = (nth l j).tons)
  | [], _, _ => ⟨Nat.le_refl _, fun j hj => by cases hj⟩
  | x :: r, t, h => by
    have hx := h x (by simp)
    simp only [takR]
    split
    · exact ⟨Nat.zero_le _, fun j hj => by cases hj⟩
    · split
      · refine ⟨Nat.succ_le_succ (Nat.zero_le _), fun j hj => ?_⟩
        have : j = 0 := by have : j < 1 := hj; omega
        subst this
        exact ⟨rfl, rfl, ⟨by show 1 ≤ t; omega, by show t ≤ x.tons; omega, Int.le_refl _⟩, fun h9 => absurd (show 1 < 1 from h9) (by decide)⟩
      · rename_i q1 q2
        obtain ⟨a, b⟩ := takR_ord (l := r) (t := t - x.tons) (fun y hy => h y (List.mem_cons_of_mem _ hy))
        refine ⟨Nat.succ_le_succ a, fun j hj => ?_⟩
        cases j with
        | zero => exact ⟨rfl, rfl, ⟨hx, Int.le_refl _, by show x.tons ≤ t; omega⟩, fun _ => rfl⟩
        | succ j =>
          obtain ⟨c1, c2, c3, c4⟩ := b j (by have : j + 1 < (takR r (t - x.tons)).2.length + 1 := hj; omega)
          exact ⟨c1, c2, ⟨c3.1, c3.2.1, by show (nth (takR r (t - x.tons)).2 j).tons ≤ t; omega⟩, fun h9 => c4 (by have : j + 1 + 1 < (takR r (t - x.tons)).2.length + 1 := h9; omega)⟩

end Go.Proofs.Ytblkphbblkncdaa
