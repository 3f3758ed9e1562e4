/-
  slices.SortFunc at a gathered slice of structs: the shelf's contract in the words of this seat. Conditions: none; they hold over any program.
-/
import Derived.Test.YtagmodjadmecdaaGreatHAcc
import Derived.Shelf.SlSortCmp.WholeK
import Derived.Shelf.SlSortCmp.NoneTotal
namespace Go.Proofs.YtagmodjadmecdaaGreat
open Go Go.RowKit

def Asc {α : Type} [Inhabited α] (cf : α → α → Int) (ys : List α) : Prop := ∀ i j, i < j → j < ys.length → ¬ cf (nth ys j) (nth ys i) < 0

theorem nth_toArray {α : Type} [Inhabited α] (xs : List α) (i : Nat) : (xs.toArray)[i]! = nth xs i := by
  unfold nth
  rw [List.getD_eq_getElem?_getD]
  rcases Nat.lt_or_ge i xs.length with h | h
  · rw [getElem!_pos _ i (by simpa using h)]
    simp [h]
  · rw [getElem!_neg _ i (by simpa using h)]
    simp [List.getElem?_eq_none h]

theorem upd_sorted {α : Type} [Inhabited α] (enc : α → List Value) (k : Nat) (w : World) (g n : Nat) (d : Array α) (os : Array Obj) : Upd (· = g) w (sortWorldK enc k w g 0 n d os) := by
  refine ⟨rfl, rfl, rfl, ?_, fun i hi hn => ?_⟩
  · simp only [sortWorldK, Go.Sort.putRowK, Go.Sort.grow, Go.Sort.putRow, Go.Sort.mapBlock, Go.Sort.ahead]
    simp
  · simp only [sortWorldK, Go.Sort.putRowK, Go.Sort.grow, Go.Sort.putRow, Go.Sort.mapBlock, Go.Sort.ahead]
    rw [Array.getElem?_append_left (by simpa using hi), Array.getElem?_modify]
    simp [show ¬ g = i from fun e => hn e.symm]

theorem acc_sorted {α : Type} [Inhabited α] {enc : α → List Value} {k : Nat} {e : TypeId} {base : Nat} {w : World} {ao : Option Addr} {g cap : Nat} {xs : List α} (hk0 : 0 < k) (hk : ∀ x, (enc x).length = k) (h : Acc enc k e base w ao g cap xs) (hx : 0 < xs.length)
    (d : Array α) (hd : d.size = xs.length) (n : Nat) (os : Array Obj) : Acc enc k e base (sortWorldK enc k w g 0 n d os) ao g cap d.toList := by
  have u := upd_sorted enc k w g n d os
  refine ⟨Nat.lt_of_lt_of_le h.lt u.size, ?_⟩
  rcases h.at_ with ⟨_, h1, _⟩ | ⟨h1, h2, cur, h3, h4, h5, h6, h7⟩
  · subst h1; simp at hx
  · refine .inr ⟨h1, h2, Go.Sort.putCells id 0 (Go.Sort.flatK enc k d) cur, ?_, by simpa [hd] using h4, h5, by simp [Go.Sort.putCells, h6], ?_⟩
    · simp only [sortWorldK, Go.Sort.putRowK, Go.Sort.grow, Go.Sort.putRow, Go.Sort.mapBlock, Go.Sort.ahead]
      rw [Array.getElem?_append_left (by simpa using h.lt), Array.getElem?_modify]
      simp [h3, Go.Sort.onCells]
    · have hcap : xs.length * k ≤ cap * k := Nat.mul_le_mul_right _ h4
      apply List.ext_getElem?
      intro t
      rcases Nat.lt_or_ge t (xs.length * k) with ht | ht
      · have htd : t / k < d.toList.length := by simp [hd]; exact (Nat.div_lt_iff_lt_mul hk0).2 ht
        have hmod : t % k < k := Nat.mod_lt _ hk0
        have hv : (enc (nth d.toList (t / k)))[t % k]? = some ((enc (nth d.toList (t / k)))[t % k]'(by rw [hk]; exact hmod)) := by simp [hk, hmod]
        have h8 := flatMap_at hk d.toList (t / k) (t % k) _ htd hv
        rw [show t / k * k + t % k = t from Nat.div_add_mod' t k] at h8
        rw [h8, List.getElem?_take, if_pos (by simpa [hd] using ht)]
        have htc : t < cur.size := by omega
        rw [Array.getElem?_toList]
        simp only [Go.Sort.putCells]
        rw [Array.getElem?_mapIdx]
        simp only [Array.getElem?_eq_getElem htc, Option.map_some, Nat.zero_le, true_and, Nat.zero_add, Nat.sub_zero, id]
        rw [if_pos (by rw [Go.Sort.size_flatK, hd]; exact ht), Go.Sort.get_flatK _ _ _ t (by rw [hd]; exact ht)]
        have hda : d[t / k]! = nth d.toList (t / k) := by
          have := nth_toArray d.toList (t / k)
          simpa using this
        rw [hda, getElem!_pos _ (t % k) (by rw [hk]; exact hmod)]
      · rw [List.getElem?_eq_none (by simp [hd]; omega), List.getElem?_eq_none (by rw [flatMap_len hk]; simp [hd]; omega)]

theorem holdsK_acc {α : Type} [Inhabited α] {enc : α → List Value} {k : Nat} {e : TypeId} {base : Nat} {w : World} {ao : Option Addr} {g cap : Nat} {xs : List α} (hk0 : 0 < k) (hk : ∀ x, (enc x).length = k) (h : Acc enc k e base w ao g cap xs) (hx : 0 < xs.length) : Go.Sort.HoldsK enc k w g 0 xs.toArray := by
  intro t ht
  rw [Go.Sort.size_flatK] at ht
  have ht' : t < xs.length * k := by simpa using ht
  rw [Go.Sort.get_flatK _ _ _ t ht, nth_toArray]
  have hmod : t % k < k := Nat.mod_lt _ hk0
  have htd : t / k < xs.length := (Nat.div_lt_iff_lt_mul hk0).2 ht'
  have h8 := (h.sl hk).at_ (t / k) htd (t % k) ((enc (nth xs (t / k)))[t % k]'(by rw [hk]; exact hmod)) (by simp [hk, hmod])
  rw [Nat.zero_add, Nat.div_add_mod'] at h8
  refine ⟨by rw [Nat.zero_add, h8, getElem!_pos _ (t % k) (by rw [hk]; exact hmod)]; rfl, ?_⟩
  rcases h.at_ with ⟨_, h1, _⟩ | ⟨_, _, cur, h3, _⟩
  · subst h1; simp at hx
  · simp [World.frozen?, h3]

def CmpOk {α : Type} (P : Program) (g : Nat) (enc : α → List Value) (cf : α → α → Int) : Prop :=
  ∀ (x y : α) (W : World), Calls P g #[.agg (enc x).toArray, .agg (enc y).toArray] W fun e w' => e = .returned (.int .i64 (cf x y)) ∧ ∃ q os', w' = Go.Sort.grow (W.drewN q) os'

end Go.Proofs.YtagmodjadmecdaaGreat
