/-
  The least holds of voyages. Conditions: none.
-/
import Derived.Test.YtmicjleiheoieaaA8
namespace Go.Proofs.Ytmicjleiheoieaa
open Go Go.RowKit
/-- Voyage i, held back by h, has no conflict with the voyages before it, as these are held back. -/
def FreeR (vl : List Voy) (ns : List Nar) (os : List Int) (i : Nat) (h : Int) : Prop :=
  ∀ j, j < i → ∀ k, k < ns.length → barsV (heldV (nth vl j) (nth os j)) (heldV (nth vl i) h) (nth ns k) = false
/-- h is the least such hold. -/
def LeastR (vl : List Voy) (ns : List Nar) (os : List Int) (i : Nat) (h : Int) : Prop :=
  0 ≤ h ∧ FreeR vl ns os i h ∧ ∀ h', 0 ≤ h' → h' < h → ¬ FreeR vl ns os i h'
/-- What Holds answers for valid arguments. -/
def HoldsR (vl : List Voy) (ns : List Nar) (most : Int) (ls : List Int) (at_ e : Int) : Prop :=
  (e = 0 ∧ at_ = 0 ∧ ls.length = vl.length ∧ ∀ j, j < vl.length → LeastR vl ns ls j (nth ls j) ∧ nth ls j ≤ most) ∨
  (∃ (q : Nat) (os : List Int), e = 7 ∧ at_ = (q : Int) ∧ ls = [] ∧ q < vl.length ∧ (∀ j, j < q → LeastR vl ns os j (nth os j) ∧ nth os j ≤ most) ∧ ∀ h, 0 ≤ h → h ≤ most → ¬ FreeR vl ns os q h)
theorem nth_mapv (vs : List HVoy) (j : Nat) : nth (vs.map HVoy.v) j = (nth vs j).v := by
  simp only [nth, List.getD_eq_getElem?_getD, List.getElem?_map]
  cases vs[j]? <;> rfl
def heldRow (x : HVoy) (h : Int) : HVoy := ⟨heldV x.v h, x.ao, x.b, x.o, x.cap⟩
theorem nth_snoc_lt {α : Type} [Inhabited α] {xs : List α} {x : α} {j : Nat} (h : j < xs.length) : nth (xs ++ [x]) j = nth xs j := by
  simp [nth, List.getD_eq_getElem?_getD, List.getElem?_append_left h]
theorem nth_snoc_eq {α : Type} [Inhabited α] {xs : List α} {x : α} : nth (xs ++ [x]) xs.length = x := by
  simp [nth, List.getD_eq_getElem?_getD]
theorem FreeR.congr {vl : List Voy} {ns : List Nar} {os os' : List Int} {i : Nat} {h : Int} (e : ∀ j, j < i → nth os j = nth os' j) : FreeR vl ns os i h ↔ FreeR vl ns os' i h := by
  constructor <;> intro hf j hj k hk
  · rw [← e j hj]; exact hf j hj k hk
  · rw [e j hj]; exact hf j hj k hk
theorem LeastR.congr {vl : List Voy} {ns : List Nar} {os os' : List Int} {i : Nat} {h : Int} (e : ∀ j, j < i → nth os j = nth os' j) (a : LeastR vl ns os i h) : LeastR vl ns os' i h :=
  ⟨a.1, (FreeR.congr e).1 a.2.1, fun h' h1 h2 hf => a.2.2 h' h1 h2 ((FreeR.congr e).2 hf)⟩
theorem least_snoc {vl : List Voy} {ns : List Nar} {os : List Int} {i : Nat} {l most : Int} (hl : os.length = i) (a : ∀ j, j < i → LeastR vl ns os j (nth os j) ∧ nth os j ≤ most) (b : LeastR vl ns os i l) (c : l ≤ most) :
    ∀ j, j < i + 1 → LeastR vl ns (os ++ [l]) j (nth (os ++ [l]) j) ∧ nth (os ++ [l]) j ≤ most := by
  subst hl; intro j hj
  have hc : ∀ p, p ≤ os.length → ∀ q, q < p → nth os q = nth (os ++ [l]) q := fun p hp q hq => (nth_snoc_lt (by omega)).symm
  rcases Nat.lt_or_ge j os.length with h | h
  · rw [nth_snoc_lt (by omega)]; exact ⟨(a j h).1.congr (hc j (by omega)), (a j h).2⟩
  · have e : j = os.length := by omega
    subst e
    rw [nth_snoc_eq]; exact ⟨b.congr (hc _ (by omega)), c⟩
theorem rows_snoc {vs us : List HVoy} {os : List Int} {i : Nat} {l : Int} (hul : us.length = i) (hol : os.length = i) (h : ∀ j, j < i → nth us j = heldRow (nth vs j) (nth os j)) : ∀ j, j < i + 1 → nth (us ++ [heldRow (nth vs i) l]) j = heldRow (nth vs j) (nth (os ++ [l]) j) := fun j hj => by
  rcases Nat.lt_or_ge j i with h1 | h1
  · rw [nth_snoc_lt (by omega), nth_snoc_lt (by omega)]; exact h j h1
  · have e : j = i := by omega
    subst e
    rw [← hul, nth_snoc_eq, hul, ← hol, nth_snoc_eq]
theorem free_zero {vl : List Voy} {ns : List Nar} {os : List Int} {i : Nat} {h : Int} (H : ∀ j, j < i → ∀ k, k < ns.length → barsV (heldV (nth vl j) (nth os j)) (heldV (nth vl i) h) (nth ns k) = false) : FreeR vl ns os i h := H
theorem heldRow_v {x : HVoy} {h : Int} : (heldRow x h).v = heldV x.v h := rfl
theorem nfree_mk {vs us : List HVoy} {ns : List Nar} {os : List Int} {i j k : Nat} {h : Int} (hj : j < i) (hk : k < ns.length) (he : nth us j = heldRow (nth vs j) (nth os j)) (hb : barsV (nth us j).v (heldV (nth vs i).v h) (nth ns k) = true) : ¬ FreeR (vs.map HVoy.v) ns os i h := fun hf => by
  have := hf j hj k hk
  rw [nth_mapv, nth_mapv] at this
  rw [he, heldRow_v] at hb
  rw [hb] at this; cases this
theorem okbar {vs us : List HVoy} {ns : List Nar} {os : List Int} {i j k : Nat} {h : Int} (he : nth us j = heldRow (nth vs j) (nth os j)) (hb : barsV (nth us j).v (heldV (nth vs i).v h) (nth ns k) = false) : barsV (heldV (nth (vs.map HVoy.v) j) (nth os j)) (heldV (nth (vs.map HVoy.v) i) h) (nth ns k) = false := by
  rw [nth_mapv, nth_mapv]; rw [he, heldRow_v] at hb; exact hb

end Go.Proofs.Ytmicjleiheoieaa
