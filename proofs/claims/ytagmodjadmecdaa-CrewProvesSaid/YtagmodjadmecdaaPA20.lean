/-
  Less is safe. Conditions: none.
-/
import Derived.Test.YtagmodjadmecdaaPA19
import Derived.Test.YtagmodjadmecdaaPA17
namespace Go.Proofs.Ytagmodjadmecdaa
open Go Go.RowKit

/-- The rest of a slice. -/
theorem Sl.from_ {α : Type} [Inhabited α] {enc : α → List Value} {k : Nat} {w : World} {ao : Option Addr} {b o : Nat} {xs : List α} (h : Sl enc k w ao b o xs) (cap l : Nat) (hc : xs.length ≤ cap) : Sl enc k w (subAddr ao cap l k) b (o + l * k) (xs.drop l) := by
  have h9 := h.sub cap l xs.length hc
  rwa [List.take_of_length_le (by rw [List.length_drop]; omega)] at h9
def shW (l : List Shf) (k : Nat) : Int := sumI2 ((l.take k).map fun x => x.w)
/-- What shifts are like. -/
structure ShsOk (r : Rul) (l : List Sp) (sh : List Shf) : Prop where
  be : ∀ i, i < sh.length → (nth sh i).b ≤ (nth sh i).e
  gap : ∀ i, i + 1 < sh.length → (nth sh i).e + r.rest ≤ (nth sh (i + 1)).b
  ww : ∀ i, i < sh.length → 0 ≤ (nth sh i).w
  sum : shW sh sh.length = sumI2 (l.map fun s => s.e - s.b)
  nil : sh.length = 0 ↔ l.length = 0
end Go.Proofs.Ytagmodjadmecdaa
