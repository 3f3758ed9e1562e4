/-
  Arrays of truth values. Conditions: none; it holds over any program.
-/
import Derived.Test.YtagmodjadmecdaaGreatHApp
namespace Go.Proofs.YtagmodjadmecdaaGreat
open Go Go.RowKit
def encB (b : Bool) : List Value := [.bool b]
theorem SlB.own {w : World} {b : Nat} {t : TypeId} {xs : List Bool} (h : Blk w b t (xs.map Value.bool)) : Sl encB 1 w (some ⟨b, 0, none⟩) b 0 xs :=
  ⟨fun _ => rfl, fun _ => h.lt, fun i hi j v hv => by
    cases j with
    | zero =>
      rw [nth_eq hi] at hv
      simp [encB] at hv
      subst hv
      exact h.get (off := 0 + i * 1 + 0) (by simp [hi])
    | succ j => simp [encB] at hv⟩
section
variable {rd : Option Nat} {P : Program} {ops : Array Oper} {Q : Exit → Act → World → Prop} {N : Nat} {ds : List Deferred} {rest : List Oper} {L : Slots} {w : World}
variable {d : Nat} {ty : TypeId} {pos : String} {aft : Array Edge} {g : Option (Nat × Bool)}
end
end Go.Proofs.YtagmodjadmecdaaGreat
