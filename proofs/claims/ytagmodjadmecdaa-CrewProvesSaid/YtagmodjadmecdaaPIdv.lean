/-
  Remainders of small unsigned numbers, and elements of array values. Conditions: none; they hold over any program.
-/
import Derived.Test.YtagmodjadmecdaaPAcc
namespace Go.Proofs.Ytagmodjadmecdaa
open Go Go.RowKit
section
variable {rd : Option Nat} {P : Program} {ops : Array Oper} {Q : Exit → Act → World → Prop} {N : Nat} {ds : List Deferred} {rest : List Oper} {L : Slots} {w : World}
variable {d : Nat} {ty : TypeId} {pos : String} {aft : Array Edge} {g : Option (Nat × Bool)}
theorem t_rem8 {k : IntKind} {xt yt : TypeId} {x y : Operand} {m n : Int} (hg : grd ops L g = true) (hN : Nat.blt d N = true)
    (hx : ev L x = some (.int k m)) (hy : ev L y = some (.int k n)) (h1 : 0 ≤ m) (h2 : 1 ≤ n)
    (h : WL rd P ops Q N ds rest ((d, .int k (m % n)) :: L) w) : WL rd P ops Q N ds (⟨some d, .binOp .rem xt x y yt, ty, pos, aft, g⟩ :: rest) L w :=
  WL.value hg rfl hN (fun a ha => by
    have e1 := ha.ev hx
    have e2 := ha.ev hy
    have e3 := IntWalk.rem_in m n h1
    have e4 : n ≠ 0 := by omega
    simp [execOp, e1, e2, eqGuard, binOp, Op.intDiv, e3, e4]) h
end
end Go.Proofs.Ytagmodjadmecdaa
