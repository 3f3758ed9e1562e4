/-
  Structs compared. Conditions: none; they hold over any program.
-/
import Derived.Test.YtagmodjadmecdaaGreatHAcc
import Derived.Laws.StructEq
namespace Go.Proofs.YtagmodjadmecdaaGreat
open Go Go.RowKit
section
variable {rd : Option Nat} {P : Program} {ops : Array Oper} {Q : Exit → Act → World → Prop} {N : Nat} {ds : List Deferred} {rest : List Oper} {L : Slots} {w : World}
variable {d : Nat} {ty : TypeId} {pos : String} {aft : Array Edge} {g : Option (Nat × Bool)}
theorem t_eqS {t yt : TypeId} {x y : Operand} {xs ys : List Value} {b : Bool} (hm : P.eqGuardType P.depth t = false) (he : ∀ w, (Op.equalIn 10000 t (.agg xs.toArray) (.agg ys.toArray)).run P w = .ok b w)
    (hg : grd ops L g = true) (hN : Nat.blt d N = true) (hx : ev L x = some (.agg xs.toArray)) (hy : ev L y = some (.agg ys.toArray))
    (h : WL rd P ops Q N ds rest ((d, .bool b) :: L) w) : WL rd P ops Q N ds (⟨some d, .binOp .eql t x y yt, ty, pos, aft, g⟩ :: rest) L w :=
  WL.value hg rfl hN (fun a hk => by
    simp only [execOp, hk.ev hx, hk.ev hy, Sem.run_bind, run_eqGuard_agg w .eql t x y _ _ hm, Result.andThen_ok]
    simp [run_eql_struct, he]) h
end
end Go.Proofs.YtagmodjadmecdaaGreat
