/-
  Structs compared. Conditions: none; they hold over any program.
-/
import Derived.Test.YtagmodjadmecdaaPAcc
import Derived.Laws.StructEq
namespace Go.Proofs.Ytagmodjadmecdaa
open Go Go.RowKit
theorem equal_bool {P : Program} {E : TypeId} (h : P.underlying E = some .bool) (n : Nat) (a c : Bool) (w : World) : (Op.equalIn (n + 1) E (.bool a) (.bool c)).run P w = .ok (decide (a = c)) w := by
  simp [Op.equalIn, run_underlying h, Bool.beq_eq_decide_eq]
section
variable {rd : Option Nat} {P : Program} {ops : Array Oper} {Q : Exit → Act → World → Prop} {N : Nat} {ds : List Deferred} {rest : List Oper} {L : Slots} {w : World}
variable {d : Nat} {ty : TypeId} {pos : String} {aft : Array Edge} {g : Option (Nat × Bool)}
theorem t_eqS {t yt : TypeId} {x y : Operand} {xs ys : List Value} {b : Bool} (hm : P.eqGuardType P.depth t = false) (he : ∀ w, (Op.equalIn 10000 t (.agg xs.toArray) (.agg ys.toArray)).run P w = .ok b w)
    (hg : grd ops L g = true) (hN : Nat.blt d N = true) (hx : ev L x = some (.agg xs.toArray)) (hy : ev L y = some (.agg ys.toArray))
    (h : WL rd P ops Q N ds rest ((d, .bool b) :: L) w) : WL rd P ops Q N ds (⟨some d, .binOp .eql t x y yt, ty, pos, aft, g⟩ :: rest) L w :=
  WL.value hg rfl hN (fun a hk => by
    simp only [execOp, hk.ev hx, hk.ev hy, Sem.run_bind, run_eqGuard_agg w .eql t x y _ _ hm, Result.andThen_ok]
    simp [run_eql_struct, he]) h
theorem t_neB {t yt : TypeId} {x y : Operand} {a c : Bool} (hu : P.underlying t = some .bool) (hg : grd ops L g = true) (hN : Nat.blt d N = true) (hx : ev L x = some (.bool a)) (hy : ev L y = some (.bool c))
    (h : WL rd P ops Q N ds rest ((d, .bool (decide (a ≠ c))) :: L) w) : WL rd P ops Q N ds (⟨some d, .binOp .neq t x y yt, ty, pos, aft, g⟩ :: rest) L w :=
  WL.value hg rfl hN (fun b hk => by
    have e := equal_bool (P := P) hu 9999 a c w
    simp [execOp, hk.ev hx, hk.ev hy, eqGuard, binOp, Op.equal, Op.maxDepth, e]) h
/-- &a[i] of a pointer to an array. -/
theorem t_indexArr {t e : TypeId} {x i : Operand} {k : IntKind} {b off n s : Nat} {j : Nat} {m : Int} (o' : Nat) (hu : P.underlying t = some (.array n e)) (hs : ∀ w, (sizeOf e).run P w = .ok s w)
    (hg : grd ops L g = true) (hN : Nat.blt d N = true) (hx : ev L x = some (.pointer (some ⟨b, off, none⟩))) (hi : ev L i = some (.int k m)) (hj : m = (j : Int)) (hl : j < n) (ho : off + j * s = o')
    (h : WL rd P ops Q N ds rest ((d, .pointer (some ⟨b, o', none⟩)) :: L) w) : WL rd P ops Q N ds (⟨some d, .indexAddr t x i, ty, pos, aft, g⟩ :: rest) L w :=
  WL.value hg rfl hN (fun a hk => by
    subst hj ho
    have h1 : (0 : Int) ≤ (j : Int) ∧ (j : Int) < (n : Int) := by omega
    simp [execOp, hk.ev hx, hk.ev hi, Instr.indexAt, run_underlying hu, asIntOf, hs, addr_add, hl, Instr.sureAddr]) h
end
end Go.Proofs.Ytagmodjadmecdaa
