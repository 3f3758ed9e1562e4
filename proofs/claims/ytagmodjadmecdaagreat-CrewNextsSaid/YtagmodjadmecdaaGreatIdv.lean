/-
  Remainders of small unsigned numbers, and elements of array values. Conditions: none; they hold over any program.
-/
import Derived.Test.YtagmodjadmecdaaGreatAcc
namespace Go.Proofs.YtagmodjadmecdaaGreat
open Go Go.RowKit
section
variable {rd : Option Nat} {P : Program} {ops : Array Oper} {Q : Exit → Act → World → Prop} {N : Nat} {ds : List Deferred} {rest : List Oper} {L : Slots} {w : World}
variable {d : Nat} {ty : TypeId} {pos : String} {aft : Array Edge} {g : Option (Nat × Bool)}
theorem t_rem8 {k : IntKind} {xt yt : TypeId} {x y : Operand} {m n : Int} (hg : grd ops L g = true) (hN : Nat.blt d N = true)
    (hx : ev L x = some (.int k m)) (hy : ev L y = some (.int k n)) (h1 : 0 ≤ m) (h2 : 1 ≤ n)
    (h : WL rd P ops Q N ds rest ((d, .int k (m % n)) :: L) w) : WL rd P ops Q N ds (⟨some d, .binOp .rem xt x y yt, ty, pos, aft, g⟩ :: rest) L w :=
  WL.value hg rfl hN (fun a ha => by
    have e1 := ha.ev hx
    have e2 := ha.ev hy
    have e3 := IntWalk.rem_in m n h1
    have e4 : n ≠ 0 := by omega
    simp [execOp, e1, e2, eqGuard, binOp, Op.intDiv, e3, e4]) h
theorem t_idxv {t e : TypeId} {x i : Operand} {k : IntKind} {n s : Nat} {cs : List Value} {v : Value} {m : Int} (j : Nat) (hu : P.underlying t = some (.array n e)) (ha : ∀ w, (isAgg e).run P w = .ok false w) (hs : ∀ w, (sizeOf e).run P w = .ok s w)
    (hg : grd ops L g = true) (hN : Nat.blt d N = true) (hx : ev L x = some (.agg cs.toArray)) (hi : ev L i = some (.int k m)) (hj : m = (j : Int)) (hl : j < n) (hv : cs[j * s]? = some v)
    (h : WL rd P ops Q N ds rest ((d, v) :: L) w) : WL rd P ops Q N ds (⟨some d, .index t x i, ty, pos, aft, g⟩ :: rest) L w :=
  WL.value hg rfl hN (fun a hk => by
    subst hj
    have h1 : (0 : Int) ≤ (j : Int) ∧ (j : Int) < (n : Int) := by omega
    simp [execOp, hk.ev hx, hk.ev hi, Instr.index, run_underlying hu, asIntOf, hs, hl, part, ha, asAgg, hv]) h
theorem t_idxvN {t e : TypeId} {x i : Operand} {k : IntKind} {n s : Nat} {cs vs : List Value} {m : Int} (j : Nat) (hu : P.underlying t = some (.array n e)) (ha : ∀ w, (isAgg e).run P w = .ok true w) (hs : ∀ w, (sizeOf e).run P w = .ok s w)
    (hg : grd ops L g = true) (hN : Nat.blt d N = true) (hx : ev L x = some (.agg cs.toArray)) (hi : ev L i = some (.int k m)) (hj : m = (j : Int)) (hl : j < n) (hv : (cs.drop (j * s)).take s = vs)
    (h : WL rd P ops Q N ds rest ((d, .agg vs.toArray) :: L) w) : WL rd P ops Q N ds (⟨some d, .index t x i, ty, pos, aft, g⟩ :: rest) L w :=
  WL.value hg rfl hN (fun a hk => by
    subst hj
    have h1 : (0 : Int) ≤ (j : Int) ∧ (j : Int) < (n : Int) := by omega
    simp [execOp, hk.ev hx, hk.ev hi, Instr.index, run_underlying hu, asIntOf, hs, hl, part, ha, asAgg, hv]) h
end
end Go.Proofs.YtagmodjadmecdaaGreat
