/-
  Small bits: e & 1, e >> 0 and e >> 1 on a uint8. Conditions: none; it holds over any program.
-/
import Derived.Test.YtagmodjadmecdaaPMem
namespace Go.Proofs.Ytagmodjadmecdaa
open Go Go.RowKit
theorem and1_u8 : ∀ n : Fin 256, bits BinOp.and IntKind.u8 (n.val : Int) 1 = (n.val : Int) % 2 := by decide +kernel
section
variable {rd : Option Nat} {P : Program} {ops : Array Oper} {Q : Exit → Act → World → Prop} {N : Nat} {ds : List Deferred} {rest : List Oper} {L : Slots} {w : World}
variable {d : Nat} {ty : TypeId} {pos : String} {aft : Array Edge} {g : Option (Nat × Bool)}
theorem t_and8 {xt yt : TypeId} {x y : Operand} {m : Int} (hg : grd ops L g = true) (hN : Nat.blt d N = true) (hx : ev L x = some (.int .u8 m)) (hy : ev L y = some (.int .u8 1)) (h0 : 0 ≤ m) (h1 : m ≤ 255)
    (h : WL rd P ops Q N ds rest ((d, .int .u8 (m % 2)) :: L) w) : WL rd P ops Q N ds (⟨some d, .binOp .and xt x y yt, ty, pos, aft, g⟩ :: rest) L w :=
  WL.value hg rfl hN (fun a ha => by
    have e : bits BinOp.and IntKind.u8 m 1 = m % 2 := by
      have := and1_u8 ⟨m.toNat, by omega⟩
      rwa [show ((⟨m.toNat, by omega⟩ : Fin 256).val : Int) = m from Int.toNat_of_nonneg h0] at this
    simp [execOp, ha.ev hx, ha.ev hy, eqGuard, binOp, Op.intBits]
    exact e) h
theorem t_shr8a {xt yt : TypeId} {x y : Operand} {k' : IntKind} {m : Int} (hg : grd ops L g = true) (hN : Nat.blt d N = true) (hx : ev L x = some (.int .u8 m)) (hy : ev L y = some (.int k' 0)) (h0 : 0 ≤ m)
    (h : WL rd P ops Q N ds rest ((d, .int .u8 m) :: L) w) : WL rd P ops Q N ds (⟨some d, .binOp .shr xt x y yt, ty, pos, aft, g⟩ :: rest) L w :=
  WL.value hg rfl hN (fun a ha => by
    have e : m.fdiv 1 = m := by rw [Int.fdiv_eq_ediv_of_nonneg m (by decide), Int.ediv_one]
    simp [execOp, ha.ev hx, ha.ev hy, eqGuard, binOp, Op.shift, IntKind.bits, e]) h
theorem t_shr8b {xt yt : TypeId} {x y : Operand} {k' : IntKind} {m : Int} (hg : grd ops L g = true) (hN : Nat.blt d N = true) (hx : ev L x = some (.int .u8 m)) (hy : ev L y = some (.int k' 1)) (h0 : 0 ≤ m)
    (h : WL rd P ops Q N ds rest ((d, .int .u8 (m / 2)) :: L) w) : WL rd P ops Q N ds (⟨some d, .binOp .shr xt x y yt, ty, pos, aft, g⟩ :: rest) L w :=
  WL.value hg rfl hN (fun a ha => by
    have e : m.fdiv 2 = m / 2 := Int.fdiv_eq_ediv_of_nonneg m (by decide)
    simp [execOp, ha.ev hx, ha.ev hy, eqGuard, binOp, Op.shift, IntKind.bits, e]) h
end
end Go.Proofs.Ytagmodjadmecdaa
