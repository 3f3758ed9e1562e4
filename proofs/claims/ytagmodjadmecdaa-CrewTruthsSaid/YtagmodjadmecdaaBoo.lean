/-
  Arrays of truth values. Conditions: none; it holds over any program.
-/
import Derived.Test.YtagmodjadmecdaaApp
namespace Go.Proofs.Ytagmodjadmecdaa
open Go Go.RowKit
def encB (b : Bool) : List Value := [.bool b]
theorem SlB.own {w : World} {b : Nat} {t : TypeId} {xs : List Bool} (h : Blk w b t (xs.map Value.bool)) : Sl encB 1 w (some ⟨b, 0, none⟩) b 0 xs :=
  ⟨fun _ => rfl, fun _ => h.lt, fun i hi j v hv => by
    cases j with
    | zero =>
      rw [nth_eq hi] at hv
      simp [encB] at hv
      subst hv
      exact h.get (off := 0 + i * 1 + 0) (by simp [hi])
    | succ j => simp [encB] at hv⟩
section
variable {rd : Option Nat} {P : Program} {ops : Array Oper} {Q : Exit → Act → World → Prop} {N : Nat} {ds : List Deferred} {rest : List Oper} {L : Slots} {w : World}
variable {d : Nat} {ty : TypeId} {pos : String} {aft : Array Edge} {g : Option (Nat × Bool)}
theorem t_storeB {t u : TypeId} {x y : Operand} {b : Nat} {ls : List Bool} {v : Bool} (i : Nat) (hs : ∀ w, (sizeOf u).run P w = .ok 1 w) (hg : grd ops L g = true)
    (hx : ev L x = some (.pointer (some ⟨b, 0 + i * 1, none⟩))) (hy : ev L y = some (.bool v)) (hb : Blk w b t (ls.map Value.bool)) (hl : i < ls.length)
    (h : ∀ w', w'.heap.size = w.heap.size → Blk w' b t ((ls.set i v).map Value.bool) → Upd (· = b) w w' → WL rd P ops Q N ds rest L w') :
    WL rd P ops Q N ds (⟨none, .store u x y, ty, pos, aft, g⟩ :: rest) L w := by
  refine t_store (vs := [.bool v]) hs hg hx hy hb rfl rfl (by simp; omega) (by simp [Value.oneCell']) (fun w' h1 h2 h3 => h w' h1 ?_ h3)
  have : lay (ls.map Value.bool) (0 + i * 1) [.bool v] = (ls.set i v).map Value.bool := by
    simp [lay, List.map_set]
  rwa [this] at h2
end
end Go.Proofs.Ytagmodjadmecdaa
