/-
  Steps that only make memory and draw, told exactly: for comparisons that are handed to the library's sort. Conditions: none; they hold over any program.
-/
import Derived.Test.YtagmodjadmecdaaGreatHSeq
namespace Go.Proofs.YtagmodjadmecdaaGreat
open Go Go.RowKit

def Gr (w w' : World) : Prop := w'.os = w.os ∧ w'.tape = w.tape ∧ w'.output = w.output ∧ w.drawn ≤ w'.drawn ∧ ∃ os : Array Obj, w'.heap = w.heap ++ os
theorem Gr.refl (w : World) : Gr w w := ⟨rfl, rfl, rfl, Nat.le_refl _, #[], by simp⟩
theorem Gr.trans {a b c : World} (h : Gr a b) (k : Gr b c) : Gr a c := by
  obtain ⟨h1, h2, h3, h4, x, h5⟩ := h
  obtain ⟨k1, k2, k3, k4, y, k5⟩ := k
  exact ⟨k1.trans h1, k2.trans h2, k3.trans h3, Nat.le_trans h4 k4, x ++ y, by rw [k5, h5, Array.append_assoc]⟩
theorem Gr.alloc (w : World) (o : Obj) : Gr w (w.alloc o) := ⟨rfl, rfl, rfl, Nat.le_refl _, #[o], by show w.heap.push o = _; simp⟩
theorem Gr.drew (w : World) : Gr w w.drew := ⟨rfl, rfl, rfl, Nat.le_succ _, #[], by show w.heap = _; simp⟩

section
variable {P : Program} {ops : Array Oper} {Q : Exit → Act → World → Prop} {N : Nat} {ds : List Deferred} {rest : List Oper} {L : Slots} {w : World} {rd : Option Nat} {d : Nat} {ty : TypeId} {pos : String} {aft : Array Edge} {g : Option (Nat × Bool)}
theorem t_boxG {e : TypeId} {x : Operand} {v : Value} {cs : List Value} (hg : grd ops L g = true) (hN : Nat.blt d N = true) (hx : ev L x = some v) (hc : v.cells = cs.toArray)
    (h : ∀ b w', b = w.heap.size → w'.heap.size = w.heap.size + 1 → Blk w' b e cs → Ext w w' → Gr w w' → WL rd P ops Q N ds rest ((d, .pointer (some ⟨b, 0, none⟩)) :: L) w') :
    WL rd P ops Q N ds (⟨some d, .box e x, ty, pos, aft, g⟩ :: rest) L w :=
  WL.value (w' := w.alloc (.cells cs.toArray e)) hg rfl hN (fun a hk => by simp [execOp, hk.ev hx, Instr.box, newVar, newRow, newObj, Sem.run, hc]) (h _ _ rfl (by simp) (Blk.new _ _ _) (Upd.alloc _ _) (Gr.alloc _ _))
theorem t_bsliceG {t e : TypeId} {n : Nat} {parts : Array (Nat × Operand)} {ps : List (Nat × Value)} {cs : List Value} (hg : grd ops L g = true) (hN : Nat.blt d N = true)
    (hp : evs L (parts.toList.map (·.2)) = some (ps.map (·.2)) ∧ parts.toList.map (·.1) = ps.map (·.1))
    (hr : ∀ w, (Instr.buildSlice t n ps.toArray).run P w = .ok (.slice (some ⟨w.heap.size, 0, none⟩) n n) (w.alloc (.cells cs.toArray e)))
    (h : ∀ b w', b = w.heap.size → w'.heap.size = w.heap.size + 1 → Blk w' b e cs → Ext w w' → Gr w w' → WL rd P ops Q N ds rest ((d, .slice (some ⟨b, 0, none⟩) n n) :: L) w') :
    WL rd P ops Q N ds (⟨some d, .buildSlice t n parts, ty, pos, aft, g⟩ :: rest) L w :=
  WL.value hg rfl hN (fun a hk => by
    have e : parts.map (fun (i, x) => (i, a.eval x)) = ps.toArray := parts_ev hk hp.1 hp.2
    simp only [execOp]
    rw [e]
    simp [hr]) (h _ _ rfl (by simp) (Blk.new _ _ _) (Upd.alloc _ _) (Gr.alloc _ _))
theorem c_drawnMG {id : Nat} {L0 : Slots} {l : List Oper} (hm : P.follows .mixedOrders = true) (T : Nat → Prop) (t : OT) (hc : (l.all plainB && t.ok l (List.range l.length) []) = true)
    (h : ∀ w1, Ext w w1 → Gr w w1 → SC rd P l.toArray Q N ds w1 (SW w1.heap.size T) (OX.of l t) L0 w1) : WC rd P Q N ds (.region id l.toArray true) L0 w := by
  simp only [Bool.and_eq_true] at hc
  obtain ⟨h1, h2⟩ := hc
  intro a ha
  refine wpIn_region_any hm (wAny.any ((SC.run (S := SW w.drew.heap.size T) (w1 := w.drew) ?_ ?_ t (List.range l.length) [] _ a _ L0 _ (by simp) (fun j hj => List.mem_range.1 hj) (fun j hj => ?_) h2 (by simp) (Upd.refl _ _) ha (h w.drew (Upd.drew _) (Gr.drew _))).1 rfl))
  · intro j o cs b ho he
    have := List.all_eq_true.1 h1 o (List.mem_of_getElem? (by simpa using ho))
    simp [plainB, he] at this
  · intro j o c ho he
    have := List.all_eq_true.1 h1 o (List.mem_of_getElem? (by simpa using ho))
    simp [plainB, he] at this
  · rw [Array.getD_eq_getD_getElem?]
    simp [hj]
end
end Go.Proofs.YtagmodjadmecdaaGreat
