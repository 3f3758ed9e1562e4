/-
  A region in any order whose operations turn nothing: it may be walked in the order of its text. Conditions: none; it holds over any program.
-/
import Derived.Test.YtagmodjadmecdaaGreatHAcc
import Derived.Test.YtagmodjadmecdaaGreatHEq
import Derived.Test.YtagmodjadmecdaaGreatHDraw
import Derived.Test.YtagmodjadmecdaaGreatHIdv
namespace Go.Proofs.YtagmodjadmecdaaGreat
open Go Go.RowKit

def tmpOf : Operand → List Nat
  | .tmp t => [t]
  | _ => []
def gdSlot (ops : Array Oper) : Option (Nat × Bool) → List Nat
  | none => []
  | some (j, _) => match (ops[j]?).bind (·.dst) with
    | none => []
    | some d => [d]
def rds (ops : Array Oper) (o : Oper) : List Nat := o.op.operands.toList.flatMap tmpOf ++ gdSlot ops o.guard
def Ag (S : List Nat) (L L' : Slots) : Prop := ∀ s ∈ S, ∀ v, look s L = some v → look s L' = some v
theorem Ag.ev {S : List Nat} {L L' : Slots} {x : Operand} {v : Value} (h : Ag S L L') (hs : ∀ t ∈ tmpOf x, t ∈ S) (he : ev L x = some v) : ev L' x = some v := by
  cases x with
  | tmp t => exact h t (hs t (by simp [tmpOf])) v he
  | const u => exact he
  | global u => exact he
  | func u => exact he
theorem Ag.evs {S : List Nat} {L L' : Slots} (h : Ag S L L') : ∀ {xs : List Operand} {vs : List Value}, (∀ x ∈ xs, ∀ t ∈ tmpOf x, t ∈ S) → evs L xs = some vs → evs L' xs = some vs
  | [], _, _, he => he
  | x :: r, vs, hs, he => by
    simp only [Go.Proofs.YtagmodjadmecdaaGreat.evs] at he ⊢
    cases h1 : Go.Proofs.YtagmodjadmecdaaGreat.ev L x with
    | none => simp [h1] at he
    | some v =>
      cases h2 : Go.Proofs.YtagmodjadmecdaaGreat.evs L r with
      | none => simp [h1, h2] at he
      | some ws =>
        rw [h1, h2] at he
        rw [h.ev (hs x (by simp)) h1, Ag.evs h (fun y hy => hs y (List.mem_cons_of_mem _ hy)) h2]
        exact he
theorem Ag.grd {ops : Array Oper} {o : Oper} {L L' : Slots} (h : Ag (rds ops o) L L') (hg : grd ops L o.guard = true) : grd ops L' o.guard = true := by
  have hm : ∀ s ∈ gdSlot ops o.guard, s ∈ rds ops o := fun s hs => List.mem_append_right _ hs
  cases hgd : o.guard with
  | none => rfl
  | some p =>
    obtain ⟨j, b⟩ := p
    rw [hgd] at hg hm
    simp only [Go.Proofs.YtagmodjadmecdaaGreat.grd] at hg ⊢
    cases hd : (ops[j]?).bind (·.dst) with
    | none => rw [hd] at hg; cases hg
    | some d =>
      rw [hd] at hg
      simp only [] at hg ⊢
      cases hl : look d L with
      | none => rw [hl] at hg; cases hg
      | some v =>
        rw [hl] at hg
        rw [h d (hm d (by simp [gdSlot, hd])) v hl]
        exact hg
theorem Ag.ngrd {ops : Array Oper} {o : Oper} {L L' : Slots} (h : Ag (rds ops o) L L') (hg : ngrd ops L o.guard = true) : ngrd ops L' o.guard = true := by
  have hm : ∀ s ∈ gdSlot ops o.guard, s ∈ rds ops o := fun s hs => List.mem_append_right _ hs
  cases hgd : o.guard with
  | none => rw [hgd] at hg; cases hg
  | some p =>
    obtain ⟨j, b⟩ := p
    rw [hgd] at hg hm
    simp only [Go.Proofs.YtagmodjadmecdaaGreat.ngrd] at hg ⊢
    cases hd : (ops[j]?).bind (·.dst) with
    | none => rw [hd] at hg; cases hg
    | some d =>
      rw [hd] at hg
      simp only [] at hg ⊢
      cases hl : look d L with
      | none => rw [hl] at hg; cases hg
      | some v =>
        rw [hl] at hg
        rw [h d (hm d (by simp [gdSlot, hd])) v hl]
        exact hg

def P1 (rd : Option Nat) (P : Program) (ops : Array Oper) (N : Nat) (ds : List Deferred) (w : World) (o : Oper) (d : Nat) (v : Value) (L : Slots) : Prop :=
  ∀ w' L' Q', Ext w w' → Ag (rds ops o) L L' → (∀ w'', Ext w' w'' → WL rd P ops Q' N ds [] ((d, v) :: L') w'') → WL rd P ops Q' N ds [o] L' w'
def PC (rd : Option Nat) (P : Program) (ops : Array Oper) (Q : Exit → Act → World → Prop) (N : Nat) (ds : List Deferred) (w : World) (tail : List Oper) : List Oper → Slots → Prop
  | [], L => ∀ w', Ext w w' → WL rd P ops Q N ds tail L w'
  | o :: r, L => ∃ d v, o.dst = some d ∧ P1 rd P ops N ds w o d v L ∧ PC rd P ops Q N ds w tail r ((d, v) :: L)
section
variable {rd : Option Nat} {P : Program} {ops : Array Oper} {Q : Exit → Act → World → Prop} {N : Nat} {ds : List Deferred} {tail rest : List Oper} {L : Slots} {w : World}
variable {d : Nat} {ty : TypeId} {pos : String} {aft : Array Edge} {g : Option (Nat × Bool)}

theorem WL.look_eq {l : List Oper} {L1 L2 : Slots} (e : ∀ k, look k L2 = look k L1) (h : WL rd P ops Q N ds l L1 w) : WL rd P ops Q N ds l L2 w := fun a ha => h a ⟨ha.size, ha.defers, fun k v hk => ha.get k v (by rw [e]; exact hk)⟩
theorem PC.look_eq : ∀ {l : List Oper} {L1 L2 : Slots}, (∀ k, look k L2 = look k L1) → PC rd P ops Q N ds w tail l L1 → PC rd P ops Q N ds w tail l L2
  | [], _, _, e, h => fun w' u => (h w' u).look_eq e
  | o :: r, L1, L2, e, h => by
    obtain ⟨d, v, h1, h2, h3⟩ := h
    exact ⟨d, v, h1, fun w' L' Q' u a k => h2 w' L' Q' u (fun s hs x hx => a s hs x (by rw [e]; exact hx)) k, PC.look_eq (fun k => by simp only [look]; cases Nat.beq k d <;> simp [e]) h3⟩
def accL : List Oper → List Value → Slots → Slots
  | o :: r, v :: vs, L => match o.dst with
    | some d => accL r vs ((d, v) :: L)
    | none => accL r vs L
  | _, _, L => L
theorem PC.out : ∀ {r : List Oper} {L : Slots}, PC rd P ops Q N ds w tail r L → ∃ vs : List Value, vs.length = r.length ∧ (∀ i o, r[i]? = some o → ∃ d v, o.dst = some d ∧ vs[i]? = some v ∧ P1 rd P ops N ds w o d v (accL (r.take i) vs L)) ∧ ∀ w', Ext w w' → WL rd P ops Q N ds tail (accL r vs L) w'
  | [], L, h => ⟨[], rfl, fun i o ho => by simp at ho, h⟩
  | o :: r, L, h => by
    obtain ⟨d, v, h1, h2, h3⟩ := h
    obtain ⟨vs, e, ha, hb⟩ := PC.out h3
    refine ⟨v :: vs, by simp [e], fun i o' ho => ?_, fun w' u => ?_⟩
    · cases i with
      | zero =>
        simp at ho
        subst ho
        exact ⟨d, v, h1, rfl, h2⟩
      | succ i =>
        obtain ⟨d', v', a1, a2, a3⟩ := ha i o' (by simpa using ho)
        refine ⟨d', v', a1, by simpa using a2, ?_⟩
        rw [List.take_succ_cons]
        simp only [accL, h1]
        exact a3
    · simp only [accL, h1]
      exact hb w' u
theorem Fr.of {dep : Nat → List Nat} {V : Plan} {L0 : Slots} {ρ : Nat → Value} {i : Nat} : ∀ {F : Slots}, (∀ s v, (s, v) ∈ F → (∃ j u, memB j (dep i) = true ∧ V[j]? = some (some (s, u)) ∧ v = u.getD (ρ j)) ∨ (look s L0 = some v ∧ oldB dep i s 0 V = true)) → Fr dep V L0 ρ i F
  | [], _ => trivial
  | (s, v) :: r, h => ⟨h s v (by simp), Fr.of (fun s v hm => h s v (List.mem_cons_of_mem _ hm))⟩
end
end Go.Proofs.YtagmodjadmecdaaGreat
