/-
  Part 1 of the proof: contracts and plain laws. Conditions: none.
-/
import Derived.ArgAppend
import Derived.Lib.AppendZerosOnto
import Derived.Lib.Overlaps
import Derived.Laws.Externs
import Derived.Lib.SliceRun
import Derived.LoopNIn
import Derived.Test.YtagmodjadmecdaaGreatJK0
namespace Go.Proofs.YtagmodjadmecdaaGreat
open Go Go.RowKit

def tmpOf : Operand → List Nat
  | .tmp t => [t]
  | _ => []
def gdSlot (ops : Array Oper) : Option (Nat × Bool) → List Nat
  | none => []
  | some (j, _) => match (ops[j]?).bind (·.dst) with
    | none => []
    | some d => [d]
def rds (ops : Array Oper) (o : Oper) : List Nat := o.op.operands.toList.flatMap tmpOf ++ gdSlot ops o.guard
def Ag (S : List Nat) (L L' : Slots) : Prop := ∀ s ∈ S, ∀ v, look s L = some v → look s L' = some v
theorem Ag.ev {S : List Nat} {L L' : Slots} {x : Operand} {v : Value} (h : Ag S L L') (hs : ∀ t ∈ tmpOf x, t ∈ S) (he : ev L x = some v) : ev L' x = some v := by
  cases x with
  | tmp t => exact h t (hs t (by simp [tmpOf])) v he
  | const u => exact he
  | global u => exact he
  | func u => exact he
theorem Ag.evs {S : List Nat} {L L' : Slots} (h : Ag S L L') : ∀ {xs : List Operand} {vs : List Value}, (∀ x ∈ xs, ∀ t ∈ tmpOf x, t ∈ S) → evs L xs = some vs → evs L' xs = some vs
  | [], _, _, he => he
  | x :: r, vs, hs, he => by
    simp only [Go.Proofs.YtagmodjadmecdaaGreat.evs] at he ⊢
    cases h1 : Go.Proofs.YtagmodjadmecdaaGreat.ev L x with
    | none => simp [h1] at he
    | some v =>
      cases h2 : Go.Proofs.YtagmodjadmecdaaGreat.evs L r with
      | none => simp [h1, h2] at he
      | some ws =>
        rw [h1, h2] at he
        rw [h.ev (hs x (by simp)) h1, Ag.evs h (fun y hy => hs y (List.mem_cons_of_mem _ hy)) h2]
        exact he
theorem Ag.grd {ops : Array Oper} {o : Oper} {L L' : Slots} (h : Ag (rds ops o) L L') (hg : grd ops L o.guard = true) : grd ops L' o.guard = true := by
  have hm : ∀ s ∈ gdSlot ops o.guard, s ∈ rds ops o := fun s hs => List.mem_append_right _ hs
  cases hgd : o.guard with
  | none => rfl
  | some p =>
    obtain ⟨j, b⟩ := p
    rw [hgd] at hg hm
    simp only [Go.Proofs.YtagmodjadmecdaaGreat.grd] at hg ⊢
    cases hd : (ops[j]?).bind (·.dst) with
    | none => rw [hd] at hg; cases hg
    | some d =>
      rw [hd] at hg
      simp only [] at hg ⊢
      cases hl : look d L with
      | none => rw [hl] at hg; cases hg
      | some v =>
        rw [hl] at hg
        rw [h d (hm d (by simp [gdSlot, hd])) v hl]
        exact hg
theorem Ag.ngrd {ops : Array Oper} {o : Oper} {L L' : Slots} (h : Ag (rds ops o) L L') (hg : ngrd ops L o.guard = true) : ngrd ops L' o.guard = true := by
  have hm : ∀ s ∈ gdSlot ops o.guard, s ∈ rds ops o := fun s hs => List.mem_append_right _ hs
  cases hgd : o.guard with
  | none => rw [hgd] at hg; cases hg
  | some p =>
    obtain ⟨j, b⟩ := p
    rw [hgd] at hg hm
    simp only [Go.Proofs.YtagmodjadmecdaaGreat.ngrd] at hg ⊢
    cases hd : (ops[j]?).bind (·.dst) with
    | none => rw [hd] at hg; cases hg
    | some d =>
      rw [hd] at hg
      simp only [] at hg ⊢
      cases hl : look d L with
      | none => rw [hl] at hg; cases hg
      | some v =>
        rw [hl] at hg
        rw [h d (hm d (by simp [gdSlot, hd])) v hl]
        exact hg

def P1 (rd : Option Nat) (P : Program) (ops : Array Oper) (N : Nat) (ds : List Deferred) (w : World) (o : Oper) (d : Nat) (v : Value) (L : Slots) : Prop :=
  ∀ w' L' Q', Ext w w' → Ag (rds ops o) L L' → (∀ w'', Ext w' w'' → WL rd P ops Q' N ds [] ((d, v) :: L') w'') → WL rd P ops Q' N ds [o] L' w'
def PC (rd : Option Nat) (P : Program) (ops : Array Oper) (Q : Exit → Act → World → Prop) (N : Nat) (ds : List Deferred) (w : World) (tail : List Oper) : List Oper → Slots → Prop
  | [], L => ∀ w', Ext w w' → WL rd P ops Q N ds tail L w'
  | o :: r, L => ∃ d v, o.dst = some d ∧ P1 rd P ops N ds w o d v L ∧ PC rd P ops Q N ds w tail r ((d, v) :: L)
section
variable {rd : Option Nat} {P : Program} {ops : Array Oper} {Q : Exit → Act → World → Prop} {N : Nat} {ds : List Deferred} {tail rest : List Oper} {L : Slots} {w : World}
variable {d : Nat} {ty : TypeId} {pos : String} {aft : Array Edge} {g : Option (Nat × Bool)}

theorem WL.look_eq {l : List Oper} {L1 L2 : Slots} (e : ∀ k, look k L2 = look k L1) (h : WL rd P ops Q N ds l L1 w) : WL rd P ops Q N ds l L2 w := fun a ha => h a ⟨ha.size, ha.defers, fun k v hk => ha.get k v (by rw [e]; exact hk)⟩
theorem PC.look_eq : ∀ {l : List Oper} {L1 L2 : Slots}, (∀ k, look k L2 = look k L1) → PC rd P ops Q N ds w tail l L1 → PC rd P ops Q N ds w tail l L2
  | [], _, _, e, h => fun w' u => (h w' u).look_eq e
  | o :: r, L1, L2, e, h => by
    obtain ⟨d, v, h1, h2, h3⟩ := h
    exact ⟨d, v, h1, fun w' L' Q' u a k => h2 w' L' Q' u (fun s hs x hx => a s hs x (by rw [e]; exact hx)) k, PC.look_eq (fun k => by simp only [look]; cases Nat.beq k d <;> simp [e]) h3⟩
def accL : List Oper → List Value → Slots → Slots
  | o :: r, v :: vs, L => match o.dst with
    | some d => accL r vs ((d, v) :: L)
    | none => accL r vs L
  | _, _, L => L
theorem PC.out : ∀ {r : List Oper} {L : Slots}, PC rd P ops Q N ds w tail r L → ∃ vs : List Value, vs.length = r.length ∧ (∀ i o, r[i]? = some o → ∃ d v, o.dst = some d ∧ vs[i]? = some v ∧ P1 rd P ops N ds w o d v (accL (r.take i) vs L)) ∧ ∀ w', Ext w w' → WL rd P ops Q N ds tail (accL r vs L) w'
  | [], L, h => ⟨[], rfl, fun i o ho => by simp at ho, h⟩
  | o :: r, L, h => by
    obtain ⟨d, v, h1, h2, h3⟩ := h
    obtain ⟨vs, e, ha, hb⟩ := PC.out h3
    refine ⟨v :: vs, by simp [e], fun i o' ho => ?_, fun w' u => ?_⟩
    · cases i with
      | zero =>
        simp at ho
        subst ho
        exact ⟨d, v, h1, rfl, h2⟩
      | succ i =>
        obtain ⟨d', v', a1, a2, a3⟩ := ha i o' (by simpa using ho)
        refine ⟨d', v', a1, by simpa using a2, ?_⟩
        rw [List.take_succ_cons]
        simp only [accL, h1]
        exact a3
    · simp only [accL, h1]
      exact hb w' u
theorem Fr.of {dep : Nat → List Nat} {V : Plan} {L0 : Slots} {ρ : Nat → Value} {i : Nat} : ∀ {F : Slots}, (∀ s v, (s, v) ∈ F → (∃ j u, memB j (dep i) = true ∧ V[j]? = some (some (s, u)) ∧ v = u.getD (ρ j)) ∨ (look s L0 = some v ∧ oldB dep i s 0 V = true)) → Fr dep V L0 ρ i F
  | [], _ => trivial
  | (s, v) :: r, h => ⟨h s v (by simp), Fr.of (fun s v hm => h s v (List.mem_cons_of_mem _ hm))⟩
end
end Go.Proofs.YtagmodjadmecdaaGreat
namespace Go.Proofs.YtagmodjadmecdaaGreat
open Go Go.RowKit
section
variable {rd : Option Nat} {P : Program} {ops : Array Oper} {Q : Exit → Act → World → Prop} {N : Nat} {ds : List Deferred} {S : Nat → Prop} {w1 : World}

def wAny (rd : Option Nat) (P : Program) (S : Nat → Prop) (ops : Array Oper) (Q : Exit → Act → World → Prop) : Nat → Array Bool → Act → World → Prop
  | 0, listed, a, w => Region.ready .any ops listed = [] ∧ Q .normal a w
  | fuel + 1, listed, a, w => (Region.ready .any ops listed = [] → Q .normal a w) ∧
    ∀ i ∈ Region.ready .any ops listed, wpOpIn (rnd rd) 3 P ops (fun _ _ _ => False) i (fun a' w' => Upd S w w' ∧ wAny rd P S ops Q fuel (listed.setIfInBounds i true) a' w') a w
theorem wAny.any : ∀ {fuel : Nat} {listed : Array Bool} {a : Act} {w : World}, wAny rd P S ops Q fuel listed a w → wpAnyIn (rnd rd) 3 P .any ops Q fuel listed a w
  | 0, _, _, _, h => h
  | fuel + 1, listed, a, w, h => ⟨h.1, fun i hi => by
    have h2 := h.2 i hi
    unfold wpOpIn at h2 ⊢
    split
    · rename_i ho
      rw [ho] at h2
      exact wAny.any h2.2
    · rename_i o ho
      rw [ho] at h2
      simp only [] at h2
      split
      · rename_i hw
        rw [if_pos hw] at h2
        exact Oper.wpIn_into (fun a' w' hk => wAny.any hk.2) (fun _ _ _ hq => hq.elim) h2
      · rename_i hw
        rw [if_neg hw] at h2
        exact ⟨h2.1, wAny.any h2.2.2⟩⟩
def YW (P : Program) (S : Nat → Prop) (w1 : World) (ops : Array Oper) (o : Oper) (v : Value) (a : Act) : Prop :=
  (Region.wanted o (yielded ops a.tmps) = true ∧ ∀ w, Upd S w1 w → (execOp a.eval o).run P w = .ok (.value v) w) ∨ (Region.wanted o (yielded ops a.tmps) = false ∧ v = undef)
theorem YW.wpOpIn {i : Nat} {o : Oper} {v : Value} {a : Act} {w : World} {K : Act → World → Prop} (hi : ops[i]? = some o) (hu : Upd S w1 w) (hy : YW P S w1 ops o v a) (h : K (a.put o.dst v) w) : wpOpIn (rnd rd) 3 P ops (fun _ _ _ => False) i K a w := by
  unfold Go.wpOpIn
  simp only [hi]
  rcases hy with ⟨hw, hv⟩ | ⟨hw, rfl⟩
  · rw [if_pos hw]
    unfold Oper.wpIn
    refine ⟨fun f _ => rnd_fn _ f, ?_⟩
    rw [semAt_of_ok (by simp) (hv w hu), Oper.uponIn_value]
    exact h
  · rw [if_neg (by rw [hw]; decide)]
    exact ⟨fun f _ => rnd_fn _ f, h⟩
theorem YW.put {oi : Oper} {v u : Value} {a : Act} {dst : Option Tmp} (hy : YW P S w1 ops oi v a) (hs : ∀ cs b, oi.op ≠ .select cs b) (h3 : ∀ d, dst = some d → d ∉ oi.looksAt ops) : YW P S w1 ops oi v (a.put dst u) := by
  unfold YW at *
  rw [execOp_put (ops := ops) oi hs a dst u h3, wanted_put oi a dst u h3]
  exact hy
theorem wpOpIn_putW {j : Nat} {oi oj : Oper} {v : Value} {w : World} (hj : ops[j]? = some oj) (hap : oi.apart ops oj = true) (hsi : ∀ cs b, oi.op ≠ .select cs b) (hsj : ∀ cs b, oj.op ≠ .select cs b) (hdj : ∀ c, oj.op ≠ .defer c)
    {K : Act → World → Prop} {a : Act} (hy : YW P S w1 ops oi v a) (h : wpOpIn (rnd rd) 3 P ops (fun _ _ _ => False) j K (a.put oi.dst v) w) :
    wpOpIn (rnd rd) 3 P ops (fun _ _ _ => False) j (fun a' w' => YW P S w1 ops oi v a' ∧ K (a'.put oi.dst v) w') a w := by
  obtain ⟨h1, h2, h3⟩ := Oper.apart_spec hap
  have keep : ∀ u, YW P S w1 ops oi v (a.put oj.dst u) := fun u => hy.put hsi h3
  unfold wpOpIn at *
  simp only [hj] at *
  rw [wanted_put oj a oi.dst v h1] at h
  split
  · rename_i hw
    simp only [hw, if_true] at h
    unfold Oper.wpIn at *
    refine ⟨fun f _ => rnd_fn _ f, ?_⟩
    have h := h.2
    rw [semAt_rnd rd _ oj hdj, execOp_put (ops := ops) oj hsj a oi.dst v h1] at h
    rw [semAt_rnd rd _ oj hdj]
    generalize (execOp a.eval oj).run P w = r at *
    cases r with
    | ok x w' =>
      cases x <;> simp only [Oper.uponIn] at h ⊢
      case value u => exact ⟨keep u, by rw [← Act.put_comm a v u h2]; exact h⟩
      case skip => exact ⟨keep _, by rw [← Act.put_comm a v undef h2]; exact h⟩
      case defer d =>
        refine ⟨(show YW P S w1 ops oi v { a with defers := d :: a.defers } from hy).put hsi h3, ?_⟩
        rw [← Act.put_comm _ v undef h2, ← Act.put_defers]
        exact h
      case enter f args =>
        refine ⟨h.1, CallsIn.mono h.2 fun e w'' he => ?_⟩
        cases e with
        | returned u => exact ⟨keep u, by rw [← Act.put_comm a v u h2]; exact he⟩
        | panicked c => exact he.elim
        | outgrown => exact he
      case row row args => exact ⟨h.1, RowsIn.mono h.2 fun u w'' he => ⟨keep u, by rw [← Act.put_comm a v u h2]; exact he⟩⟩
      case round l f tmps assign body =>
        refine ⟨h.1, RoundIn.mono h.2 fun e w'' he => ?_⟩
        cases e with
        | returned u => exact ⟨keep u, by rw [← Act.put_comm a v u h2]; exact he⟩
        | panicked c => exact he.elim
        | outgrown => exact he
    | halt x w' => cases x <;> simp only [Oper.uponIn] at h
  · rename_i hw
    simp only [hw] at h
    exact ⟨fun f _ => rnd_fn _ f, keep _, by rw [← Act.put_comm a v undef h2]; exact h.2⟩
theorem wAny_first {i : Nat} {oi : Oper} {v : Value} (hi : ops[i]? = some oi) (hsel : ∀ (j : Nat) (o : Oper) cs b, ops[j]? = some o → o.op ≠ .select cs b) (hdef : ∀ (j : Nat) (o : Oper) c, ops[j]? = some o → o.op ≠ .defer c) :
    ∀ (fuel : Nat) (listed : Array Bool) (a : Act) (w : World),
      (∀ j oj, ops[j]? = some oj → j ≠ i → listed.getD j true = false → (∀ e ∈ oj.after, Region.binds .any e = true → e.on ≠ i) → oi.apart ops oj = true) →
      i ∈ Region.ready .any ops listed → Upd S w1 w → YW P S w1 ops oi v a → wAny rd P S ops Q fuel (listed.setIfInBounds i true) (a.put oi.dst v) w → wAny rd P S ops Q (fuel + 1) listed a w := by
  intro fuel
  induction fuel with
  | zero =>
    intro listed a w _ hr hu hy H
    refine ⟨fun h => (by rw [h] at hr; cases hr), fun j hj => ?_⟩
    by_cases hji : j = i
    · subst hji; exact hy.wpOpIn hi hu ⟨Upd.refl _ _, H⟩
    · have := ready_mono hj hji
      rw [H.1] at this
      cases this
  | succ fuel ih =>
    intro listed a w hfree hr hu hy H
    refine ⟨fun h => (by rw [h] at hr; cases hr), fun j hj => ?_⟩
    by_cases hji : j = i
    · subst hji; exact hy.wpOpIn hi hu ⟨Upd.refl _ _, H⟩
    · have h1 := H.2 j (ready_mono hj hji)
      obtain ⟨hjun, oj, hoj, hall⟩ := mem_ready.1 hj
      have hnot : ∀ e ∈ oj.after, Region.binds .any e = true → e.on ≠ i := fun e he hb heq => by
        have h1 := hall e he hb
        have h0 := (mem_ready.1 hr).1
        rw [heq] at h1
        rcases Nat.lt_or_ge i listed.size with h' | h'
        · simp [h'] at h0 h1; rw [h0] at h1; cases h1
        · simp [Array.getElem?_eq_none h'] at h1
      have h2 := wpOpIn_putW hoj (hfree j oj hoj hji hjun hnot) (fun cs b => hsel i oi cs b hi) (fun cs b => hsel j oj cs b hoj) (fun c => hdef j oj c hoj) hy h1
      have hfree' : ∀ k ok, ops[k]? = some ok → k ≠ i → (listed.setIfInBounds j true).getD k true = false →
          (∀ e ∈ ok.after, Region.binds .any e = true → e.on ≠ i) → oi.apart ops ok = true := fun k ok hk hki hun hno => by
        refine hfree k ok hk hki ?_ hno
        by_cases hjk : j = k
        · subst hjk; exact hjun
        · rw [getD_set_ne true hjk] at hun; exact hun
      refine wpOpIn_mono (fun a' w' h3 => ⟨h3.2.1, ih (listed.setIfInBounds j true) a' w' hfree' (ready_mono hr (Ne.symm hji)) (hu.trans h3.2.1) h3.1 ?_⟩) h2
      rw [Array.setIfInBounds_comm _ _ hji]
      exact h3.2.2

/-! ### The walk -/
inductive OX where
  | done
  | stop
  | look (o : Oper) (r : OX)
  | act (o : Oper) (r alt : OX)
inductive OT where
  | done
  | stop
  | look (i : Nat) (r : OT)
  | act (i : Nat) (r alt : OT)
def OX.of (l : List Oper) : OT → OX
  | .done => .done
  | .stop => .stop
  | .look i r => match l[i]? with
    | some o => .look o (OX.of l r)
    | none => .stop
  | .act i r alt => match l[i]? with
    | some o => .act o (OX.of l r) (OX.of l alt)
    | none => .stop
def SC (rd : Option Nat) (P : Program) (ops : Array Oper) (Q : Exit → Act → World → Prop) (N : Nat) (ds : List Deferred) (w1 : World) (S : Nat → Prop) : OX → Slots → World → Prop
  | .done, L, w => QK (Q .normal) N ds L w
  | .stop, _, _ => True
  | .look o r, L, w => ∃ d v, o.dst = some d ∧ Nat.blt d N = true ∧ (∀ a, Kn N ds L a → YW P S w1 ops o v a) ∧ SC rd P ops Q N ds w1 S r ((d, v) :: L) w
  | .act o r alt, L, w => WL rd P ops (fun e a w' => e = .normal ∧ Upd S w w' ∧ ∃ L', Kn N ds L' a ∧ SC rd P ops Q N ds w1 S r L' w') N ds [o] L w ∧ SC rd P ops Q N ds w1 S alt L w
def del (i : Nat) : List Nat → List Nat
  | [] => []
  | k :: r => match Nat.beq k i with
    | true => del i r
    | false => k :: del i r
theorem mem_del {i k : Nat} : ∀ {R : List Nat}, k ∈ del i R ↔ k ∈ R ∧ k ≠ i
  | [] => by simp [del]
  | j :: r => by
    simp only [del]
    cases hb : Nat.beq j i with
    | true =>
      have e := Nat.eq_of_beq_eq_true hb
      subst e
      simp only [mem_del, List.mem_cons]
      exact ⟨fun h => ⟨.inr h.1, h.2⟩, fun h => ⟨h.1.resolve_left h.2, h.2⟩⟩
    | false =>
      have e := Nat.ne_of_beq_eq_false hb
      simp only [List.mem_cons, mem_del]
      exact ⟨fun h => h.elim (fun h => ⟨.inl h, h ▸ e⟩) (fun h => ⟨.inr h.1, h.2⟩), fun h => h.1.elim .inl (fun h1 => .inr ⟨h1, h.2⟩)⟩
theorem del_le {i : Nat} : ∀ {R : List Nat}, (del i R).length ≤ R.length
  | [] => Nat.le_refl _
  | j :: r => by
    simp only [del]
    cases Nat.beq j i with
    | true => exact Nat.le_succ_of_le del_le
    | false => exact Nat.succ_le_succ del_le
theorem del_lt {i : Nat} : ∀ {R : List Nat}, i ∈ R → (del i R).length < R.length
  | j :: r, h => by
    simp only [del]
    cases hb : Nat.beq j i with
    | true => exact Nat.lt_succ_of_le del_le
    | false =>
      have e := Nat.ne_of_beq_eq_false hb
      rcases List.mem_cons.1 h with h | h
      · exact absurd h.symm e
      · exact Nat.succ_lt_succ (del_lt h)
def disj (l : List Oper) (i : Nat) (R : List Nat) : Bool := (deps l.toArray i).all fun k => Nat.blt k l.length && !memB k R
def blkd (l : List Oper) (R : List Nat) (j : Nat) : Bool := (deps l.toArray j).any fun k => memB k R
def lookB (l : List Oper) (i : Nat) (R : List Nat) : Bool := match l[i]? with
  | none => false
  | some oi => (del i R).all fun j => memB i (deps l.toArray j) || (match l[j]? with | some oj => oi.apart l.toArray oj | none => false)
def OT.ok (l : List Oper) : OT → List Nat → List Nat → Bool
  | .done, R, H => R.isEmpty && H.isEmpty
  | .stop, R, H => !H.isEmpty && R.all fun j => memB j H || blkd l R j
  | .look i r, R, H => H.isEmpty && (memB i R && (disj l i R && (lookB l i R && OT.ok l r (del i R) [])))
  | .act i r alt, R, H => memB i R && (disj l i R && (OT.ok l r (del i R) [] && OT.ok l alt R (i :: H)))
def plainB (o : Oper) : Bool := match o.op with
  | .select .. => false
  | .defer _ => false
  | _ => true
theorem rdy_in {l : List Oper} {listed : Array Bool} {R : List Nat} (hs : listed.size = l.length) (hl : ∀ j, j < l.length → (listed.getD j true = false ↔ j ∈ R)) {j : Nat} (hj : j ∈ Region.ready .any l.toArray listed) : j < l.length ∧ j ∈ R ∧ blkd l R j ≠ true := by
  obtain ⟨h0, oj, hoj, hall⟩ := mem_ready.1 hj
  have hjl : j < l.length := by simpa using (Array.getElem?_eq_some_iff.1 hoj).1
  refine ⟨hjl, (hl j hjl).1 h0, fun h1 => ?_⟩
  obtain ⟨k, hkd, hkr⟩ := List.any_eq_true.1 h1
  unfold deps at hkd
  rw [hoj] at hkd
  obtain ⟨x, hx, rfl⟩ := List.mem_map.1 hkd
  obtain ⟨hx1, hx2⟩ := List.mem_filter.1 hx
  have h3 := hall x (Array.mem_toList_iff.1 hx1) hx2
  rcases Nat.lt_or_ge x.on l.length with h9 | h9
  · have h4 := (hl _ h9).2 (memB_iff.1 hkr)
    rw [Array.getD_eq_getD_getElem?] at h3 h4
    have hks : x.on < listed.size := by omega
    simp [hks] at h3 h4
    rw [h3] at h4; cases h4
  · rw [Array.getD_eq_getD_getElem?, Array.getElem?_eq_none (by omega)] at h3
    simp at h3
theorem rdy_of {l : List Oper} {listed : Array Bool} {R : List Nat} (hs : listed.size = l.length) (hl : ∀ j, j < l.length → (listed.getD j true = false ↔ j ∈ R)) {i : Nat} (hi : i < l.length) (hR : i ∈ R) (hd : disj l i R = true) : i ∈ Region.ready .any l.toArray listed := by
  obtain ⟨o, ho⟩ : ∃ o, l[i]? = some o := ⟨l[i], List.getElem?_eq_getElem hi⟩
  have hoA : l.toArray[i]? = some o := by simpa using ho
  refine mem_ready.2 ⟨(hl i hi).2 hR, o, hoA, fun e he hbd => ?_⟩
  have hm : e.on ∈ deps l.toArray i := by
    unfold deps
    rw [hoA]
    exact List.mem_map.2 ⟨e, List.mem_filter.2 ⟨Array.mem_toList_iff.2 he, hbd⟩, rfl⟩
  have h1 := List.all_eq_true.1 hd e.on hm
  simp only [Bool.and_eq_true, Bool.not_eq_true'] at h1
  have hk : e.on < l.length := by simpa using h1.1
  have h2 : listed.getD e.on true ≠ false := fun h2 => by
    have := memB_iff.2 ((hl _ hk).1 h2)
    rw [this] at h1; exact absurd h1.2 (by decide)
  rw [Array.getD_eq_getD_getElem?] at h2 ⊢
  have hks : e.on < listed.size := by omega
  simp [hks] at h2 ⊢
  exact h2
theorem hl_set {l : List Oper} {listed : Array Bool} {R : List Nat} (hs : listed.size = l.length) (hl : ∀ j, j < l.length → (listed.getD j true = false ↔ j ∈ R)) {i : Nat} (hi : i < l.length) : ∀ j, j < l.length → ((listed.setIfInBounds i true).getD j true = false ↔ j ∈ del i R) := fun j hj => by
  rw [mem_del]
  by_cases hji : j = i
  · subst hji
    rw [Array.getD_eq_getD_getElem?]
    simp [hs, hi]
  · rw [getD_set_ne true (fun e => hji e.symm), hl j hj]
    exact ⟨fun h => ⟨h, hji⟩, fun h => h.1⟩
theorem SC.run {l : List Oper} (hsel : ∀ (j : Nat) (o : Oper) cs b, l.toArray[j]? = some o → o.op ≠ .select cs b) (hdef : ∀ (j : Nat) (o : Oper) c, l.toArray[j]? = some o → o.op ≠ .defer c) :
    ∀ (t : OT) (R H : List Nat) (listed : Array Bool) (a : Act) (w : World) (L : Slots) (fuel : Nat), listed.size = l.length → (∀ j ∈ R, j < l.length) → (∀ j, j < l.length → (listed.getD j true = false ↔ j ∈ R)) → t.ok l R H = true → R.length ≤ fuel →
      Upd S w1 w → Kn N ds L a → SC rd P l.toArray Q N ds w1 S (OX.of l t) L w →
      (H = [] → wAny rd P S l.toArray Q fuel listed a w) ∧ ∀ f, fuel = f + 1 → ∀ j ∈ Region.ready .any l.toArray listed, j ∉ H → wpOpIn (rnd rd) 3 P l.toArray (fun _ _ _ => False) j (fun a' w' => Upd S w w' ∧ wAny rd P S l.toArray Q f (listed.setIfInBounds j true) a' w') a w
  | .done, R, H, listed, a, w, L, fuel, hs, hR, hl, hb, hf, hu, hk, h => by
    simp only [OT.ok, Bool.and_eq_true, List.isEmpty_iff] at hb
    obtain ⟨rfl, rfl⟩ := hb
    have hr : Region.ready .any l.toArray listed = [] := by
      rw [List.eq_nil_iff_forall_not_mem]
      intro j hj
      have := (rdy_in hs hl hj).2.1
      cases this
    refine ⟨fun _ => ?_, fun f _ j hj => by rw [hr] at hj; cases hj⟩
    cases fuel with
    | zero => exact ⟨hr, h a hk⟩
    | succ fuel => exact ⟨fun _ => h a hk, fun i hi => by rw [hr] at hi; cases hi⟩
  | .stop, R, H, listed, a, w, L, fuel, hs, hR, hl, hb, hf, hu, hk, h => by
    simp only [OT.ok, Bool.and_eq_true, Bool.not_eq_true'] at hb
    refine ⟨fun e => by subst e; simp at hb, fun f _ j hj hn => ?_⟩
    obtain ⟨_, h1, h2⟩ := rdy_in hs hl hj
    have h3 := List.all_eq_true.1 hb.2 j h1
    simp only [Bool.or_eq_true] at h3
    rcases h3 with h3 | h3
    · exact absurd (memB_iff.1 h3) hn
    · exact absurd h3 h2
  | .look i r, R, H, listed, a, w, L, 0, hs, hR, hl, hb, hf, hu, hk, h => by
    simp only [OT.ok, Bool.and_eq_true] at hb
    have := memB_iff.1 hb.2.1
    cases R with
    | nil => cases this
    | cons => simp at hf
  | .act i r alt, R, H, listed, a, w, L, 0, hs, hR, hl, hb, hf, hu, hk, h => by
    simp only [OT.ok, Bool.and_eq_true] at hb
    have := memB_iff.1 hb.1
    cases R with
    | nil => cases this
    | cons => simp at hf
  | .look i r, R, H, listed, a, w, L, fuel + 1, hs, hR, hl, hb, hf, hu, hk, h => by
    simp only [OT.ok, Bool.and_eq_true, List.isEmpty_iff] at hb
    obtain ⟨rfl, hm, hd, hlk, hok⟩ := hb
    have hi := memB_iff.1 hm
    have hil := hR i hi
    unfold lookB at hlk
    cases ho : l[i]? with
    | none => rw [ho] at hlk; cases hlk
    | some oi =>
      rw [ho] at hlk
      simp only [] at hlk
      have hoA : l.toArray[i]? = some oi := by simpa using ho
      simp only [OX.of, ho] at h
      obtain ⟨d, v, hdst, hN, hy, hsc⟩ := h
      have hready := rdy_of hs hl hil hi hd
      have hlt := del_lt hi
      have hall : wAny rd P S l.toArray Q (fuel + 1) listed a w := by
        refine wAny_first hoA hsel hdef fuel listed a w (fun j oj hj hji hun hno => ?_) hready hu (hy a hk) ?_
        · have hjl : j < l.length := by simpa using (Array.getElem?_eq_some_iff.1 hj).1
          have h1 := List.all_eq_true.1 hlk j (mem_del.2 ⟨(hl j hjl).1 hun, hji⟩)
          simp only [Bool.or_eq_true] at h1
          rcases h1 with h1 | h1
          · exfalso
            have h2 := memB_iff.1 h1
            unfold deps at h2
            rw [hj] at h2
            obtain ⟨x, hx, hxo⟩ := List.mem_map.1 h2
            obtain ⟨hx1, hx2⟩ := List.mem_filter.1 hx
            exact hno x (Array.mem_toList_iff.1 hx1) hx2 hxo
          · have hjL : l[j]? = some oj := by simpa using hj
            rw [hjL] at h1
            exact h1
        · rw [hdst]
          exact (SC.run hsel hdef r (del i R) [] _ _ w _ fuel (by simpa using hs) (fun j hj => hR j (mem_del.1 hj).1) (hl_set hs hl hil) hok (by omega) hu (hk.put v hN) hsc).1 rfl
      refine ⟨fun _ => hall, fun f e j hj _ => ?_⟩
      obtain rfl : fuel = f := by omega
      exact hall.2 j hj
  | .act i r alt, R, H, listed, a, w, L, fuel + 1, hs, hR, hl, hb, hf, hu, hk, h => by
    simp only [OT.ok, Bool.and_eq_true] at hb
    obtain ⟨hm, hd, hok, hal⟩ := hb
    have hi := memB_iff.1 hm
    have hil := hR i hi
    have hready := rdy_of hs hl hil hi hd
    have hlt := del_lt hi
    obtain ⟨oi, ho⟩ : ∃ o, l[i]? = some o := ⟨l[i], List.getElem?_eq_getElem hil⟩
    have hoA : l.toArray[i]? = some oi := by simpa using ho
    simp only [OX.of, ho] at h
    obtain ⟨hw, halt⟩ := h
    have hB : ∀ j ∈ Region.ready .any l.toArray listed, j ∉ H → wpOpIn (rnd rd) 3 P l.toArray (fun _ _ _ => False) j (fun a' w' => Upd S w w' ∧ wAny rd P S l.toArray Q fuel (listed.setIfInBounds j true) a' w') a w := fun j hj hn => by
      by_cases hji : j = i
      · subst hji
        have hw := hw a hk
        unfold wpOpIn
        rw [hoA]
        simp only []
        unfold wpListIn at hw
        have hnext : ∀ a' w', (fun e a w' => e = Exit.normal ∧ Upd S w w' ∧ ∃ L', Kn N ds L' a ∧ SC rd P l.toArray Q N ds w1 S (OX.of l r) L' w') .normal a' w' → (Upd S w w' ∧ wAny rd P S l.toArray Q fuel (listed.setIfInBounds j true) a' w') := fun a' w' hq => by
          obtain ⟨_, hU, L', hk', hsc⟩ := hq
          exact ⟨hU, (SC.run hsel hdef r (del j R) [] _ a' w' L' fuel (by simpa using hs) (fun k hk => hR k (mem_del.1 hk).1) (hl_set hs hl hil) hok (by omega) (hu.trans hU) hk' hsc).1 rfl⟩
        by_cases hwt : Region.wanted oi (yielded l.toArray a.tmps) = true
        · rw [if_pos hwt] at hw ⊢
          exact Oper.wpIn_into (fun a' w' hK => hnext a' w' hK) (fun e a w hq => hq.1) hw
        · rw [if_neg hwt] at hw ⊢
          exact ⟨hw.1, hnext _ _ hw.2⟩
      · exact (SC.run hsel hdef alt R (i :: H) listed a w L (fuel + 1) hs hR hl hal hf hu hk halt).2 fuel rfl j hj (fun h9 => (List.mem_cons.1 h9).elim hji hn)
    refine ⟨fun e => ?_, fun f e j hj hn => ?_⟩
    · subst e
      exact ⟨fun h0 => (by rw [h0] at hready; cases hready), fun j hj => hB j hj (by simp)⟩
    · obtain rfl : fuel = f := by omega
      exact hB j hj hn
def SW (n : Nat) (T : Nat → Prop) : Nat → Prop := fun i => n ≤ i ∨ T i
theorem c_drawnM {id : Nat} {L0 : Slots} {l : List Oper} {w : World} (hm : P.follows .mixedOrders = true) (T : Nat → Prop) (t : OT) (hc : (l.all plainB && t.ok l (List.range l.length) []) = true)
    (h : ∀ w1, Ext w w1 → SC rd P l.toArray Q N ds w1 (SW w1.heap.size T) (OX.of l t) L0 w1) : WC rd P Q N ds (.region id l.toArray true) L0 w := by
  simp only [Bool.and_eq_true] at hc
  obtain ⟨h1, h2⟩ := hc
  intro a ha
  refine wpIn_region_any hm (wAny.any ((SC.run (S := SW w.drew.heap.size T) (w1 := w.drew) ?_ ?_ t (List.range l.length) [] _ a _ L0 _ (by simp) (fun j hj => List.mem_range.1 hj) (fun j hj => ?_) h2 (by simp) (Upd.refl _ _) ha (h w.drew (Upd.drew _))).1 rfl))
  · intro j o cs b ho he
    have := List.all_eq_true.1 h1 o (List.mem_of_getElem? (by simpa using ho))
    simp [plainB, he] at this
  · intro j o c ho he
    have := List.all_eq_true.1 h1 o (List.mem_of_getElem? (by simpa using ho))
    simp [plainB, he] at this
  · rw [Array.getD_eq_getD_getElem?]
    simp [hj]
end
section
variable {rd : Option Nat} {P : Program} {ops : Array Oper} {Q : Exit → Act → World → Prop} {N : Nat} {ds : List Deferred} {S T : Nat → Prop} {w1 : World} {L : Slots} {w : World} {rest alt : OX}
variable {d : Nat} {ty : TypeId} {pos : String} {aft : Array Edge} {g : Option (Nat × Bool)}
theorem s_next {w' : World} {r : OX} (u : Upd S w w') (h : SC rd P ops Q N ds w1 S r L w') : WL rd P ops (fun e a w' => e = .normal ∧ Upd S w w' ∧ ∃ L', Kn N ds L' a ∧ SC rd P ops Q N ds w1 S r L' w') N ds [] L w' := fun _ ha => ⟨rfl, u, L, ha, h⟩
theorem s_nil (h : QK (Q .normal) N ds L w) : SC rd P ops Q N ds w1 S .done L w := h
theorem s_do {o : Oper} (h : WL rd P ops (fun e a w' => e = .normal ∧ Upd S w w' ∧ ∃ L', Kn N ds L' a ∧ SC rd P ops Q N ds w1 S rest L' w') N ds [o] L w) : SC rd P ops Q N ds w1 S (.act o rest .stop) L w := ⟨h, trivial⟩
theorem s_or {o : Oper} (h : SC rd P ops Q N ds w1 S (.act o rest .stop) L w) (k : SC rd P ops Q N ds w1 S alt L w) : SC rd P ops Q N ds w1 S (.act o rest alt) L w := ⟨h.1, k⟩
theorem SC.look_eq : ∀ {r : OX} {L1 L2 : Slots} {w : World}, (∀ k, look k L2 = look k L1) → SC rd P ops Q N ds w1 S r L1 w → SC rd P ops Q N ds w1 S r L2 w
  | .done, _, _, _, e, h => fun a ha => h a ⟨ha.size, ha.defers, fun k v hk => ha.get k v (by rw [e]; exact hk)⟩
  | .stop, _, _, _, _, _ => trivial
  | .look o r, L1, L2, w, e, h => by
    obtain ⟨d, v, h1, h2, h3, h4⟩ := h
    exact ⟨d, v, h1, h2, fun a ha => h3 a ⟨ha.size, ha.defers, fun k v hk => ha.get k v (by rw [e]; exact hk)⟩, SC.look_eq (fun k => by simp only [look]; cases Nat.beq k d <;> simp [e]) h4⟩
  | .act o r alt, L1, L2, w, e, h => ⟨fun a ha => h.1 a ⟨ha.size, ha.defers, fun k v hk => ha.get k v (by rw [e]; exact hk)⟩, SC.look_eq e h.2⟩
theorem look_againS {s : Nat} {u : Value} (hs : look s L = some u) (k : Nat) : look k L = look k ((s, u) :: L) := by
  simp only [look]
  cases hb : Nat.beq k s with
  | false => rfl
  | true => have e := Nat.eq_of_beq_eq_true hb; subst e; exact hs
theorem y_samehd {s : Nat} {u v : Value} (e : u = v) (h : SC rd P ops Q N ds w1 S rest ((s, v) :: L) w) : SC rd P ops Q N ds w1 S rest ((s, u) :: L) w := by subst e; exact h
theorem y_same (s : Nat) {u v : Value} (hs : look s L = some u) (e : u = v) (h : SC rd P ops Q N ds w1 S rest ((s, v) :: L) w) : SC rd P ops Q N ds w1 S rest L w := by subst e; exact SC.look_eq (look_againS hs) h
theorem y_split (s : Nat) {b : Bool} (hs : look s L = some (.bool b)) (ht : b = true → SC rd P ops Q N ds w1 S rest ((s, .bool true) :: L) w) (hf : b = false → SC rd P ops Q N ds w1 S rest ((s, .bool false) :: L) w) : SC rd P ops Q N ds w1 S rest L w := by
  cases b with
  | true => exact SC.look_eq (look_againS hs) (ht rfl)
  | false => exact SC.look_eq (look_againS hs) (hf rfl)
theorem y_splitp (s : Nat) {p : Prop} [Decidable p] (hs : look s L = some (.bool (decide p))) (ht : p → SC rd P ops Q N ds w1 S rest ((s, .bool true) :: L) w) (hf : ¬ p → SC rd P ops Q N ds w1 S rest ((s, .bool false) :: L) w) : SC rd P ops Q N ds w1 S rest L w :=
  y_split s hs (fun e => ht (of_decide_eq_true e)) (fun e => hf (of_decide_eq_false e))
theorem s_F {o : Oper} {v : Value} (hg : grd ops L o.guard = true) (hd : o.dst = some d) (hN : Nat.blt d N = true) (hr : ∀ a, Kn N ds L a → ∀ w, Upd S w1 w → (execOp a.eval o).run P w = .ok (.value v) w) (h : SC rd P ops Q N ds w1 S rest ((d, v) :: L) w) : SC rd P ops Q N ds w1 S (.look o rest) L w :=
  ⟨d, v, hd, hN, fun a ha => .inl ⟨ha.wanted hg, hr a ha⟩, h⟩
theorem y_skip {o : Oper} (hg : ngrd ops L o.guard = true) (hd : o.dst = some d) (hN : Nat.blt d N = true) (h : SC rd P ops Q N ds w1 S rest ((d, undef) :: L) w) : SC rd P ops Q N ds w1 S (.look o rest) L w :=
  ⟨d, undef, hd, hN, fun _a ha => .inr ⟨ha.unwanted hg, rfl⟩, h⟩
theorem cell_keepS {w w' : World} {b off : Nat} {v : Value} (h : w.cell? ⟨b, off, none⟩ = some v) (u : Upd (SW w.heap.size T) w w') (hn : ¬ T b) : w'.cell? ⟨b, off, none⟩ = some v := by
  have hb : b < w.heap.size := by
    rcases Nat.lt_or_ge b w.heap.size with h9 | h9
    · exact h9
    · have e : w.heap[b]? = none := Array.getElem?_eq_none h9
      simp [World.cell?, e] at h
  exact (World.cell?_of_block (w := w) (a := ⟨b, off, none⟩) (u.block b hb (fun h => by rcases h with h | h <;> first | omega | exact hn h))).trans h
theorem y_load {t : TypeId} {x : Operand} {b off : Nat} {v : Value} (ha : ∀ w, (isAgg t).run P w = .ok false w) (hg : grd ops L g = true) (hN : Nat.blt d N = true)
    (hx : ev L x = some (.pointer (some ⟨b, off, none⟩))) (hc : w1.cell? ⟨b, off, none⟩ = some v) (hn : ¬ T b)
    (h : SC rd P ops Q N ds w1 (SW w1.heap.size T) rest ((d, v) :: L) w) : SC rd P ops Q N ds w1 (SW w1.heap.size T) (.look ⟨some d, .load t x, ty, pos, aft, g⟩ rest) L w :=
  s_F hg rfl hN (fun a hk w u => by simp [execOp, hk.ev hx, Instr.loadAt, Instr.sureAddr, run_loadVar1 ha (cell_keepS hc u hn)]) h
theorem y_loadN {t : TypeId} {x : Operand} {n b off : Nat} {vs : List Value} (ha : ∀ w, (isAgg t).run P w = .ok true w) (hs : ∀ w, (sizeOf t).run P w = .ok n w) (hg : grd ops L g = true) (hN : Nat.blt d N = true)
    (hx : ev L x = some (.pointer (some ⟨b, off, none⟩))) (hc : At w1 b off vs) (hl : vs.length = n) (hn : ¬ T b)
    (h : SC rd P ops Q N ds w1 (SW w1.heap.size T) rest ((d, .agg vs.toArray) :: L) w) : SC rd P ops Q N ds w1 (SW w1.heap.size T) (.look ⟨some d, .load t x, ty, pos, aft, g⟩ rest) L w :=
  s_F hg rfl hN (fun a hk w u => by simp [execOp, hk.ev hx, Instr.loadAt, Instr.sureAddr, run_loadVarN ha hs hl (fun j v hv => cell_keepS (hc j v hv) u hn)]) h
theorem y_move {x : Operand} {v : Value} (hg : grd ops L g = true) (hN : Nat.blt d N = true) (hx : ev L x = some v)
    (h : SC rd P ops Q N ds w1 S rest ((d, v) :: L) w) : SC rd P ops Q N ds w1 S (.look ⟨some d, .move x, ty, pos, aft, g⟩ rest) L w :=
  s_F hg rfl hN (fun a ha w _ => by simp [execOp, ha.ev hx]) h
theorem y_assign {x : Operand} {v : Value} (hg : grd ops L g = true) (hN : Nat.blt d N = true) (hx : ev L x = some v)
    (h : SC rd P ops Q N ds w1 S rest ((d, v) :: L) w) : SC rd P ops Q N ds w1 S (.look ⟨some d, .assign x, ty, pos, aft, g⟩ rest) L w :=
  s_F hg rfl hN (fun a ha w _ => by simp [execOp, ha.ev hx]) h
theorem y_pick_t {c x y : Operand} {v : Value} (hg : grd ops L g = true) (hN : Nat.blt d N = true) (hc : ev L c = some (.bool true)) (hx : ev L x = some v)
    (h : SC rd P ops Q N ds w1 S rest ((d, v) :: L) w) : SC rd P ops Q N ds w1 S (.look ⟨some d, .pick c x y, ty, pos, aft, g⟩ rest) L w :=
  s_F hg rfl hN (fun a ha w _ => by simp [execOp, ha.ev hc, asBool, ha.ev hx]) h
theorem y_pick_f {c x y : Operand} {v : Value} (hg : grd ops L g = true) (hN : Nat.blt d N = true) (hc : ev L c = some (.bool false)) (hy : ev L y = some v)
    (h : SC rd P ops Q N ds w1 S rest ((d, v) :: L) w) : SC rd P ops Q N ds w1 S (.look ⟨some d, .pick c x y, ty, pos, aft, g⟩ rest) L w :=
  s_F hg rfl hN (fun a ha w _ => by simp [execOp, ha.ev hc, asBool, ha.ev hy]) h
theorem y_cmp {op : BinOp} {xt yt : TypeId} {x y : Operand} {k : IntKind} {m n : Int} {v : Value} (hg : grd ops L g = true) (hN : Nat.blt d N = true)
    (hx : ev L x = some (.int k m)) (hy : ev L y = some (.int k n)) (hv : cmpI op m n = some v)
    (h : SC rd P ops Q N ds w1 S rest ((d, v) :: L) w) : SC rd P ops Q N ds w1 S (.look ⟨some d, .binOp op xt x y yt, ty, pos, aft, g⟩ rest) L w :=
  s_F hg rfl hN (fun a ha w _ => by
    have e1 := ha.ev hx
    have e2 := ha.ev hy
    cases op <;> simp [cmpI] at hv <;> subst hv <;> simp [execOp, e1, e2, eqGuard, binOp, Op.intCmp, Bool.beq_eq_decide_eq, bne] <;> first | done | rfl | (by_cases hmn : m = n <;> simp [hmn])) h
theorem y_ari {op : BinOp} {xt yt : TypeId} {x y : Operand} {m n r : Int} (hg : grd ops L g = true) (hN : Nat.blt d N = true)
    (hx : ev L x = some (.int .i64 m)) (hy : ev L y = some (.int .i64 n)) (hv : ariI op m n = some r)
    (hr : -9223372036854775808 ≤ r ∧ r ≤ 9223372036854775807)
    (h : SC rd P ops Q N ds w1 S rest ((d, .int .i64 r) :: L) w) : SC rd P ops Q N ds w1 S (.look ⟨some d, .binOp op xt x y yt, ty, pos, aft, g⟩ rest) L w :=
  s_F hg rfl hN (fun a ha w _ => by
    have e1 := ha.ev hx
    have e2 := ha.ev hy
    have e3 := IntWalk.i64_in r hr
    cases op <;> simp [ariI] at hv <;> subst hv <;> simp [execOp, e1, e2, eqGuard, binOp, Op.intArith, e3]) h
theorem y_not {xt : TypeId} {x : Operand} {b : Bool} (hg : grd ops L g = true) (hN : Nat.blt d N = true) (hx : ev L x = some (.bool b))
    (h : SC rd P ops Q N ds w1 S rest ((d, .bool (!b)) :: L) w) : SC rd P ops Q N ds w1 S (.look ⟨some d, .unOp .not xt x, ty, pos, aft, g⟩ rest) L w :=
  s_F hg rfl hN (fun a ha w _ => by simp [execOp, ha.ev hx, Op.unary]) h
theorem y_max {x y : Operand} {m n : Int} {ats : Array TypeId} (hg : grd ops L g = true) (hN : Nat.blt d N = true) (hx : ev L x = some (.int .i64 m)) (hy : ev L y = some (.int .i64 n))
    (h : SC rd P ops Q N ds w1 S rest ((d, .int .i64 (max m n)) :: L) w) : SC rd P ops Q N ds w1 S (.look ⟨some d, .call ⟨.builtin .max, #[x, y], ats⟩, ty, pos, aft, g⟩ rest) L w :=
  s_F hg rfl hN (fun a hk w _ => by
    have e : (if m < n then n else m) = max m n := by split <;> omega
    simp [execOp, resolve, invoke, builtin, Builtin.max_, Builtin.max2, hk.ev hx, hk.ev hy, e]) h
theorem y_min {x y : Operand} {m n : Int} {ats : Array TypeId} (hg : grd ops L g = true) (hN : Nat.blt d N = true) (hx : ev L x = some (.int .i64 m)) (hy : ev L y = some (.int .i64 n))
    (h : SC rd P ops Q N ds w1 S rest ((d, .int .i64 (min m n)) :: L) w) : SC rd P ops Q N ds w1 S (.look ⟨some d, .call ⟨.builtin .min, #[x, y], ats⟩, ty, pos, aft, g⟩ rest) L w :=
  s_F hg rfl hN (fun a hk w _ => by
    have e : (if n < m then n else m) = min m n := by split <;> omega
    simp [execOp, resolve, invoke, builtin, Builtin.min_, Builtin.min2, hk.ev hx, hk.ev hy, e]) h
theorem y_len {t : TypeId} {e : TypeId} {x : Operand} {ao : Option Addr} {n c : Nat} {ats : Array TypeId} (hu : P.underlying t = some (.slice e)) (ht : ats[0]? = some t) (hg : grd ops L g = true) (hN : Nat.blt d N = true)
    (hx : ev L x = some (.slice ao n c))
    (h : SC rd P ops Q N ds w1 S rest ((d, .int .i64 (n : Int)) :: L) w) : SC rd P ops Q N ds w1 S (.look ⟨some d, .call ⟨.builtin .len, #[x], ats⟩, ty, pos, aft, g⟩ rest) L w :=
  s_F hg rfl hN (fun a hk w _ => by simp [execOp, resolve, invoke, builtin, Builtin.len_, ht, run_underlying hu, hk.ev hx, goInt]) h
theorem y_field {s : TypeId} {x : Operand} {fs : Array Field} {f : Field} {i n b off : Nat} (hu : P.underlying s = some (.struct fs)) (hf : fs[i]? = some f) (hs : ∀ w, (sizeOf f.type).run P w = .ok (n + 1) w)
    (o' : Nat) (hg : grd ops L g = true) (hN : Nat.blt d N = true) (hx : ev L x = some (.pointer (some ⟨b, off, none⟩))) (ho : off + f.offset = o')
    (h : SC rd P ops Q N ds w1 S rest ((d, .pointer (some ⟨b, o', none⟩)) :: L) w) : SC rd P ops Q N ds w1 S (.look ⟨some d, .fieldAddr s x i, ty, pos, aft, g⟩ rest) L w :=
  s_F hg rfl hN (fun a hk w _ => by subst ho; simp [execOp, hk.ev hx, Instr.fieldAt, run_underlying hu, hf, Instr.sureAddr, fieldPlace, hs, addr_add]) h
theorem y_nilchk {x : Operand} {a : Addr} (hg : grd ops L g = true) (hN : Nat.blt d N = true) (hx : ev L x = some (.pointer (some a)))
    (h : SC rd P ops Q N ds w1 S rest ((d, .pointer (some a)) :: L) w) : SC rd P ops Q N ds w1 S (.look ⟨some d, .nilCheck x, ty, pos, aft, g⟩ rest) L w :=
  s_F hg rfl hN (fun a hk w _ => by simp [execOp, hk.ev hx]) h
theorem y_extract {x : Operand} {vs : List Value} {i : Nat} {v : Value} (hg : grd ops L g = true) (hN : Nat.blt d N = true) (hx : ev L x = some (.tuple vs.toArray)) (hv : vs[i]? = some v)
    (h : SC rd P ops Q N ds w1 S rest ((d, v) :: L) w) : SC rd P ops Q N ds w1 S (.look ⟨some d, .extract x i, ty, pos, aft, g⟩ rest) L w :=
  s_F hg rfl hN (fun a hk w _ => by simp [execOp, hk.ev hx, Instr.extract, hv]) h
theorem y_index {t e : TypeId} {x i : Operand} {k : IntKind} {b o len cap s : Nat} {j : Nat} {n : Int} (hu : P.underlying t = some (.slice e)) (hs : ∀ w, (sizeOf e).run P w = .ok s w)
    (hg : grd ops L g = true) (hN : Nat.blt d N = true) {ao : Option Addr} (hx : ev L x = some (.slice ao len cap)) (hi : ev L i = some (.int k n)) (hao : ao = some ⟨b, o, none⟩) (hj : n = (j : Int)) (hl : j < len)
    (h : SC rd P ops Q N ds w1 S rest ((d, .pointer (some ⟨b, o + j * s, none⟩)) :: L) w) : SC rd P ops Q N ds w1 S (.look ⟨some d, .indexAddr t x i, ty, pos, aft, g⟩ rest) L w :=
  s_F hg rfl hN (fun a hk w _ => by
    subst hj hao
    have h1 : (0 : Int) ≤ (j : Int) ∧ (j : Int) < (len : Int) := by omega
    simp [execOp, hk.ev hx, hk.ev hi, Instr.indexAt, run_underlying hu, asIntOf, hs, addr_add, hl]) h
theorem y_build {t : TypeId} {parts : Array (Nat × Operand)} {ps : List (Nat × Value)} {v : Value} (hg : grd ops L g = true) (hN : Nat.blt d N = true)
    (hp : evs L (parts.toList.map (·.2)) = some (ps.map (·.2)) ∧ parts.toList.map (·.1) = ps.map (·.1))
    (hr : ∀ w, (Instr.build t ps.toArray).run P w = .ok v w)
    (h : SC rd P ops Q N ds w1 S rest ((d, v) :: L) w) : SC rd P ops Q N ds w1 S (.look ⟨some d, .build t parts, ty, pos, aft, g⟩ rest) L w :=
  s_F hg rfl hN (fun a hk w _ => by
    have e : parts.map (fun (i, x) => (i, a.eval x)) = ps.toArray := parts_ev hk hp.1 hp.2
    simp only [execOp]
    rw [e]
    simp [hr]) h
theorem y_neS {t yt : TypeId} {x y : Operand} {xs ys : List Value} {b : Bool} (hm : P.eqGuardType P.depth t = false) (he : ∀ w, (Op.equalIn 10000 t (.agg xs.toArray) (.agg ys.toArray)).run P w = .ok b w)
    (hg : grd ops L g = true) (hN : Nat.blt d N = true) (hx : ev L x = some (.agg xs.toArray)) (hy : ev L y = some (.agg ys.toArray))
    (h : SC rd P ops Q N ds w1 S rest ((d, .bool (!b)) :: L) w) : SC rd P ops Q N ds w1 S (.look ⟨some d, .binOp .neq t x y yt, ty, pos, aft, g⟩ rest) L w :=
  s_F hg rfl hN (fun a hk w _ => by
    simp only [execOp, hk.ev hx, hk.ev hy, Sem.run_bind, run_eqGuard_agg w .neq t x y _ _ hm, Result.andThen_ok]
    simp [run_neq_struct, he]) h
theorem y_sliceTo {t e : TypeId} {x hi : Operand} {ao : Option Addr} {n cap k : Nat} {kh : IntKind} {mh : Int} (m : Nat) (hu : P.underlying t = some (.slice e)) (hsz : ∀ w, (sizeOf e).run P w = .ok k w)
    (hg : grd ops L g = true) (hN : Nat.blt d N = true) (hx : ev L x = some (.slice ao n cap)) (hhi : ev L hi = some (.int kh mh)) (e2 : mh = (m : Int)) (b2 : m ≤ cap)
    (h : SC rd P ops Q N ds w1 S rest ((d, .slice (subAddr ao cap 0 k) m cap) :: L) w) : SC rd P ops Q N ds w1 S (.look ⟨some d, .slice t x none (some hi) none, ty, pos, aft, g⟩ rest) L w :=
  s_F hg rfl hN (fun a hk w _ => by
    subst e2
    have q1 : (0 : Int) ≤ (m : Int) ∧ (m : Int) ≤ (cap : Int) := by omega
    simp [execOp, Instr.sliceAt, run_underlying hu, Instr.slice, Instr.sliceBounds, Instr.sliceBound, hk.ev hx, hk.ev hhi, asIntOf, b2, hsz, subAddr]) h
theorem y_sliceFrom {t e : TypeId} {x lo : Operand} {ao : Option Addr} {n cap k : Nat} {kl : IntKind} {ml : Int} (l : Nat) (hu : P.underlying t = some (.slice e)) (hsz : ∀ w, (sizeOf e).run P w = .ok k w)
    (hg : grd ops L g = true) (hN : Nat.blt d N = true) (hx : ev L x = some (.slice ao n cap)) (hlo : ev L lo = some (.int kl ml)) (e1 : ml = l) (b1 : l ≤ n) (_b2 : n ≤ cap)
    (h : SC rd P ops Q N ds w1 S rest ((d, .slice (subAddr ao cap l k) (n - l) (cap - l)) :: L) w) : SC rd P ops Q N ds w1 S (.look ⟨some d, .slice t x (some lo) none none, ty, pos, aft, g⟩ rest) L w :=
  s_F hg rfl hN (fun a hk w _ => by
    subst e1
    simp [execOp, Instr.sliceAt, run_underlying hu, Instr.slice, Instr.sliceBounds, Instr.sliceBound, hk.ev hx, hk.ev hlo, asIntOf, b1, hsz, subAddr]) h
end
end Go.Proofs.YtagmodjadmecdaaGreat
namespace Go.Proofs.YtagmodjadmecdaaGreat
open Go Go.RowKit

def Gr (w w' : World) : Prop := w'.os = w.os ∧ w'.tape = w.tape ∧ w'.output = w.output ∧ w.drawn ≤ w'.drawn ∧ ∃ os : Array Obj, w'.heap = w.heap ++ os
theorem Gr.refl (w : World) : Gr w w := ⟨rfl, rfl, rfl, Nat.le_refl _, #[], by simp⟩
theorem Gr.trans {a b c : World} (h : Gr a b) (k : Gr b c) : Gr a c := by
  obtain ⟨h1, h2, h3, h4, x, h5⟩ := h
  obtain ⟨k1, k2, k3, k4, y, k5⟩ := k
  exact ⟨k1.trans h1, k2.trans h2, k3.trans h3, Nat.le_trans h4 k4, x ++ y, by rw [k5, h5, Array.append_assoc]⟩
theorem Gr.alloc (w : World) (o : Obj) : Gr w (w.alloc o) := ⟨rfl, rfl, rfl, Nat.le_refl _, #[o], by show w.heap.push o = _; simp⟩
theorem Gr.drew (w : World) : Gr w w.drew := ⟨rfl, rfl, rfl, Nat.le_succ _, #[], by show w.heap = _; simp⟩

section
variable {P : Program} {ops : Array Oper} {Q : Exit → Act → World → Prop} {N : Nat} {ds : List Deferred} {rest : List Oper} {L : Slots} {w : World} {rd : Option Nat} {d : Nat} {ty : TypeId} {pos : String} {aft : Array Edge} {g : Option (Nat × Bool)}
theorem t_boxG {e : TypeId} {x : Operand} {v : Value} {cs : List Value} (hg : grd ops L g = true) (hN : Nat.blt d N = true) (hx : ev L x = some v) (hc : v.cells = cs.toArray)
    (h : ∀ b w', b = w.heap.size → w'.heap.size = w.heap.size + 1 → Blk w' b e cs → Ext w w' → Gr w w' → WL rd P ops Q N ds rest ((d, .pointer (some ⟨b, 0, none⟩)) :: L) w') :
    WL rd P ops Q N ds (⟨some d, .box e x, ty, pos, aft, g⟩ :: rest) L w :=
  WL.value (w' := w.alloc (.cells cs.toArray e)) hg rfl hN (fun a hk => by simp [execOp, hk.ev hx, Instr.box, newVar, newRow, newObj, Sem.run, hc]) (h _ _ rfl (by simp) (Blk.new _ _ _) (Upd.alloc _ _) (Gr.alloc _ _))
theorem t_bsliceG {t e : TypeId} {n : Nat} {parts : Array (Nat × Operand)} {ps : List (Nat × Value)} {cs : List Value} (hg : grd ops L g = true) (hN : Nat.blt d N = true)
    (hp : evs L (parts.toList.map (·.2)) = some (ps.map (·.2)) ∧ parts.toList.map (·.1) = ps.map (·.1))
    (hr : ∀ w, (Instr.buildSlice t n ps.toArray).run P w = .ok (.slice (some ⟨w.heap.size, 0, none⟩) n n) (w.alloc (.cells cs.toArray e)))
    (h : ∀ b w', b = w.heap.size → w'.heap.size = w.heap.size + 1 → Blk w' b e cs → Ext w w' → Gr w w' → WL rd P ops Q N ds rest ((d, .slice (some ⟨b, 0, none⟩) n n) :: L) w') :
    WL rd P ops Q N ds (⟨some d, .buildSlice t n parts, ty, pos, aft, g⟩ :: rest) L w :=
  WL.value hg rfl hN (fun a hk => by
    have e : parts.map (fun (i, x) => (i, a.eval x)) = ps.toArray := parts_ev hk hp.1 hp.2
    simp only [execOp]
    rw [e]
    simp [hr]) (h _ _ rfl (by simp) (Blk.new _ _ _) (Upd.alloc _ _) (Gr.alloc _ _))
theorem c_drawnMG {id : Nat} {L0 : Slots} {l : List Oper} (hm : P.follows .mixedOrders = true) (T : Nat → Prop) (t : OT) (hc : (l.all plainB && t.ok l (List.range l.length) []) = true)
    (h : ∀ w1, Ext w w1 → Gr w w1 → SC rd P l.toArray Q N ds w1 (SW w1.heap.size T) (OX.of l t) L0 w1) : WC rd P Q N ds (.region id l.toArray true) L0 w := by
  simp only [Bool.and_eq_true] at hc
  obtain ⟨h1, h2⟩ := hc
  intro a ha
  refine wpIn_region_any hm (wAny.any ((SC.run (S := SW w.drew.heap.size T) (w1 := w.drew) ?_ ?_ t (List.range l.length) [] _ a _ L0 _ (by simp) (fun j hj => List.mem_range.1 hj) (fun j hj => ?_) h2 (by simp) (Upd.refl _ _) ha (h w.drew (Upd.drew _) (Gr.drew _))).1 rfl))
  · intro j o cs b ho he
    have := List.all_eq_true.1 h1 o (List.mem_of_getElem? (by simpa using ho))
    simp [plainB, he] at this
  · intro j o c ho he
    have := List.all_eq_true.1 h1 o (List.mem_of_getElem? (by simpa using ho))
    simp [plainB, he] at this
  · rw [Array.getD_eq_getD_getElem?]
    simp [hj]
end
end Go.Proofs.YtagmodjadmecdaaGreat
namespace Go.Proofs.YtagmodjadmecdaaGreat
open Go Go.RowKit

theorem Acc.lit {α : Type} (enc : α → List Value) (k : Nat) {e : TypeId} {base : Nat} {w : World} {b : Nat} (h : Blk w b e []) (hb : base ≤ b) : Acc enc k e base w (some ⟨b, 0, none⟩) b 0 [] :=
  ⟨h.lt, .inr ⟨rfl, hb, #[], h, Nat.le_refl _, by decide, by simp, by simp⟩⟩

theorem sl_cells {α : Type} [Inhabited α] {enc : α → List Value} {k : Nat} (hk0 : 0 < k) (hk : ∀ x, (enc x).length = k) {w : World} {ao : Option Addr} {b o : Nat} {xs : List α} (h : Sl enc k w ao b o xs) : ∀ j u, (xs.flatMap enc)[j]? = some u → w.cell? (Addr.add ⟨b, o, none⟩ j) = some u := by
  intro j u hj
  have hlt : j < xs.length * k := by
    rw [← flatMap_len hk xs]
    exact (List.getElem?_eq_some_iff.1 hj).1
  have hi : j / k < xs.length := (Nat.div_lt_iff_lt_mul hk0).2 hlt
  have hm : j % k < k := Nat.mod_lt _ hk0
  have h2 := flatMap_at hk xs (j / k) (j % k) ((enc (nth xs (j / k)))[j % k]'(by rw [hk]; exact hm)) hi (by simp [hk, hm])
  rw [Nat.div_add_mod'] at h2
  rw [h2] at hj
  cases hj
  have := h.at_ (j / k) hi (j % k) ((enc (nth xs (j / k)))[j % k]'(by rw [hk]; exact hm)) (by simp [hk, hm])
  rw [addr_add]
  rwa [Nat.add_assoc, Nat.div_add_mod'] at this

section
variable {rd : Option Nat} {P : Program} {ops : Array Oper} {Q : Exit → Act → World → Prop} {N : Nat} {ds : List Deferred} {rest : List Oper} {L : Slots} {w : World}
variable {d : Nat} {ty : TypeId} {pos : String} {aft : Array Edge} {g : Option (Nat × Bool)}

theorem t_appendAll {α : Type} [Inhabited α] {enc : α → List Value} {k : Nat} {t e : TypeId} {z : Value} {bytes base : Nat} {s x : Operand} {ao ay : Option Addr} {gb cap b o c : Nat} {xs ys : List α}
    (hu : P.underlying t = some (.slice e)) (hi : (P.info? e).map (fun i => (i.zero, i.size, i.bytes)) = some (some z, k, bytes)) (hz : z.cells.size = k) (hk0 : 0 < k) (hk : ∀ x, (enc x).length = k) (h1 : ∀ x, ∀ u ∈ enc x, u.oneCell' = true)
    (hg : grd ops L g = true) (hN : Nat.blt d N = true) (hs : ev L s = some (.slice ao xs.length cap)) (hx : ev L x = some (.slice ay ys.length c))
    (ha : Acc enc k e base w ao gb cap xs) (hb : Sl enc k w ay b o ys) (hbase : base ≤ w.heap.size) (hlen : xs.length ≤ 1000000) (hlen2 : ys.length ≤ 1000000) (hbytes : bytes ≤ 1000)
    (h : ∀ ao' g' cap' w', Acc enc k e base w' ao' g' cap' (xs ++ ys) → Upd (fun i => i = gb ∧ base ≤ i) w w' → (g' = gb ∨ w.heap.size ≤ g') → (xs ++ ys).length = xs.length + ys.length → WL rd P ops Q N ds rest ((d, .slice ao' (xs ++ ys).length cap') :: L) w') :
    WL rd P ops Q N ds (⟨some d, .call ⟨.builtin .append, #[s, x], #[t, t]⟩, ty, pos, aft, g⟩ :: rest) L w := by
  obtain ⟨i, hi0, hi1, hi2, hi3⟩ := info_parts' hi
  have hlen' : (xs ++ ys).length = xs.length + ys.length := by simp
  rcases Nat.eq_zero_or_pos ys.length with h0 | h0
  · have : ys = [] := List.eq_nil_of_length_eq_zero h0
    subst this
    have hle := ha.cap_le
    have hr : (Builtin.append_ #[t, t] ty #[.slice ao xs.length cap, .slice ay ([] : List α).length c]).run P w = .ok (.slice ao xs.length cap) w := by
      cases ao <;> cases ay <;> simp [Builtin.append_, run_underlying hu, sizeOf, typeInfo, hi0, Builtin.lenOf, Builtin.firstCells, loadCells, loadCellsFrom, storeCells, hle]
    have hacc : Acc enc k e base w ao gb cap (xs ++ []) := by simpa using ha
    have := h ao gb cap w hacc (Upd.refl _ _) (.inl rfl) hlen'
    rw [show (xs ++ ([] : List α)).length = xs.length from by simp] at this
    exact WL.value hg rfl hN (fun a hk' => by
      have hx' : a.eval x = .slice ay 0 c := hk'.ev hx
      have hr' : (Builtin.append_ #[t, t] ty #[.slice ao xs.length cap, .slice ay 0 c]).run P w = .ok (.slice ao xs.length cap) w := hr
      simp only [execOp, resolve, invoke, builtin]
      simp [hk'.ev hs, hx', hr']) this
  · have hay := hb.addr h0
    subst hay
    obtain ⟨gg, cc, w', hr, hown, hgrow, hgeq⟩ := run_append_lies (P := P) (w := w) t ty base e i z k bytes hu hi0 hi1 hi2 hi3 hz hk0 (.slice ao xs.length cap) xs.length (xs.flatMap enc) (ha.owns hk)
      ⟨b, o, none⟩ ys.length c (ys.flatMap enc) (flatMap_len hk ys) (sl_cells hk0 hk hb) (fun u hu => by
        obtain ⟨y, _, hy⟩ := List.mem_flatMap.1 hu
        exact h1 y u hy) h0 (by unfold maxLen; omega) (by
        have : (xs.length + ys.length) * bytes ≤ 2000000 * 1000 := Nat.mul_le_mul (by omega) hbytes
        omega) hbase _ rfl
    have hacc : Acc enc k e base w' (some ⟨gg, 0, none⟩) gg cc (xs ++ ys) := by
      obtain ⟨hl, hown⟩ := hown
      rcases hown with ⟨hq, _⟩ | ⟨g2, cap2, cur, he, hbg, hh, hc1, hc2, hc3, hc4⟩
      · cases hq
      · cases he
        refine ⟨?_, .inr ⟨rfl, hbg, cur, hh, by rw [hlen']; exact hc1, hc2, hc3, ?_⟩⟩
        · rcases Nat.lt_or_ge gg w'.heap.size with h | h
          · exact h
          · rw [Array.getElem?_eq_none h] at hh; cases hh
        · rw [hlen']; simpa using hc4
    have hupd : Upd (fun i => i = gb ∧ base ≤ i) w w' := ⟨hgrow.os, hgrow.tape, hgrow.output, hgrow.size, fun q hq hn => hgrow.block q hq (fun he => by
      rcases ha.at_ with ⟨h1, _, _, _⟩ | ⟨h1, h2, _⟩
      · subst h1; cases he
      · subst h1; simp [Value.ownBlock] at he; exact hn ⟨he, by omega⟩)⟩
    have hge : gg = gb ∨ w.heap.size ≤ gg := by
      rcases hgeq with h | h
      · left
        rcases ha.at_ with ⟨h1, _, _, _⟩ | ⟨h1, h2, _⟩
        · subst h1; simp [Value.ownBlock] at h
        · subst h1; simp [Value.ownBlock] at h; omega
      · right; omega
    have := h _ _ _ w' hacc hupd hge hlen'
    rw [hlen'] at this
    refine WL.value hg rfl hN (fun a hk' => ?_) this
    simp only [execOp, resolve, invoke, builtin]
    simp [hk'.ev hs, hk'.ev hx, hr]

theorem t_copy {α : Type} [Inhabited α] {enc : α → List Value} {k : Nat} {t e : TypeId} {z : Value} {bytes bk : Nat} {s x : Operand} {ay : Option Addr} {b o c : Nat} {ys : List α}
    (hu : P.underlying t = some (.slice e)) (hi : (P.info? e).map (fun i => (i.zero, i.size, i.bytes)) = some (some z, k, bytes)) (hz : z.cells.size = k) (hk0 : 0 < k) (hk : ∀ x, (enc x).length = k) (h1 : ∀ x, ∀ u ∈ enc x, u.oneCell' = true)
    (hg : grd ops L g = true) (hN : Nat.blt d N = true) (hs : ev L s = some (.slice (some ⟨bk, 0, none⟩) 0 0)) (hx : ev L x = some (.slice ay ys.length c))
    (hB : Blk w bk e []) (hb : Sl enc k w ay b o ys) (hlen2 : ys.length ≤ 1000000) (hbytes : bytes ≤ 1000)
    (h : ∀ ao' g' cap' w', Acc enc k e bk w' ao' g' cap' ys → Upd (fun i => i = bk ∧ bk ≤ i) w w' → bk ≤ g' → WL rd P ops Q N ds rest ((d, .slice ao' ys.length cap') :: L) w') :
    WL rd P ops Q N ds (⟨some d, .call ⟨.builtin .append, #[s, x], #[t, t]⟩, ty, pos, aft, g⟩ :: rest) L w :=
  have hl := hB.lt
  t_appendAll (xs := ([] : List α)) (gb := bk) (cap := 0) (base := bk) hu hi hz hk0 hk h1 hg hN hs hx (Acc.lit enc k hB (Nat.le_refl _)) hb (Nat.le_of_lt hl) (by simp) hlen2 hbytes
    fun ao' g' cap' w' ha hu' hg' _ => h ao' g' cap' w' ha hu' (by omega)

theorem Acc.ofBlk {α : Type} (enc : α → List Value) (k : Nat) (hk : ∀ x, (enc x).length = k) {e : TypeId} {base : Nat} {w : World} {b : Nat} {xs : List α} (h : Blk w b e (xs.flatMap enc)) (hb : base ≤ b) (hl : xs.length ≤ 1000000) : Acc enc k e base w (some ⟨b, 0, none⟩) b xs.length xs :=
  ⟨h.lt, .inr ⟨rfl, hb, (xs.flatMap enc).toArray, h, Nat.le_refl _, by unfold maxLen; omega, by simp [flatMap_len hk xs], List.take_of_length_le (by show (xs.flatMap enc).length ≤ _; rw [flatMap_len hk xs]; exact Nat.le_refl _)⟩⟩

theorem t_appLit {α : Type} [Inhabited α] {enc : α → List Value} {k : Nat} {t e : TypeId} {z : Value} {bytes bk : Nat} {s x : Operand} {ay : Option Addr} {b o c : Nat} {xs ys : List α}
    (hu : P.underlying t = some (.slice e)) (hi : (P.info? e).map (fun i => (i.zero, i.size, i.bytes)) = some (some z, k, bytes)) (hz : z.cells.size = k) (hk0 : 0 < k) (hk : ∀ x, (enc x).length = k) (h1 : ∀ x, ∀ u ∈ enc x, u.oneCell' = true)
    (hg : grd ops L g = true) (hN : Nat.blt d N = true) (hs : ev L s = some (.slice (some ⟨bk, 0, none⟩) xs.length xs.length)) (hx : ev L x = some (.slice ay ys.length c))
    (hB : Blk w bk e (xs.flatMap enc)) (hb : Sl enc k w ay b o ys) (hlen : xs.length ≤ 1000000) (hlen2 : ys.length ≤ 1000000) (hbytes : bytes ≤ 1000)
    (h : ∀ ao' g' cap' w', Acc enc k e bk w' ao' g' cap' (xs ++ ys) → Upd (fun i => i = bk ∧ bk ≤ i) w w' → bk ≤ g' → WL rd P ops Q N ds rest ((d, .slice ao' (xs ++ ys).length cap') :: L) w') :
    WL rd P ops Q N ds (⟨some d, .call ⟨.builtin .append, #[s, x], #[t, t]⟩, ty, pos, aft, g⟩ :: rest) L w :=
  have hl := hB.lt
  t_appendAll (xs := xs) (gb := bk) (cap := xs.length) (base := bk) hu hi hz hk0 hk h1 hg hN hs hx (Acc.ofBlk enc k hk hB (Nat.le_refl _) hlen) hb (Nat.le_of_lt hl) hlen hlen2 hbytes
    fun ao' g' cap' w' ha hu' hg' _ => h ao' g' cap' w' ha hu' (by omega)
end

def Fam {α β : Type} [Inhabited β] (enc : β → List Value) (k : Nat) (ga : α → Option Addr) (gb go : α → Nat) (gx : α → List β) (base g2 lim : Nat) (rows : List α) (w : World) : Prop :=
  ∀ r ∈ rows, Sl enc k w (ga r) (gb r) (go r) (gx r) ∧ (0 < (gx r).length → base ≤ gb r ∧ gb r ≠ g2 ∧ gb r < lim)
section
variable {α β : Type} [Inhabited β] {enc : β → List Value} {k : Nat} {ga : α → Option Addr} {gb go : α → Nat} {gx : α → List β} {base g2 lim : Nat} {rows : List α} {w w' : World}
theorem Fam.nil : Fam enc k ga gb go gx base g2 lim [] w := fun _ h => by cases h
theorem Fam.keep {S : Nat → Prop} (h : Fam enc k ga gb go gx base g2 lim rows w) (u : Upd S w w') (hS : ∀ i, base ≤ i → i ≠ g2 → i < lim → ¬ S i) : Fam enc k ga gb go gx base g2 lim rows w' := fun r hr => by
  obtain ⟨h1, h2⟩ := h r hr
  exact ⟨h1.keep u (fun hp => hS _ (h2 hp).1 (h2 hp).2.1 (h2 hp).2.2), h2⟩
theorem Fam.mono {lim' : Nat} (h : Fam enc k ga gb go gx base g2 lim rows w) (hl : lim ≤ lim') : Fam enc k ga gb go gx base g2 lim' rows w := fun r hr => ⟨(h r hr).1, fun hp => by have := (h r hr).2 hp; omega⟩
end
end Go.Proofs.YtagmodjadmecdaaGreat
namespace Go.Proofs.YtagmodjadmecdaaGreat
open Go Go.RowKit
section
variable {rd : Option Nat} {P : Program} {ops : Array Oper} {Q : Exit → Act → World → Prop} {N : Nat} {ds : List Deferred} {rest : List Oper} {L : Slots} {w : World}
variable {d : Nat} {ty : TypeId} {pos : String} {aft : Array Edge} {g : Option (Nat × Bool)}

theorem t_sliceC {t e : TypeId} {x hi mx : Operand} {ao : Option Addr} {n cap k : Nat} {kh km : IntKind} {mh mm : Int} (hu : P.underlying t = some (.slice e)) (hsz : ∀ w, (sizeOf e).run P w = .ok k w)
    (hg : grd ops L g = true) (hN : Nat.blt d N = true) (hx : ev L x = some (.slice ao n cap)) (hhi : ev L hi = some (.int kh mh)) (hmx : ev L mx = some (.int km mm)) (e1 : mh = (n : Int)) (e2 : mm = (n : Int)) (b2 : n ≤ cap)
    (h : WL rd P ops Q N ds rest ((d, .slice (subAddr ao n 0 k) n n) :: L) w) : WL rd P ops Q N ds (⟨some d, .slice t x none (some hi) (some mx), ty, pos, aft, g⟩ :: rest) L w :=
  WL.value hg rfl hN (fun a hk => by
    subst e1 e2
    have q1 : (0 : Int) ≤ (n : Int) ∧ (n : Int) ≤ (cap : Int) := by omega
    simp [execOp, Instr.sliceAt, run_underlying hu, Instr.slice, Instr.sliceBounds, Instr.sliceBound, hk.ev hx, hk.ev hhi, hk.ev hmx, asIntOf, b2, hsz, subAddr]) h

theorem acc_of_owns {α : Type} {enc : α → List Value} {k : Nat} {e : TypeId} {w w' : World} {v : Value} {xs : List α} {y : α} (_hk : ∀ x, (enc x).length = k) (h : w'.ownsRow w.heap.size e k v (xs.length + 1) (xs.flatMap enc ++ enc y)) :
    ∃ gg cc, v = .slice (some ⟨gg, 0, none⟩) (xs ++ [y]).length cc ∧ w.heap.size ≤ gg ∧ Acc enc k e w.heap.size w' (some ⟨gg, 0, none⟩) gg cc (xs ++ [y]) := by
  have hlen' : (xs ++ [y]).length = xs.length + 1 := by simp
  obtain ⟨hl, hown⟩ := h
  rcases hown with ⟨_, hq⟩ | ⟨g2, cap2, cur, he, hbg, hh, hc1, hc2, hc3, hc4⟩
  · omega
  · refine ⟨g2, cap2, by rw [hlen']; exact he, hbg, ?_, .inr ⟨rfl, hbg, cur, hh, by rw [hlen']; exact hc1, hc2, hc3, ?_⟩⟩
    · rcases Nat.lt_or_ge g2 w'.heap.size with h | h
      · exact h
      · rw [Array.getElem?_eq_none h] at hh; cases hh
    · rw [hlen']; simpa using hc4

theorem t_appClip {α : Type} [Inhabited α] {enc : α → List Value} {k : Nat} {t e : TypeId} {z : Value} {bytes : Nat} {s x : Operand} {ao : Option Addr} {b o n bx c : Nat} {xs : List α} (y : α)
    (hu : P.underlying t = some (.slice e)) (hi : (P.info? e).map (fun i => (i.zero, i.size, i.bytes)) = some (some z, k, bytes)) (hz : z.cells.size = k) (hk0 : 0 < k) (hk : ∀ x, (enc x).length = k) (h1 : ∀ x, ∀ u ∈ enc x, u.oneCell' = true)
    (hg : grd ops L g = true) (hN : Nat.blt d N = true) (hs : ev L s = some (.slice ao n n)) (hx : ev L x = some (.slice (some ⟨bx, 0, none⟩) 1 c)) (hn : n = xs.length)
    (ha : Sl enc k w ao b o xs) (hb : Blk w bx e (enc y)) (hlen : xs.length ≤ 1000000) (hbytes : bytes ≤ 1000)
    (h : ∀ g' cap' w', Acc enc k e w.heap.size w' (some ⟨g', 0, none⟩) g' cap' (xs ++ [y]) → Ext w w' → w.heap.size ≤ g' → WL rd P ops Q N ds rest ((d, .slice (some ⟨g', 0, none⟩) (xs ++ [y]).length cap') :: L) w') :
    WL rd P ops Q N ds (⟨some d, .call ⟨.builtin .append, #[s, x], #[t, t]⟩, ty, pos, aft, g⟩ :: rest) L w := by
  subst hn
  obtain ⟨i, hi0, hi1, hi2, hi3⟩ := info_parts' hi
  have hlen' : (xs ++ [y]).length = xs.length + 1 := by simp
  have hb2 : (xs.length + 1) * bytes ≤ 140737488355328 := by
    have : (xs.length + 1) * bytes ≤ 1000001 * 1000 := Nat.mul_le_mul (by omega) hbytes
    omega
  have hnews : ∀ j u, (enc y)[j]? = some u → w.cell? ((⟨bx, 0, none⟩ : Addr).add j) = some u := fun j u hj => by rw [addr_add, Nat.zero_add]; exact hb.get hj
  have key : ∃ v' w', (Builtin.append_ #[t, t] ty #[.slice ao xs.length xs.length, .slice (some ⟨bx, 0, none⟩) 1 c]).run P w = .ok v' w' ∧ w'.ownsRow w.heap.size e k v' (xs.length + 1) (xs.flatMap enc ++ enc y) ∧ w.grownBy w' none := by
    rcases Nat.eq_zero_or_pos xs.length with h0 | h0
    · have : xs = [] := List.eq_nil_of_length_eq_zero h0
      subst this
      cases ao with
      | none =>
        obtain ⟨gg, cc, w', hr, hown, hgrow, _⟩ := run_append_lies (P := P) (w := w) t ty w.heap.size e i z k bytes hu hi0 hi1 hi2 hi3 hz hk0 (.slice none 0 0) 0 [] (World.ownsRow_nil w w.heap.size e k)
          ⟨bx, 0, none⟩ 1 c (enc y) (by rw [hk, Nat.one_mul]) hnews (h1 y) (by decide) (by unfold maxLen; omega) (by simpa using hb2) (Nat.le_refl _) _ rfl
        exact ⟨_, w', hr, hown, ⟨hgrow.os, hgrow.tape, hgrow.output, hgrow.size, fun q hq _ => hgrow.block q hq (by simp [Value.ownBlock])⟩⟩
      | some a =>
        exact run_append_arg_grows (P := P) w t ty e i z k bytes hu hi0 hi1 hi2 hi3 hz hk0 a 0 0 [] (by simp) (fun j u hj => by simp at hj) ⟨bx, 0, none⟩ 1 c (enc y) (by rw [hk, Nat.one_mul]) hnews (by omega) (by unfold maxLen; omega) (by simpa using hb2)
    · have hay := ha.addr h0
      subst hay
      exact run_append_arg_grows (P := P) w t ty e i z k bytes hu hi0 hi1 hi2 hi3 hz hk0 ⟨b, o, none⟩ xs.length xs.length (xs.flatMap enc) (flatMap_len hk xs) (sl_cells hk0 hk ha) ⟨bx, 0, none⟩ 1 c (enc y) (by rw [hk, Nat.one_mul]) hnews (by omega) (by unfold maxLen; omega) hb2
  obtain ⟨v', w', hr, hown, hgrow⟩ := key
  obtain ⟨gg, cc, rfl, hge, hacc⟩ := acc_of_owns hk hown
  have hupd : Ext w w' := ⟨hgrow.os, hgrow.tape, hgrow.output, hgrow.size, fun q hq _ => hgrow.block q hq (by simp)⟩
  refine WL.value hg rfl hN (fun a hk' => ?_) (h _ _ w' hacc hupd hge)
  simp only [execOp, resolve, invoke, builtin]
  simp [hk'.ev hs, hk'.ev hx, hr]
theorem t_copyE {α : Type} [Inhabited α] {enc : α → List Value} {k : Nat} {t e : TypeId} {z : Value} {bytes bk : Nat} {s x : Operand} {ay : Option Addr} {b o c : Nat} {ys : List α}
    (hu : P.underlying t = some (.slice e)) (hi : (P.info? e).map (fun i => (i.zero, i.size, i.bytes)) = some (some z, k, bytes)) (hz : z.cells.size = k) (hk0 : 0 < k) (hk : ∀ x, (enc x).length = k) (_h1 : ∀ x, ∀ u ∈ enc x, u.oneCell' = true)
    (hg : grd ops L g = true) (hN : Nat.blt d N = true) (hs : ev L s = some (.slice (some ⟨bk, 0, none⟩) 0 0)) (hx : ev L x = some (.slice ay ys.length c))
    (hB : Blk w bk e []) (hb : Sl enc k w ay b o ys) (hlen2 : ys.length ≤ 1000000) (hbytes : bytes ≤ 1000)
    (h : ∀ ao' g' cap' w', Acc enc k e bk w' ao' g' cap' ys → Ext w w' → ((g' = bk ∨ w.heap.size ≤ g') ∧ (0 < ys.length → w.heap.size ≤ g')) → WL rd P ops Q N ds rest ((d, .slice ao' ys.length cap') :: L) w') :
    WL rd P ops Q N ds (⟨some d, .call ⟨.builtin .append, #[s, x], #[t, t]⟩, ty, pos, aft, g⟩ :: rest) L w := by
  obtain ⟨i, hi0, hi1, hi2, hi3⟩ := info_parts' hi
  have hl := hB.lt
  rcases Nat.eq_zero_or_pos ys.length with h0 | h0
  · have : ys = [] := List.eq_nil_of_length_eq_zero h0
    subst this
    have hr : (Builtin.append_ #[t, t] ty #[.slice (some ⟨bk, 0, none⟩) 0 0, .slice ay ([] : List α).length c]).run P w = .ok (.slice (some ⟨bk, 0, none⟩) 0 0) w := by
      cases ay <;> simp [Builtin.append_, run_underlying hu, sizeOf, typeInfo, hi0, Builtin.lenOf, Builtin.firstCells, loadCells, loadCellsFrom, storeCells]
    exact WL.value hg rfl hN (fun a hk' => by
      have hx' : a.eval x = .slice ay 0 c := hk'.ev hx
      have hr' : (Builtin.append_ #[t, t] ty #[.slice (some ⟨bk, 0, none⟩) 0 0, .slice ay 0 c]).run P w = .ok (.slice (some ⟨bk, 0, none⟩) 0 0) w := hr
      simp only [execOp, resolve, invoke, builtin]
      simp [hk'.ev hs, hx', hr']) (h (some ⟨bk, 0, none⟩) bk 0 w (Acc.lit enc k hB (Nat.le_refl _)) (Upd.refl _ _) ⟨.inl rfl, fun h => absurd h (Nat.lt_irrefl _)⟩)
  · have hay := hb.addr h0
    subst hay
    obtain ⟨v', w', hr, hown, hgrow⟩ := run_append_arg_grows (P := P) w t ty e i z k bytes hu hi0 hi1 hi2 hi3 hz hk0 ⟨bk, 0, none⟩ 0 0 [] (by simp) (fun j u hj => by simp at hj) ⟨b, o, none⟩ ys.length c (ys.flatMap enc) (flatMap_len hk ys) (sl_cells hk0 hk hb) (by omega) (by unfold maxLen; omega) (by
      have : (0 + ys.length) * bytes ≤ 1000000 * 1000 := Nat.mul_le_mul (by omega) hbytes
      omega)
    have hupd : Ext w w' := ⟨hgrow.os, hgrow.tape, hgrow.output, hgrow.size, fun q hq _ => hgrow.block q hq (by simp)⟩
    obtain ⟨hl2, hown⟩ := hown
    rcases hown with ⟨_, hq⟩ | ⟨g2, cap2, cur, rfl, hbg, hh, hc1, hc2, hc3, hc4⟩
    · omega
    · rw [Nat.zero_add] at hr hc1 hc4
      have hacc : Acc enc k e bk w' (some ⟨g2, 0, none⟩) g2 cap2 ys := by
        refine ⟨?_, .inr ⟨rfl, by omega, cur, hh, hc1, hc2, hc3, by simpa using hc4⟩⟩
        rcases Nat.lt_or_ge g2 w'.heap.size with h | h
        · exact h
        · rw [Array.getElem?_eq_none h] at hh; cases hh
      refine WL.value hg rfl hN (fun a hk' => ?_) (h _ _ _ w' hacc hupd ⟨.inr hbg, fun _ => hbg⟩)
      simp only [execOp, resolve, invoke, builtin]
      simp [hk'.ev hs, hk'.ev hx, hr]
end
end Go.Proofs.YtagmodjadmecdaaGreat
namespace Go.Proofs.YtagmodjadmecdaaGreat
open Go Go.RowKit

section
variable {P : Program} {ops : Array Oper} {Q : Exit → Act → World → Prop} {N : Nat} {ds : List Deferred} {rest : List Oper} {L : Slots} {w : World} {rd : Option Nat} {d : Nat} {ty : TypeId} {pos : String} {aft : Array Edge} {g : Option (Nat × Bool)}

theorem t_cap {t e : TypeId} {x : Operand} {ao : Option Addr} {n c : Nat} {ats : Array TypeId} (hu : P.underlying t = some (.slice e)) (ht : ats[0]? = some t) (hg : grd ops L g = true) (hN : Nat.blt d N = true)
    (hx : ev L x = some (.slice ao n c)) (h : WL rd P ops Q N ds rest ((d, .int .i64 (c : Int)) :: L) w) :
    WL rd P ops Q N ds (⟨some d, .call ⟨.builtin .cap, #[x], ats⟩, ty, pos, aft, g⟩ :: rest) L w :=
  WL.value hg rfl hN (fun a hk => by
    simp [execOp, resolve, invoke, builtin, Builtin.cap_, run_underlying hu, ht, hk.ev hx, goInt]) h

theorem t_nilS {xt yt e : TypeId} {x y : Operand} {ao : Option Addr} {n c n' c' : Nat} (hu : P.underlying xt = some (.slice e)) (hg : grd ops L g = true) (hN : Nat.blt d N = true)
    (hx : ev L x = some (.slice ao n c)) (hy : ev L y = some (.slice none n' c')) (h : WL rd P ops Q N ds rest ((d, .bool ao.isNone) :: L) w) :
    WL rd P ops Q N ds (⟨some d, .binOp .eql xt x y yt, ty, pos, aft, g⟩ :: rest) L w :=
  WL.value hg rfl hN (fun a hk => by
    have := Lib.run_eql_slice_nil (P := P) w xt e ao n c n' c' hu
    simp [execOp, hk.ev hx, hk.ev hy, eqGuard, this]) h

theorem t_copyB {dT sT e : TypeId} {k : Nat} {x y : Operand} {b o dLen dCap sb so sLen sCap : Nat} {vs cs : List Value} {t : TypeId}
    (hu : P.underlying dT = some (.slice e)) (hs : ∀ w, (sizeOf e).run P w = .ok k w) (hg : grd ops L g = true) (hN : Nat.blt d N = true)
    (hx : ev L x = some (.slice (some ⟨b, o, none⟩) dLen dCap)) (hy : ev L y = some (.slice (some ⟨sb, so, none⟩) sLen sCap))
    (hB : Blk w b t cs) (ha : At w sb so vs) (hn : vs.length = min sLen dLen * k) (hf : o + vs.length ≤ cs.length) (h1 : ∀ v ∈ vs, v.oneCell' = true)
    (h : ∀ w', w'.heap.size = w.heap.size → Blk w' b t (lay cs o vs) → Upd (· = b) w w' → WL rd P ops Q N ds rest ((d, .int .i64 ((min sLen dLen : Nat) : Int)) :: L) w') :
    WL rd P ops Q N ds (⟨some d, .call ⟨.builtin .copy, #[x, y], #[dT, sT]⟩, ty, pos, aft, g⟩ :: rest) L w := by
  obtain ⟨w', hr, hb', hu', hz'⟩ := run_storeCells (P := P) vs w cs o 0 hB (by omega) h1
  have hl : (loadCells ⟨sb, so, none⟩ (Nat.min sLen dLen * k)).run P w = .ok vs.toArray w := by
    have := run_loadCellsFrom (P := P) (w := w) (b := sb) (off := so) (Nat.min sLen dLen * k) 0 vs #[] (show vs.length = Nat.min sLen dLen * k from hn) (by simpa using ha)
    simpa [loadCells] using this
  refine WL.value hg rfl hN (fun a hk => ?_) (h w' hz' (by simpa using hb') hu')
  have hr2 : (Builtin.copy_ #[dT, sT] ty #[.slice (some ⟨b, o, none⟩) dLen dCap, .slice (some ⟨sb, so, none⟩) sLen sCap]).run P w = .ok (goInt (Nat.min sLen dLen)) w' := by
    simp [Builtin.copy_, run_underlying hu, Builtin.lenOf, Builtin.firstCells, hs, hl, hr]
  simp only [execOp, resolve, invoke, builtin]
  rw [show ((min sLen dLen : Nat) : Int) = ((Nat.min sLen dLen : Nat) : Int) from rfl]
  simp [hk.ev hx, hk.ev hy, hr2, goInt]

theorem append_two {t t2 e e2 : TypeId} (hu : P.underlying t = some (.slice e)) (hu2 : P.underlying t2 = some (.slice e2)) (ty : TypeId) (a b : Value) (w : World) : (Builtin.append_ #[t, t2] ty #[a, b]).run P w = (Builtin.append_ #[t, t] ty #[a, b]).run P w := by
  cases a <;> simp [Builtin.append_, run_underlying hu, run_underlying hu2]
theorem t_append2 {α : Type} {enc : α → List Value} {k : Nat} {t t2 e e2 : TypeId} {z : Value} {bytes base : Nat} {s x : Operand} {ao : Option Addr} {gb cap b c : Nat} {xs : List α} (y : α)
    (hu : P.underlying t = some (.slice e)) (hu2 : P.underlying t2 = some (.slice e2)) (hi : (P.info? e).map (fun i => (i.zero, i.size, i.bytes)) = some (some z, k, bytes)) (hz : z.cells.size = k) (hk0 : 0 < k) (hk : ∀ x, (enc x).length = k) (h1 : ∀ x, ∀ u ∈ enc x, u.oneCell' = true)
    (hg : grd ops L g = true) (hN : Nat.blt d N = true) (hs : ev L s = some (.slice ao xs.length cap)) (hx : ev L x = some (.slice (some ⟨b, 0, none⟩) 1 c))
    (ha : Acc enc k e base w ao gb cap xs) (hb : Blk w b e (enc y)) (hbase : base ≤ w.heap.size) (hlen : xs.length ≤ 1000000) (hbytes : bytes ≤ 1000)
    (h : ∀ ao' g' cap' w', Acc enc k e base w' ao' g' cap' (xs ++ [y]) → Upd (fun i => i = gb ∧ base ≤ i) w w' → (g' = gb ∨ w.heap.size ≤ g') → (xs ++ [y]).length = xs.length + 1 → WL rd P ops Q N ds rest ((d, .slice ao' (xs ++ [y]).length cap') :: L) w') :
    WL rd P ops Q N ds (⟨some d, .call ⟨.builtin .append, #[s, x], #[t, t2]⟩, ty, pos, aft, g⟩ :: rest) L w := by
  obtain ⟨i, hi0, hi1, hi2, hi3⟩ := info_parts' hi
  obtain ⟨gg, cc, w', hr, hown, hgrow, hgeq⟩ := run_append_lies (P := P) (w := w) t ty base e i z k bytes hu hi0 hi1 hi2 hi3 hz hk0 (.slice ao xs.length cap) xs.length (xs.flatMap enc) (ha.owns hk)
    ⟨b, 0, none⟩ 1 c (enc y) (by rw [hk, Nat.one_mul]) (fun j u hj => by rw [addr_add, Nat.zero_add]; exact hb.get hj) (h1 y) (by decide) (by unfold maxLen; omega) (by
      have : (xs.length + 1) * bytes ≤ 1000001 * 1000 := Nat.mul_le_mul (by omega) hbytes
      omega) hbase _ rfl
  have hlen' : (xs ++ [y]).length = xs.length + 1 := by simp
  have hacc : Acc enc k e base w' (some ⟨gg, 0, none⟩) gg cc (xs ++ [y]) := by
    obtain ⟨hl, hown⟩ := hown
    rcases hown with ⟨h0, _⟩ | ⟨g2, cap2, cur, he, hbg, hh, hc1, hc2, hc3, hc4⟩
    · cases h0
    · cases he
      refine ⟨?_, .inr ⟨rfl, hbg, cur, hh, by rw [hlen']; exact hc1, hc2, hc3, ?_⟩⟩
      · rcases Nat.lt_or_ge gg w'.heap.size with h | h
        · exact h
        · rw [Array.getElem?_eq_none h] at hh; cases hh
      · rw [hlen']; simpa using hc4
  have hupd : Upd (fun i => i = gb ∧ base ≤ i) w w' := ⟨hgrow.os, hgrow.tape, hgrow.output, hgrow.size, fun q hq hn => hgrow.block q hq (fun he => by
    rcases ha.at_ with ⟨h1, _, _, _⟩ | ⟨h1, h2, _⟩
    · subst h1; cases he
    · subst h1; simp [Value.ownBlock] at he; exact hn ⟨he, by omega⟩)⟩
  have hge : gg = gb ∨ w.heap.size ≤ gg := by
    rcases hgeq with h | h
    · left
      rcases ha.at_ with ⟨h1, _, _, _⟩ | ⟨h1, h2, _⟩
      · subst h1; simp [Value.ownBlock] at h
      · subst h1; simp [Value.ownBlock] at h; omega
    · right; omega
  have := h _ _ _ w' hacc hupd hge hlen'
  refine WL.value hg rfl hN (fun a hk' => ?_) this
  simp only [execOp, resolve, invoke, builtin]
  simp [hk'.ev hs, hk'.ev hx, append_two hu hu2, hr]

theorem t_appZ {t tn e : TypeId} {z : Value} {bytes k i m n c : Nat} {s x : Operand} {b off : Nat} {cs : List Value} {mv : Int}
    (hu : P.underlying t = some (.slice e)) (hun : P.underlying tn = some (.int .i64)) (hi : (P.info? e).map (fun i => (i.zero, i.size, i.bytes)) = some (some z, k, bytes)) (hz : z.cells.size = k) (hk0 : 0 < k)
    (hg : grd ops L g = true) (hN : Nat.blt d N = true) (hs : ev L s = some (.slice (some ⟨b, off, none⟩) i c)) (hx : ev L x = some (.int .i64 mv)) (hm : mv = (m : Int)) (hn : i + m = n) (hm0 : 0 < m) (hc : c < n)
    (hcs : cs.length = i * k) (ha : At w b off cs) (hsm : n ≤ 1000000) (hby : bytes ≤ 1000)
    (h : ∀ cap' w' zs, n ≤ cap' → cap' ≤ maxLen → List.length zs = (cap' - i) * k → Blk w' w.heap.size e (cs ++ zs) → Ext w w' → WL rd P ops Q N ds rest ((d, .slice (some ⟨w.heap.size, 0, none⟩) n cap') :: L) w') :
    WL rd P ops Q N ds (⟨some d, .call ⟨.builtin .append, #[s, x], #[t, tn]⟩, ty, pos, aft, g⟩ :: rest) L w := by
  subst hm hn
  obtain ⟨i0, hi0, hi1, hi2, hi3⟩ := info_parts' hi
  have hold : (Builtin.firstCells i0.size i (.slice (some ⟨b, off, none⟩) i c)).run P w.drew = .ok cs.toArray w.drew := by
    rw [hi2]
    exact run_firstCells_some (w := w.drew) k i ⟨b, off, none⟩ i c cs hcs (fun j v hj => by rw [addr_add]; exact ha j v hj)
  have hb1 : (i + m) * bytes ≤ 1000000 * 1000 := Nat.mul_le_mul hsm hby
  have hb2 : m * bytes ≤ 1000000 * 1000 := Nat.mul_le_mul (by omega) hby
  have hr := Lib.run_append_grow_zeros (P := P) w t tn ty e i0 z .i64 .i64 hu hun hi0 hi1 (some ⟨b, off, none⟩) i c cs hold m hm0 (by omega) hc (by omega) (by rw [hi3]; omega) (by rw [hi3]; exact growslice_fits hc (by omega))
  have hge := grownCap_ge w (i + m) c e
  have hle := grownCap_le_maxLen w (i + m) c e (by unfold maxLen; omega)
  generalize grownCap w (i + m) c e = G at hr hge hle
  have hzl : ∀ q, (Builtin.zeroCells z.cells q).size = q * k := fun q => by simp [Builtin.zeroCells, hz]
  have hB : Blk (w.drew.alloc (.cells (cs.toArray ++ Builtin.zeroCells z.cells m ++ Builtin.zeroCells z.cells (G - (i + m))) e)) w.heap.size e (cs ++ ((Builtin.zeroCells z.cells m).toList ++ (Builtin.zeroCells z.cells (G - (i + m))).toList)) := by
    have := Blk.new w.drew e (cs ++ ((Builtin.zeroCells z.cells m).toList ++ (Builtin.zeroCells z.cells (G - (i + m))).toList))
    have e2 : (cs ++ ((Builtin.zeroCells z.cells m).toList ++ (Builtin.zeroCells z.cells (G - (i + m))).toList)).toArray = cs.toArray ++ Builtin.zeroCells z.cells m ++ Builtin.zeroCells z.cells (G - (i + m)) := by
      apply Array.toList_inj.1; simp
    rw [e2] at this
    exact this
  refine WL.value hg rfl hN (fun a hk => ?_) (h G _ _ hge hle ?_ hB ((Upd.drew w).trans (Upd.alloc _ _)))
  · simp only [execOp, resolve, invoke, builtin]
    simp [hk.ev hs, hk.ev hx, hr]
  · simp only [List.length_append, Array.length_toList, hzl]
    rw [← Nat.add_mul]
    congr 1; omega

theorem t_apart {f : Operand} {k : FuncId} {fn : Func} {x y : Operand} {ats : Array TypeId} {tS tR e tA tB : TypeId} {a b oa ob la ca lb cb : Nat} {cA cB : List Value} {n : Nat}
    (hfn : P.funcs[k]? = some fn) (hname : (fn.name == "runtime.NumGoroutine") = false) (hb : fn.body.isNone = true) (hnx : Extern.findNext fn = none) (he : Extern.find fn = some (Extern.SlicesOverlaps.overlaps #[tS, tS] #[tR]))
    (hu : P.underlying tS = some (.slice e)) (hz : ∀ w, (sizeOf e).run P w = .ok n w) (hg : grd ops L g = true) (hN : Nat.blt d N = true) (hf : ev L f = some (.func (.func k) #[] #[]))
    (hx : ev L x = some (.slice (some ⟨a, oa, none⟩) la ca)) (hy : ev L y = some (.slice (some ⟨b, ob, none⟩) lb cb)) (hA : Blk w a tA cA) (hB : Blk w b tB cB) (hne : a ≠ b) (hl : 0 < cB.length)
    (h : WL rd P ops Q N ds rest ((d, .bool false) :: L) w) : WL rd P ops Q N ds (⟨some d, .call ⟨.value f, #[x, y], ats⟩, ty, pos, aft, g⟩ :: rest) L w := by
  refine WL.value hg rfl hN (fun ac hk => ?_) h
  have hsa : w.shape? a = some (tA, cA.length) := by unfold Blk at hA; simp [World.shape?, hA]
  have hsb : w.shape? b = some (tB, cB.length) := by unfold Blk at hB; simp [World.shape?, hB]
  have hr := Lib.run_overlaps_apart (P := P) w tS tR e hu n hz ⟨a, oa, none⟩ ⟨b, ob, none⟩ la ca lb cb hne tA tB cA.length cB.length hsa hsb (by omega) hA.free hA.free
  have hr2 := run_callFunc_extern hfn hname hb hnx he #[.slice (some ⟨a, oa, none⟩) la ca, .slice (some ⟨b, ob, none⟩) lb cb] w
  rw [hr] at hr2
  simp only [execOp, resolve, invoke]
  simp [hk.ev hf, hk.ev hx, hk.ev hy, Deferred.ofValue, hr2, Result.andThen]
end

theorem subAddr_some {b o cap l k : Nat} (h : l < cap) : subAddr (some ⟨b, o, none⟩) cap l k = some ⟨b, o + l * k, none⟩ := by
  unfold subAddr
  rw [if_neg (by omega)]
  exact congrArg some (addr_add b o (l * k))
theorem Acc.lower {α : Type} {enc : α → List Value} {k : Nat} {e : TypeId} {base base' : Nat} {w : World} {ao : Option Addr} {g cap : Nat} {xs : List α} (h : Acc enc k e base w ao g cap xs) (hb : base' ≤ base) (h0 : 0 < base') : ∃ g', Acc enc k e base' w ao g' cap xs := by
  rcases h.at_ with ⟨h1, h2, h3, h4⟩ | ⟨h1, h2, h3⟩
  · exact ⟨0, Nat.lt_of_le_of_lt (Nat.zero_le _) h.lt, .inl ⟨h1, h2, h3, h0⟩⟩
  · exact ⟨g, h.lt, .inr ⟨h1, by omega, h3⟩⟩
theorem Sl.cellsFrom {α : Type} [Inhabited α] {enc : α → List Value} {k : Nat} (hk0 : 0 < k) (hk : ∀ x, (enc x).length = k) {w : World} {ao : Option Addr} {b o : Nat} {xs : List α} (h : Sl enc k w ao b o xs) (l m : Nat) : At w b (o + l * k) (((xs.drop l).take m).flatMap enc) := fun j v hj => by
  have := sl_cells hk0 hk (h.sub xs.length l m (Nat.le_refl _)) j v hj
  rwa [addr_add] at this
theorem Acc.raw {α : Type} {enc : α → List Value} {k : Nat} {e : TypeId} {base : Nat} {w : World} {ao : Option Addr} {g cap : Nat} {xs : List α} (h : Acc enc k e base w ao g cap xs) (hp : 0 < cap ∨ 0 < xs.length) :
    ao = some ⟨g, 0, none⟩ ∧ base ≤ g ∧ xs.length ≤ cap ∧ cap ≤ maxLen ∧ ∃ cs, Blk w g e cs ∧ cs.length = cap * k ∧ cs.take (xs.length * k) = xs.flatMap enc := by
  rcases h.at_ with ⟨_, h1, h2, _⟩ | ⟨h1, h2, cur, h3, h4, h5, h6, h7⟩
  · subst h1 h2; rcases hp with hp | hp <;> exact absurd hp (by simp)
  · exact ⟨h1, h2, h4, h5, cur.toList, by unfold Blk; simpa using h3, by simpa using h6, h7⟩
theorem Acc.ofRaw {α : Type} {enc : α → List Value} {k : Nat} {e : TypeId} {base : Nat} {w : World} {g cap : Nat} {xs : List α} {cs : List Value} (hB : Blk w g e cs) (hb : base ≤ g) (hc : xs.length ≤ cap) (hm : cap ≤ maxLen) (hl : cs.length = cap * k) (ht : cs.take (xs.length * k) = xs.flatMap enc) : Acc enc k e base w (some ⟨g, 0, none⟩) g cap xs :=
  ⟨hB.lt, .inr ⟨rfl, hb, cs.toArray, hB, hc, hm, by simpa using hl, by simpa using ht⟩⟩
theorem lay_take : ∀ (vs cs : List Value) (i : Nat), i + vs.length ≤ cs.length → (lay cs i vs).take (i + vs.length) = cs.take i ++ vs
  | [], cs, i, _ => by simp [lay]
  | v :: vs, cs, i, h => by
    simp only [List.length_cons] at h
    show (lay (cs.set i v) (i + 1) vs).take (i + (vs.length + 1)) = _
    rw [show i + (vs.length + 1) = i + 1 + vs.length by omega, lay_take vs (cs.set i v) (i + 1) (by rw [List.length_set]; omega)]
    rw [List.take_set, show cs.take (i + 1) = cs.take i ++ [cs[i]'(by omega)] from (List.take_succ_eq_append_getElem (by omega)), List.set_append_right _ _ (by simp; omega)]
    simp [Nat.min_eq_left (show i ≤ cs.length by omega)]
theorem lay_drop : ∀ (vs cs : List Value) (i : Nat), (lay cs i vs).drop (i + vs.length) = cs.drop (i + vs.length)
  | [], cs, i => by simp [lay]
  | v :: vs, cs, i => by
    show (lay (cs.set i v) (i + 1) vs).drop (i + (vs.length + 1)) = _
    rw [show i + (vs.length + 1) = i + 1 + vs.length by omega, lay_drop vs (cs.set i v) (i + 1), List.drop_set_of_lt (by omega), show i + (v :: vs).length = i + 1 + vs.length by rw [List.length_cons]; omega]
theorem lay_eq {vs cs : List Value} {i : Nat} (h : i + vs.length ≤ cs.length) : lay cs i vs = cs.take i ++ vs ++ cs.drop (i + vs.length) := by
  rw [← lay_take vs cs i h, ← lay_drop vs cs i, List.take_append_drop]
theorem raw_take {α : Type} {enc : α → List Value} {k m : Nat} (hk : ∀ x, (enc x).length = k) {xs : List α} {C : List Value} (h : C.take (xs.length * k) = xs.flatMap enc) (hm : m ≤ xs.length) : C.take (m * k) = (xs.take m).flatMap enc := by
  have h9 := congrArg (List.take (m * k)) h
  rw [List.take_take, Nat.min_eq_left (Nat.mul_le_mul_right _ hm)] at h9
  rw [h9]
  have e : xs.flatMap enc = (xs.take m).flatMap enc ++ (xs.drop m).flatMap enc := by rw [← List.flatMap_append, List.take_append_drop]
  rw [e, List.take_left' (by rw [flatMap_len hk, List.length_take, Nat.min_eq_left hm])]
theorem ins_rawA {α : Type} {enc : α → List Value} {k m n : Nat} (hk : ∀ x, (enc x).length = k) {xs : List α} {s : α} {C : List Value} (hn : xs.length = n) (hm : m < n) (hC : (n + 1) * k ≤ C.length) (h1 : C.take (m * k) = (xs.take m).flatMap enc) :
    (lay (lay C (m * k) (enc s)) ((m + 1) * k) ((xs.drop m).flatMap enc)).take ((n + 1) * k) = (xs.take m ++ s :: xs.drop m).flatMap enc := by
  have l1 : ((xs.drop m).flatMap enc).length = (n - m) * k := by rw [flatMap_len hk, List.length_drop, hn]
  have e1 : (m + 1) * k = m * k + (enc s).length := by rw [hk, Nat.succ_mul]
  have e2 : (n + 1) * k = (m + 1) * k + ((xs.drop m).flatMap enc).length := by rw [l1, ← Nat.add_mul]; congr 1; omega
  have q1 : m * k + (enc s).length ≤ C.length := by rw [← e1]; exact Nat.le_trans (Nat.mul_le_mul_right _ (by omega)) hC
  rw [e2, lay_take _ _ _ (by rw [lay_length, ← e2]; exact hC), e1, lay_take _ _ _ q1, h1]
  simp
theorem ins_rawB {α : Type} {enc : α → List Value} {k m n : Nat} (hk : ∀ x, (enc x).length = k) {xs : List α} {s : α} {C : List Value} (hn : xs.length = n) (hm : m < n) (hC : (n + 1) * k ≤ C.length) (h1 : C.take (m * k) = (xs.take m).flatMap enc) :
    (lay (lay C ((m + 1) * k) ((xs.drop m).flatMap enc)) (m * k) (enc s)).take ((n + 1) * k) = (xs.take m ++ s :: xs.drop m).flatMap enc := by
  have l1 : ((xs.drop m).flatMap enc).length = (n - m) * k := by rw [flatMap_len hk, List.length_drop, hn]
  have e1 : (m + 1) * k = m * k + (enc s).length := by rw [hk, Nat.succ_mul]
  have e2 : (n + 1) * k = (m + 1) * k + ((xs.drop m).flatMap enc).length := by rw [l1, ← Nat.add_mul]; congr 1; omega
  have q2 : m * k ≤ (n + 1) * k := Nat.mul_le_mul_right _ (by omega)
  have q3 : (m + 1) * k ≤ (n + 1) * k := Nat.mul_le_mul_right _ (by omega)
  have hL : (lay C ((m + 1) * k) ((xs.drop m).flatMap enc)).length = C.length := lay_length _ _ _
  rw [lay_eq (by rw [hL, ← e1]; omega), ← e1]
  have t1 : (lay C ((m + 1) * k) ((xs.drop m).flatMap enc)).take ((n + 1) * k) = C.take ((m + 1) * k) ++ (xs.drop m).flatMap enc := by rw [e2]; exact lay_take _ _ _ (by rw [← e2]; exact hC)
  have t2 : (lay C ((m + 1) * k) ((xs.drop m).flatMap enc)).take (m * k) = C.take (m * k) := by
    have := congrArg (List.take (m * k)) t1
    rw [List.take_take, Nat.min_eq_left q2, List.take_append_of_le_length (by rw [List.length_take]; omega), List.take_take, Nat.min_eq_left (by rw [e1]; omega)] at this
    exact this
  have hlen : (C.take (m * k) ++ enc s).length = (m + 1) * k := by rw [List.length_append, List.length_take, e1]; omega
  rw [t2, List.take_append, hlen, List.take_of_length_le (by rw [hlen]; exact q3)]
  have t3 : ((lay C ((m + 1) * k) ((xs.drop m).flatMap enc)).drop ((m + 1) * k)).take ((n + 1) * k - (m + 1) * k) = (xs.drop m).flatMap enc := by
    have := congrArg (List.drop ((m + 1) * k)) t1
    rw [List.drop_take, List.drop_left' (by rw [List.length_take]; omega)] at this
    exact this
  rw [t3, h1]
  simp
end Go.Proofs.YtagmodjadmecdaaGreat
namespace Go.Proofs.YtagmodjadmecdaaGreat
open Go Go.RowKit
section
variable {rd : Option Nat} {P : Program} {N : Nat} {ds : List Deferred} {Q : Exit → Act → World → Prop} {L L' : Slots} {w : World} {c : Code} {m : Nat}
def WR (rd : Option Nat) (P : Program) (Q : Exit → Act → World → Prop) (N : Nat) (ds : List Deferred) (c : Code) (m : Nat) (L : Slots) (w : World) : Prop := ∀ a, Kn N ds L a → Code.roundsIn (rnd rd) 3 P c Q m a w
theorem c_rounds (m : Nat) (h : WR rd P Q N ds c m L w) : WC rd P Q N ds (.loop c) L w := fun a ha => wpIn_loop_rounds m (h a ha)
theorem r_round (h : ∀ K : Act → World → Prop, (∀ L'' w'', WR rd P Q N ds c m L'' w'' → QK K N ds L'' w'') → WC rd P (Exit.then K Q) N ds c L w) : WR rd P Q N ds c (m + 1) L w :=
  fun a ha => h (Code.roundsIn (rnd rd) 3 P c Q m) (fun _ _ h2 a' ha' => h2 a' ha') a ha
theorem WR.weak (L' : Slots) (hs : Sub L' L) (h : WR rd P Q N ds c m L' w) : WR rd P Q N ds c m L w := fun a ha => h a (ha.sub hs)
end
end Go.Proofs.YtagmodjadmecdaaGreat
