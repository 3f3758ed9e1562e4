/-
  A region in any order whose operations turn nothing: it may be walked in the order of its text. Conditions: none; it holds over any program.
-/
import Derived.Test.YtagmodjadmecdaaPAcc
import Derived.Test.YtagmodjadmecdaaPEq
import Derived.Test.YtagmodjadmecdaaPDraw
import Derived.Test.YtagmodjadmecdaaPIdv
namespace Go.Proofs.Ytagmodjadmecdaa
open Go Go.RowKit

def tmpOf : Operand → List Nat
  | .tmp t => [t]
  | _ => []
def gdSlot (ops : Array Oper) : Option (Nat × Bool) → List Nat
  | none => []
  | some (j, _) => match (ops[j]?).bind (·.dst) with
    | none => []
    | some d => [d]
/-- The slots that an operation may look at. -/
def rds (ops : Array Oper) (o : Oper) : List Nat := o.op.operands.toList.flatMap tmpOf ++ gdSlot ops o.guard
/-- What is known of these slots in L is known in L'. -/
def Ag (S : List Nat) (L L' : Slots) : Prop := ∀ s ∈ S, ∀ v, look s L = some v → look s L' = some v
theorem Ag.ev {S : List Nat} {L L' : Slots} {x : Operand} {v : Value} (h : Ag S L L') (hs : ∀ t ∈ tmpOf x, t ∈ S) (he : ev L x = some v) : ev L' x = some v := by
  cases x with
  | tmp t => exact h t (hs t (by simp [tmpOf])) v he
  | const u => exact he
  | global u => exact he
  | func u => exact he
theorem Ag.evs {S : List Nat} {L L' : Slots} (h : Ag S L L') : ∀ {xs : List Operand} {vs : List Value}, (∀ x ∈ xs, ∀ t ∈ tmpOf x, t ∈ S) → evs L xs = some vs → evs L' xs = some vs
  | [], _, _, he => he
  | x :: r, vs, hs, he => by
    simp only [Go.Proofs.Ytagmodjadmecdaa.evs] at he ⊢
    cases h1 : Go.Proofs.Ytagmodjadmecdaa.ev L x with
    | none => simp [h1] at he
    | some v =>
      cases h2 : Go.Proofs.Ytagmodjadmecdaa.evs L r with
      | none => simp [h1, h2] at he
      | some ws =>
        rw [h1, h2] at he
        rw [h.ev (hs x (by simp)) h1, Ag.evs h (fun y hy => hs y (List.mem_cons_of_mem _ hy)) h2]
        exact he
theorem Ag.grd {ops : Array Oper} {o : Oper} {L L' : Slots} (h : Ag (rds ops o) L L') (hg : grd ops L o.guard = true) : grd ops L' o.guard = true := by
  have hm : ∀ s ∈ gdSlot ops o.guard, s ∈ rds ops o := fun s hs => List.mem_append_right _ hs
  cases hgd : o.guard with
  | none => rfl
  | some p =>
    obtain ⟨j, b⟩ := p
    rw [hgd] at hg hm
    simp only [Go.Proofs.Ytagmodjadmecdaa.grd] at hg ⊢
    cases hd : (ops[j]?).bind (·.dst) with
    | none => rw [hd] at hg; cases hg
    | some d =>
      rw [hd] at hg
      simp only [] at hg ⊢
      cases hl : look d L with
      | none => rw [hl] at hg; cases hg
      | some v =>
        rw [hl] at hg
        rw [h d (hm d (by simp [gdSlot, hd])) v hl]
        exact hg
theorem Ag.ngrd {ops : Array Oper} {o : Oper} {L L' : Slots} (h : Ag (rds ops o) L L') (hg : ngrd ops L o.guard = true) : ngrd ops L' o.guard = true := by
  have hm : ∀ s ∈ gdSlot ops o.guard, s ∈ rds ops o := fun s hs => List.mem_append_right _ hs
  cases hgd : o.guard with
  | none => rw [hgd] at hg; cases hg
  | some p =>
    obtain ⟨j, b⟩ := p
    rw [hgd] at hg hm
    simp only [Go.Proofs.Ytagmodjadmecdaa.ngrd] at hg ⊢
    cases hd : (ops[j]?).bind (·.dst) with
    | none => rw [hd] at hg; cases hg
    | some d =>
      rw [hd] at hg
      simp only [] at hg ⊢
      cases hl : look d L with
      | none => rw [hl] at hg; cases hg
      | some v =>
        rw [hl] at hg
        rw [h d (hm d (by simp [gdSlot, hd])) v hl]
        exact hg

/-- One operation, at whatever frame that agrees, and whatever has been made in between. -/
def P1 (rd : Option Nat) (P : Program) (ops : Array Oper) (N : Nat) (ds : List Deferred) (w : World) (o : Oper) (d : Nat) (v : Value) (L : Slots) : Prop :=
  ∀ w' L' Q', Ext w w' → Ag (rds ops o) L L' → (∀ w'', Ext w' w'' → WL rd P ops Q' N ds [] ((d, v) :: L') w'') → WL rd P ops Q' N ds [o] L' w'
/-- The operations one after another, each turning nothing; then what follows. -/
def PC (rd : Option Nat) (P : Program) (ops : Array Oper) (Q : Exit → Act → World → Prop) (N : Nat) (ds : List Deferred) (w : World) (tail : List Oper) : List Oper → Slots → Prop
  | [], L => ∀ w', Ext w w' → WL rd P ops Q N ds tail L w'
  | o :: r, L => ∃ d v, o.dst = some d ∧ P1 rd P ops N ds w o d v L ∧ PC rd P ops Q N ds w tail r ((d, v) :: L)
section
variable {rd : Option Nat} {P : Program} {ops : Array Oper} {Q : Exit → Act → World → Prop} {N : Nat} {ds : List Deferred} {tail rest : List Oper} {L : Slots} {w : World}
variable {d : Nat} {ty : TypeId} {pos : String} {aft : Array Edge} {g : Option (Nat × Bool)}

theorem WL.look_eq {l : List Oper} {L1 L2 : Slots} (e : ∀ k, look k L2 = look k L1) (h : WL rd P ops Q N ds l L1 w) : WL rd P ops Q N ds l L2 w := fun a ha => h a ⟨ha.size, ha.defers, fun k v hk => ha.get k v (by rw [e]; exact hk)⟩
theorem PC.look_eq : ∀ {l : List Oper} {L1 L2 : Slots}, (∀ k, look k L2 = look k L1) → PC rd P ops Q N ds w tail l L1 → PC rd P ops Q N ds w tail l L2
  | [], _, _, e, h => fun w' u => (h w' u).look_eq e
  | o :: r, L1, L2, e, h => by
    obtain ⟨d, v, h1, h2, h3⟩ := h
    exact ⟨d, v, h1, fun w' L' Q' u a k => h2 w' L' Q' u (fun s hs x hx => a s hs x (by rw [e]; exact hx)) k, PC.look_eq (fun k => by simp only [look]; cases Nat.beq k d <;> simp [e]) h3⟩
def accL : List Oper → List Value → Slots → Slots
  | o :: r, v :: vs, L => match o.dst with
    | some d => accL r vs ((d, v) :: L)
    | none => accL r vs L
  | _, _, L => L
def planOf : List Oper → List Value → Plan
  | o :: r, v :: vs => (o.dst.map fun d => (d, some v)) :: planOf r vs
  | _, _ => []
theorem PC.out : ∀ {r : List Oper} {L : Slots}, PC rd P ops Q N ds w tail r L → ∃ vs : List Value, vs.length = r.length ∧ (∀ i o, r[i]? = some o → ∃ d v, o.dst = some d ∧ vs[i]? = some v ∧ P1 rd P ops N ds w o d v (accL (r.take i) vs L)) ∧ ∀ w', Ext w w' → WL rd P ops Q N ds tail (accL r vs L) w'
  | [], L, h => ⟨[], rfl, fun i o ho => by simp at ho, h⟩
  | o :: r, L, h => by
    obtain ⟨d, v, h1, h2, h3⟩ := h
    obtain ⟨vs, e, ha, hb⟩ := PC.out h3
    refine ⟨v :: vs, by simp [e], fun i o' ho => ?_, fun w' u => ?_⟩
    · cases i with
      | zero =>
        simp at ho
        subst ho
        exact ⟨d, v, h1, rfl, h2⟩
      | succ i =>
        obtain ⟨d', v', a1, a2, a3⟩ := ha i o' (by simpa using ho)
        refine ⟨d', v', a1, by simpa using a2, ?_⟩
        rw [List.take_succ_cons]
        simp only [accL, h1]
        exact a3
    · simp only [accL, h1]
      exact hb w' u
theorem planOf_len : ∀ {r : List Oper} {vs : List Value}, r.length ≤ vs.length → (planOf r vs).length = r.length
  | [], _, _ => by simp [planOf]
  | o :: r, [], h => by simp at h
  | o :: r, v :: vs, h => by simp [planOf, planOf_len (r := r) (vs := vs) (by simpa using h)]
theorem planOf_at : ∀ {r : List Oper} {vs : List Value} {i d : Nat} {v : Value} {o : Oper}, r[i]? = some o → o.dst = some d → vs[i]? = some v → (planOf r vs)[i]? = some (some (d, some v))
  | [], _, _, _, _, _, h, _, _ => by simp at h
  | o :: r, [], _, _, _, _, _, _, h => by simp at h
  | o :: r, v :: vs, 0, d, u, o', h, hd, hv => by
    simp at h hv
    subst h hv
    simp [planOf, hd]
  | o :: r, v :: vs, i + 1, d, u, o', h, hd, hv => by
    simp [planOf]
    exact planOf_at (by simpa using h) hd (by simpa using hv)
theorem slotsOf_plan : ∀ {r : List Oper} {vs : List Value}, r.length ≤ vs.length → slotsOf (planOf r vs) = r.filterMap (·.dst)
  | [], _, _ => by simp [planOf, slotsOf]
  | o :: r, [], h => by simp at h
  | o :: r, v :: vs, h => by
    have ih := slotsOf_plan (r := r) (vs := vs) (by simpa using h)
    cases hd : o.dst with
    | none => simp [planOf, hd, slotsOf, ih]
    | some d => simp [planOf, hd, slotsOf, ih]
theorem nodupB_take : ∀ {l m : List Nat}, nodupB (l ++ m) = true → nodupB l = true
  | [], _, _ => rfl
  | x :: l, m, h => by
    simp only [List.cons_append, nodupB, Bool.and_eq_true, Bool.not_eq_true'] at h ⊢
    refine ⟨?_, nodupB_take h.2⟩
    cases hb : memB x l with
    | false => rfl
    | true =>
      have : memB x (l ++ m) = true := memB_iff.2 (List.mem_append_left _ (memB_iff.1 hb))
      rw [this] at h; cases h.1
theorem look_acc {D : Nat → Bool} {ρ : Nat → Value} : ∀ {r : List Oper} {vs : List Value} {L : Slots} {m k : Nat}, r.length ≤ vs.length → nodupB (r.filterMap (·.dst)) = true → (∀ j, m ≤ j → j < m + r.length → D j = true) →
    look k (accL r vs L) = match look k (ld D ρ m (planOf r vs)) with | some v => some v | none => look k L
  | [], _, _, _, _, _, _, _ => by simp [accL, planOf, ld, look]
  | o :: r, [], _, _, _, h, _, _ => by simp at h
  | o :: r, v :: vs, L, m, k, h, hn, hD => by
    have h' : r.length ≤ vs.length := by simpa using h
    have hD' : ∀ j, m + 1 ≤ j → j < m + 1 + r.length → D j = true := fun j h1 h2 => hD j (by omega) (by simp; omega)
    cases hd : o.dst with
    | none =>
      have hn' : nodupB (r.filterMap (·.dst)) = true := by simpa [hd] using hn
      simp only [accL, planOf, hd, Option.map_none, ld]
      exact look_acc h' hn' hD'
    | some d =>
      have hn2 : memB d (r.filterMap (·.dst)) = false ∧ nodupB (r.filterMap (·.dst)) = true := by
        have : nodupB (d :: r.filterMap (·.dst)) = true := by simpa [hd] using hn
        simpa only [nodupB, Bool.and_eq_true, Bool.not_eq_true'] using this
      simp only [accL, planOf, hd, Option.map_some, ld]
      rw [look_acc h' hn2.2 hD', hD m (Nat.le_refl _) (by simp)]
      simp only [look]
      cases hb : Nat.beq k d with
      | false => rfl
      | true =>
        have e := Nat.eq_of_beq_eq_true hb
        subst e
        rw [look_none (by rw [slotsOf_plan h']; exact hn2.1)]
        simp
def pickF (L : Slots) : List Nat → Slots
  | [] => []
  | s :: r => match look s L with
    | some v => (s, v) :: pickF L r
    | none => pickF L r
theorem pickF_mem {L : Slots} : ∀ {S : List Nat} {s : Nat} {v : Value}, (s, v) ∈ pickF L S → s ∈ S ∧ look s L = some v
  | [], _, _, h => by simp [pickF] at h
  | x :: r, s, v, h => by
    simp only [pickF] at h
    cases hl : look x L with
    | none =>
      rw [hl] at h
      have := pickF_mem h
      exact ⟨List.mem_cons_of_mem _ this.1, this.2⟩
    | some u =>
      rw [hl] at h
      rcases List.mem_cons.1 h with h | h
      · injection h with h1 h2
        subst h1 h2
        exact ⟨by simp, hl⟩
      · have := pickF_mem h
        exact ⟨List.mem_cons_of_mem _ this.1, this.2⟩
theorem pickF_ag {L Lr : Slots} : ∀ {S : List Nat}, Ag S L (pickF L S ++ Lr)
  | [], s, hs, _, _ => by simp at hs
  | x :: r, s, hs, v, hv => by
    simp only [pickF]
    cases hl : look x L with
    | none =>
      rcases List.mem_cons.1 hs with h | h
      · subst h; rw [hl] at hv; cases hv
      · exact pickF_ag s h v hv
    | some u =>
      simp only [List.cons_append, look]
      cases hb : Nat.beq s x with
      | true =>
        have e := Nat.eq_of_beq_eq_true hb
        subst e
        rw [hl] at hv; exact hv
      | false =>
        rcases List.mem_cons.1 hs with h | h
        · subst h; rw [Nat.beq_refl] at hb; cases hb
        · exact pickF_ag s h v hv
theorem Fr.of {dep : Nat → List Nat} {V : Plan} {L0 : Slots} {ρ : Nat → Value} {i : Nat} : ∀ {F : Slots}, (∀ s v, (s, v) ∈ F → (∃ j u, memB j (dep i) = true ∧ V[j]? = some (some (s, u)) ∧ v = u.getD (ρ j)) ∨ (look s L0 = some v ∧ oldB dep i s 0 V = true)) → Fr dep V L0 ρ i F
  | [], _ => trivial
  | (s, v) :: r, h => ⟨h s v (by simp), Fr.of (fun s v hm => h s v (List.mem_cons_of_mem _ hm))⟩
theorem oldB_of {dep : Nat → List Nat} {i s : Nat} : ∀ {V : Plan} {k : Nat}, (∀ j v, V[j]? = some (some (s, v)) → memB i (dep (k + j)) = true) → oldB dep i s k V = true
  | [], _, _ => rfl
  | none :: r, k, h => by
    simp only [oldB]
    exact oldB_of (fun j v hj => by have := h (j + 1) v (by simpa using hj); rwa [show k + (j + 1) = k + 1 + j from by omega] at this)
  | some (d, u) :: r, k, h => by
    simp only [oldB, Bool.and_eq_true]
    refine ⟨?_, oldB_of (fun j v hj => by have := h (j + 1) v (by simpa using hj); rwa [show k + (j + 1) = k + 1 + j from by omega] at this)⟩
    cases hb : Nat.beq s d with
    | false => rfl
    | true =>
      have e := Nat.eq_of_beq_eq_true hb
      subst e
      exact h 0 u rfl
def dstIs (s : Nat) : Option Oper → Bool
  | some o => match o.dst with
    | some d => Nat.beq s d
    | none => false
  | none => false
theorem dstIs_iff {s : Nat} {o : Option Oper} : dstIs s o = true ↔ ∃ p, o = some p ∧ p.dst = some s := by
  cases o with
  | none => simp [dstIs]
  | some p =>
    cases hd : p.dst with
    | none => simp [dstIs, hd]
    | some d =>
      simp only [dstIs, hd]
      constructor
      · intro h; have := Nat.eq_of_beq_eq_true h; subst this; exact ⟨p, rfl, hd⟩
      · rintro ⟨q, h1, h2⟩
        cases h1
        rw [hd] at h2
        cases h2
        exact Nat.beq_refl _
/-- No operation behind i in the list but those that must run behind it writes s. -/
def freeB (dep : Nat → List Nat) (i s : Nat) : Nat → List Oper → Bool
  | _, [] => true
  | k, o :: r => (match dstIs s (some o) with | true => memB i (dep k) | false => true) && freeB dep i s (k + 1) r
theorem freeB_spec {dep : Nat → List Nat} {i s : Nat} : ∀ {r : List Oper} {k : Nat}, freeB dep i s k r = true → ∀ j o, r[j]? = some o → o.dst = some s → memB i (dep (k + j)) = true
  | [], _, _, j, o, h, _ => by simp at h
  | x :: r, k, hB, j, o, h, hd => by
    simp only [freeB, Bool.and_eq_true] at hB
    cases j with
    | zero =>
      simp at h
      subst h
      have h1 := hB.1
      rw [dstIs_iff.2 ⟨x, rfl, hd⟩] at h1
      exact h1
    | succ j =>
      have := freeB_spec hB.2 j o (by simpa using h) hd
      rwa [show k + 1 + j = k + (j + 1) from by omega] at this
/-- Each slot that an operation looks at was written by one that must have run, or by none that may have. -/
def rdsB (l : List Oper) (pre : List Oper) : Nat → List Oper → Bool
  | _, [] => true
  | i, o :: r => ((rds l.toArray o).all fun s => ((deps l.toArray i).any fun j => dstIs s l[j]?) || freeB (deps l.toArray) i s 0 pre) && rdsB l pre (i + 1) r
theorem rdsB_spec {l pre : List Oper} : ∀ {r : List Oper} {i : Nat}, rdsB l pre i r = true → ∀ j o, r[j]? = some o → ∀ s ∈ rds l.toArray o, (∃ q ∈ deps l.toArray (i + j), dstIs s l[q]? = true) ∨ freeB (deps l.toArray) (i + j) s 0 pre = true
  | [], _, _, j, o, h => by simp at h
  | x :: r, i, hB, j, o, h => by
    simp only [rdsB, Bool.and_eq_true] at hB
    cases j with
    | zero =>
      simp at h
      subst h
      intro s hs
      have h1 := List.all_eq_true.1 hB.1 s hs
      simp only [Bool.or_eq_true, List.any_eq_true] at h1
      exact h1
    | succ j =>
      have := rdsB_spec hB.2 j o (by simpa using h)
      rwa [show i + 1 + j = i + (j + 1) from by omega] at this
theorem c_drawnP {id : Nat} {L0 : Slots} {l : List Oper} (hm : P.follows .mixedOrders = true) (n1 : Nat) (hn1 : Nat.ble n1 l.length = true) (hnd : nodupB ((l.take n1).filterMap (·.dst)) = true) (hac : acyclicB l.toArray l.length = true) (hseq : seqB l.toArray n1 l.length = true ∨ n1 = l.length) (hr : rdsB l (l.take n1) 0 (l.take n1) = true)
    (h : PC rd P l.toArray Q N ds w (l.drop n1) (l.take n1) L0) : WC rd P Q N ds (.region id l.toArray true) L0 w := by
  obtain ⟨vs, hvl, hall, hfin⟩ := h.out
  have hn1' := Nat.le_of_ble_eq_true hn1
  have hlen : (l.take n1).length = n1 := by rw [List.length_take]; omega
  have hle : (l.take n1).length ≤ vs.length := by omega
  have hVl : (planOf (l.take n1) vs).length = n1 := by rw [planOf_len hle, hlen]
  have hVn : nodupB (slotsOf (planOf (l.take n1) vs)) = true := by rw [slotsOf_plan hle]; exact hnd
  have step : ∀ i o, i < n1 → l[i]? = some o → ∀ D ρ w', Closed (deps l.toArray) D → D i = false → (∀ j, j ∈ deps l.toArray i → D j = true) → Ext w w' →
      ∃ F, Fr (deps l.toArray) (planOf (l.take n1) vs) L0 ρ i F ∧ ∀ Lr, WL rd P l.toArray (DQ N ds (planOf (l.take n1) vs) (fun _ _ w' => Ext w w') D ρ i (F ++ Lr)) N ds [o] (F ++ Lr) w' := by
    intro i o hi ho D ρ w' _ _ _ hE
    have ho1 : (l.take n1)[i]? = some o := by rw [List.getElem?_take_of_lt hi]; exact ho
    obtain ⟨d, v, e1, e2, e3⟩ := hall i o ho1
    have hV := planOf_at ho1 e1 e2
    refine ⟨pickF (accL ((l.take n1).take i) vs L0) (rds l.toArray o), Fr.of (fun s x hm => ?_), fun Lr => e3 w' _ _ hE pickF_ag (fun w'' u => dz hV (hE.trans u))⟩
    obtain ⟨hs, hx⟩ := pickF_mem hm
    have hti : ((l.take n1).take i).length ≤ vs.length := by rw [List.length_take]; omega
    have hnt : nodupB (((l.take n1).take i).filterMap (·.dst)) = true := by
      have e : (l.take n1).filterMap (·.dst) = ((l.take n1).take i).filterMap (·.dst) ++ ((l.take n1).drop i).filterMap (·.dst) := by rw [← List.filterMap_append, List.take_append_drop]
      rw [e] at hnd
      exact nodupB_take hnd
    rw [look_acc (D := fun _ => true) (ρ := ρ) (m := 0) hti hnt (fun _ _ _ => rfl)] at hx
    have hno : (∀ (j : Nat) (o' : Oper), ((l.take n1).take i)[j]? = some o' → o'.dst ≠ some s) → look s (ld (fun _ => true) ρ 0 (planOf ((l.take n1).take i) vs)) = none := by
      intro hno
      refine look_none ?_
      rw [slotsOf_plan hti]
      cases hb : memB s (((l.take n1).take i).filterMap (·.dst)) with
      | false => rfl
      | true =>
        obtain ⟨o', h1, h2⟩ := List.mem_filterMap.1 (memB_iff.1 hb)
        obtain ⟨j, hj⟩ := List.mem_iff_getElem?.1 h1
        exact absurd h2 (hno j o' hj)
    have hrd := rdsB_spec hr i o ho1 s hs
    rw [Nat.zero_add] at hrd
    rcases hrd with ⟨q, hq, hqd⟩ | hfree
    · left
      obtain ⟨p, hp1, hp2⟩ := dstIs_iff.1 hqd
      have hqi : q < i := acyclic_lt hac (by omega) hq
      have hq1 : (l.take n1)[q]? = some p := by rw [List.getElem?_take_of_lt (by omega)]; exact hp1
      obtain ⟨d', v', f1, f2, _⟩ := hall q p hq1
      have e : d' = s := by rw [hp2] at f1; exact (Option.some.inj f1).symm
      subst e
      refine ⟨q, some v', memB_iff.2 hq, planOf_at hq1 f1 f2, ?_⟩
      have hq2 : ((l.take n1).take i)[q]? = some p := by rw [List.getElem?_take_of_lt hqi]; exact hq1
      have hlk := look_ran (V := planOf ((l.take n1).take i) vs) (i := 0) (j := q) (D := fun _ => true) (ρ := ρ) (by rw [slotsOf_plan hti]; exact hnt) (planOf_at hq2 f1 f2) rfl
      rw [hlk] at hx
      exact (Option.some.inj hx).symm
    · right
      have hnone := hno (fun j o' hj hd => by
        have hji : j < i := by
          rcases Nat.lt_or_ge j i with h9 | h9
          · exact h9
          · rw [List.getElem?_eq_none (by rw [List.length_take]; omega)] at hj; cases hj
        have hj1 : (l.take n1)[j]? = some o' := by rwa [List.getElem?_take_of_lt hji] at hj
        have h8 := freeB_spec hfree j o' hj1 hd
        rw [Nat.zero_add] at h8
        have := acyclic_lt hac (show j < l.length by omega) (memB_iff.1 h8)
        omega)
      rw [hnone] at hx
      refine ⟨hx, oldB_of (fun j u hj => ?_)⟩
      have hjn : j < n1 := by
        rcases Nat.lt_or_ge j n1 with h9 | h9
        · exact h9
        · rw [List.getElem?_eq_none (by omega)] at hj; cases hj
      have hj1 : (l.take n1)[j]? = some ((l.take n1)[j]'(by omega)) := List.getElem?_eq_getElem (by omega)
      obtain ⟨d', v', f1, f2, _⟩ := hall j _ hj1
      have := planOf_at hj1 f1 f2
      rw [this] at hj
      have e : d' = s := congrArg Prod.fst (Option.some.inj (Option.some.inj hj))
      subst e
      exact freeB_spec hfree j _ hj1 f1
  have hend : ∀ (D : Nat → Bool) (ρ : Nat → Value), (∀ j, j < n1 → D j = true) → ∀ k, look k (ld D ρ 0 (planOf (l.take n1) vs) ++ L0) = look k (accL (l.take n1) vs L0) := fun D ρ hD k => by
    rw [look_append, look_acc (D := D) (ρ := ρ) (m := 0) hle hnd (fun j _ h2 => hD j (by omega))]; cases look k (ld D ρ 0 (planOf (l.take n1) vs)) <;> rfl
  rcases hseq with hseq | hfull
  · refine c_drawS hm l.length n1 hn1' (planOf (l.take n1) vs) (fun _ _ w' => Ext w w') (fun _ => undef) rfl hVl hVn hac hseq (Upd.drew _) step (fun ρ w' hE => ?_)
    exact (hfin w' hE).look_eq (hend _ ρ (fun j hj => by simp [hj]))
  · subst hfull
    refine c_draw hm l.length (planOf (l.take l.length) vs) (fun _ _ w' => Ext w w') (fun _ => undef) rfl hVl hVn hac (Upd.drew _) (fun i o ho => ?_) (fun ρ w' hE => ?_)
    · have hi : i < l.length := (List.getElem?_eq_some_iff.1 ho).1
      exact step i o hi ho
    · have hw := hfin w' hE
      rw [List.drop_length] at hw
      exact hw.look_eq (hend _ ρ (fun _ _ => rfl))
/-- All of the region. -/
theorem c_drawnQ {id : Nat} {L0 : Slots} {l : List Oper} (hm : P.follows .mixedOrders = true) (hc : (nodupB (l.filterMap (·.dst)) && (acyclicB l.toArray l.length && rdsB l l 0 l)) = true)
    (h : PC rd P l.toArray Q N ds w [] l L0) : WC rd P Q N ds (.region id l.toArray true) L0 w := by
  simp only [Bool.and_eq_true] at hc
  refine c_drawnP hm l.length (Nat.ble_eq_true_of_le (Nat.le_refl _)) ?_ hc.2.1 (.inr rfl) ?_ ?_
  · rw [List.take_length]; exact hc.1
  · rw [List.take_length]; exact hc.2.2
  · rw [List.take_length, List.drop_length]; exact h
theorem p_nil (h : ∀ w', Ext w w' → WL rd P ops Q N ds tail L w') : PC rd P ops Q N ds w tail [] L := h
theorem p_of {o : Oper} {d : Nat} {v : Value} (hd : o.dst = some d) (t : ∀ w' L' Q', Ext w w' → Ag (rds ops o) L L' → WL rd P ops Q' N ds [] ((d, v) :: L') w' → WL rd P ops Q' N ds [o] L' w') (h : PC rd P ops Q N ds w tail rest ((d, v) :: L)) : PC rd P ops Q N ds w tail (o :: rest) L :=
  ⟨d, v, hd, fun w' L' Q' u a k => t w' L' Q' u a (k w' (Upd.refl _ _)), h⟩
theorem look_again {s : Nat} {u : Value} (hs : look s L = some u) (k : Nat) : look k L = look k ((s, u) :: L) := by
  simp only [look]
  cases hb : Nat.beq k s with
  | false => rfl
  | true => have e := Nat.eq_of_beq_eq_true hb; subst e; exact hs
theorem p_split (s : Nat) {b : Bool} {l : List Oper} (hs : look s L = some (.bool b)) (ht : b = true → PC rd P ops Q N ds w tail l ((s, .bool true) :: L)) (hf : b = false → PC rd P ops Q N ds w tail l ((s, .bool false) :: L)) : PC rd P ops Q N ds w tail l L := by
  cases b with
  | true => exact PC.look_eq (look_again hs) (ht rfl)
  | false => exact PC.look_eq (look_again hs) (hf rfl)
theorem p_splitp (s : Nat) {p : Prop} [Decidable p] {l : List Oper} (hs : look s L = some (.bool (decide p))) (ht : p → PC rd P ops Q N ds w tail l ((s, .bool true) :: L)) (hf : ¬ p → PC rd P ops Q N ds w tail l ((s, .bool false) :: L)) : PC rd P ops Q N ds w tail l L :=
  p_split s hs (fun e => ht (of_decide_eq_true e)) (fun e => hf (of_decide_eq_false e))
theorem p_skip {o : Oper} {d : Nat} (hg : ngrd ops L o.guard = true) (hd : o.dst = some d) (hN : Nat.blt d N = true) (h : PC rd P ops Q N ds w tail rest ((d, undef) :: L)) : PC rd P ops Q N ds w tail (o :: rest) L :=
  p_of hd (fun _ _ _ _ a k => t_skip (a.ngrd hg) hd hN k) h
theorem cell_keep {w w' : World} {b off : Nat} {v : Value} (h : w.cell? ⟨b, off, none⟩ = some v) (u : Ext w w') : w'.cell? ⟨b, off, none⟩ = some v := by
  have hb : b < w.heap.size := by
    rcases Nat.lt_or_ge b w.heap.size with h9 | h9
    · exact h9
    · have e : w.heap[b]? = none := Array.getElem?_eq_none h9
      simp [World.cell?, e] at h
  exact (World.cell?_of_block (w := w) (a := ⟨b, off, none⟩) (u.block b hb (fun h => h))).trans h
theorem p_move {x : Operand} {v : Value} (hg : grd ops L g = true) (hN : Nat.blt d N = true) (hx : ev L x = some v)
    (h : PC rd P ops Q N ds w tail rest ((d, v) :: L)) : PC rd P ops Q N ds w tail (⟨some d, .move x, ty, pos, aft, g⟩ :: rest) L :=
  p_of rfl (fun _ _ _ _ a k => t_move (a.grd hg) hN (a.ev (by intro t ht; simp [rds, Op.operands, Call.operands, ht]) hx) k) h
theorem p_pick_t {c x y : Operand} {v : Value} (hg : grd ops L g = true) (hN : Nat.blt d N = true) (hc : ev L c = some (.bool true)) (hx : ev L x = some v)
    (h : PC rd P ops Q N ds w tail rest ((d, v) :: L)) : PC rd P ops Q N ds w tail (⟨some d, .pick c x y, ty, pos, aft, g⟩ :: rest) L :=
  p_of rfl (fun _ _ _ _ a k => t_pick_t (a.grd hg) hN (a.ev (by intro t ht; simp [rds, Op.operands, Call.operands, ht]) hc) (a.ev (by intro t ht; simp [rds, Op.operands, Call.operands, ht]) hx) k) h
theorem p_pick_f {c x y : Operand} {v : Value} (hg : grd ops L g = true) (hN : Nat.blt d N = true) (hc : ev L c = some (.bool false)) (hy : ev L y = some v)
    (h : PC rd P ops Q N ds w tail rest ((d, v) :: L)) : PC rd P ops Q N ds w tail (⟨some d, .pick c x y, ty, pos, aft, g⟩ :: rest) L :=
  p_of rfl (fun _ _ _ _ a k => t_pick_f (a.grd hg) hN (a.ev (by intro t ht; simp [rds, Op.operands, Call.operands, ht]) hc) (a.ev (by intro t ht; simp [rds, Op.operands, Call.operands, ht]) hy) k) h
theorem p_cmp {op : BinOp} {xt yt : TypeId} {x y : Operand} {k : IntKind} {m n : Int} {v : Value} (hg : grd ops L g = true) (hN : Nat.blt d N = true) (hx : ev L x = some (.int k m)) (hy : ev L y = some (.int k n)) (hv : cmpI op m n = some v)
    (h : PC rd P ops Q N ds w tail rest ((d, v) :: L)) : PC rd P ops Q N ds w tail (⟨some d, .binOp op xt x y yt, ty, pos, aft, g⟩ :: rest) L :=
  p_of rfl (fun _ _ _ _ a k => t_cmp (a.grd hg) hN (a.ev (by intro t ht; simp [rds, Op.operands, Call.operands, ht]) hx) (a.ev (by intro t ht; simp [rds, Op.operands, Call.operands, ht]) hy) hv k) h
theorem p_ari {op : BinOp} {xt yt : TypeId} {x y : Operand} {m n r : Int} (hg : grd ops L g = true) (hN : Nat.blt d N = true) (hx : ev L x = some (.int .i64 m)) (hy : ev L y = some (.int .i64 n)) (hv : ariI op m n = some r) (hr : -9223372036854775808 ≤ r ∧ r ≤ 9223372036854775807)
    (h : PC rd P ops Q N ds w tail rest ((d, .int .i64 r) :: L)) : PC rd P ops Q N ds w tail (⟨some d, .binOp op xt x y yt, ty, pos, aft, g⟩ :: rest) L :=
  p_of rfl (fun _ _ _ _ a k => t_ari (a.grd hg) hN (a.ev (by intro t ht; simp [rds, Op.operands, Call.operands, ht]) hx) (a.ev (by intro t ht; simp [rds, Op.operands, Call.operands, ht]) hy) hv hr k) h
theorem p_len {t : TypeId} {e : TypeId} {x : Operand} {ao : Option Addr} {n c : Nat} {ats : Array TypeId} (hu : P.underlying t = some (.slice e)) (ht : ats[0]? = some t) (hg : grd ops L g = true) (hN : Nat.blt d N = true) (hx : ev L x = some (.slice ao n c))
    (h : PC rd P ops Q N ds w tail rest ((d, .int .i64 (n : Int)) :: L)) : PC rd P ops Q N ds w tail (⟨some d, .call ⟨.builtin .len, #[x], ats⟩, ty, pos, aft, g⟩ :: rest) L :=
  p_of rfl (fun _ _ _ _ a k => t_len hu ht (a.grd hg) hN (a.ev (by intro t ht; simp [rds, Op.operands, Call.operands, ht]) hx) k) h
theorem p_field {s : TypeId} {x : Operand} {fs : Array Field} {f : Field} {i n b off : Nat} (hu : P.underlying s = some (.struct fs)) (hf : fs[i]? = some f) (hs : ∀ w, (sizeOf f.type).run P w = .ok (n + 1) w) (o' : Nat) (hg : grd ops L g = true) (hN : Nat.blt d N = true) (hx : ev L x = some (.pointer (some ⟨b, off, none⟩))) (ho : off + f.offset = o')
    (h : PC rd P ops Q N ds w tail rest ((d, .pointer (some ⟨b, o', none⟩)) :: L)) : PC rd P ops Q N ds w tail (⟨some d, .fieldAddr s x i, ty, pos, aft, g⟩ :: rest) L :=
  p_of rfl (fun _ _ _ _ a k => t_field hu hf hs o' (a.grd hg) hN (a.ev (by intro t ht; simp [rds, Op.operands, Call.operands, ht]) hx) ho k) h
theorem p_index {t e : TypeId} {x i : Operand} {k : IntKind} {b o len cap s : Nat} {j : Nat} {n : Int} (hu : P.underlying t = some (.slice e)) (hs : ∀ w, (sizeOf e).run P w = .ok s w) (hg : grd ops L g = true) (hN : Nat.blt d N = true) {ao : Option Addr} (hx : ev L x = some (.slice ao len cap)) (hi : ev L i = some (.int k n)) (hao : ao = some ⟨b, o, none⟩) (hj : n = (j : Int)) (hl : j < len)
    (h : PC rd P ops Q N ds w tail rest ((d, .pointer (some ⟨b, o + j * s, none⟩)) :: L)) : PC rd P ops Q N ds w tail (⟨some d, .indexAddr t x i, ty, pos, aft, g⟩ :: rest) L :=
  p_of rfl (fun _ _ _ _ a k => t_index (j := j) hu hs (a.grd hg) hN (a.ev (by intro t ht; simp [rds, Op.operands, Call.operands, ht]) hx) (a.ev (by intro t ht; simp [rds, Op.operands, Call.operands, ht]) hi) hao hj hl k) h
theorem p_load {t : TypeId} {x : Operand} {b off : Nat} {v : Value} (ha : ∀ w, (isAgg t).run P w = .ok false w) (hg : grd ops L g = true) (hN : Nat.blt d N = true) (hx : ev L x = some (.pointer (some ⟨b, off, none⟩))) (hc : w.cell? ⟨b, off, none⟩ = some v)
    (h : PC rd P ops Q N ds w tail rest ((d, v) :: L)) : PC rd P ops Q N ds w tail (⟨some d, .load t x, ty, pos, aft, g⟩ :: rest) L :=
  p_of rfl (fun _ _ _ u a k => t_load ha (a.grd hg) hN (a.ev (by intro t ht; simp [rds, Op.operands, Call.operands, ht]) hx) (cell_keep hc u) k) h
end
end Go.Proofs.Ytagmodjadmecdaa
