/-
  The lemmas by which the proofs of this seat step through lowered code: one for each kind of operation. Conditions: none; they hold over any program.
-/
import Derived.WalkKit
import Derived.WalkSpells
import Derived.WalkLawsBesides
import Derived.TacticsIn
import Derived.OrdersIn
namespace Go.Proofs.YtagmodjadmecdaaGreat
open Go Go.RowKit

/-! ### Frames: what is known of the slots -/
abbrev Slots := List (Nat × Value)

def look (k : Nat) : Slots → Option Value
  | [] => none
  | (j, v) :: r => match Nat.beq k j with
    | true => some v
    | false => look k r

structure Kn (N : Nat) (ds : List Deferred) (L : Slots) (a : Act) : Prop where
  size : a.tmps.size = N
  defers : a.defers = ds
  get : ∀ k v, look k L = some v → a.tmps.getD k undef = v

theorem Kn.put {N : Nat} {ds : List Deferred} {L : Slots} {a : Act} {d : Nat} (v : Value) (h : Kn N ds L a) (hd : Nat.blt d N = true) : Kn N ds ((d, v) :: L) (a.put (some d) v) := by
  have hd' : d < a.tmps.size := by rw [h.size]; simpa using hd
  refine ⟨by simp [Act.put, h.size], by simp [Act.put, h.defers], ?_⟩
  intro k u hk
  simp only [look] at hk
  by_cases e : k = d
  · subst e
    have : Nat.beq k k = true := Nat.beq_refl k
    rw [this] at hk
    simp at hk
    subst hk
    simp [Act.put, hd']
  · have hb : Nat.beq k d = false := by
      cases hbb : Nat.beq k d with
      | false => rfl
      | true => exact absurd (Nat.eq_of_beq_eq_true hbb) e
    simp only [hb] at hk
    have := h.get k u hk
    simp only [Act.put]
    rw [Array.getD_eq_getD_getElem?] at this ⊢
    rw [Array.getElem?_setIfInBounds_ne (by omega)]
    exact this

def Sub : Slots → Slots → Prop
  | [], _ => True
  | (k, v) :: r, L => look k L = some v ∧ Sub r L

theorem Kn.sub {N : Nat} {ds : List Deferred} {L L' : Slots} {a : Act} (h : Kn N ds L a) (hs : Sub L' L) : Kn N ds L' a := by
  refine ⟨h.size, h.defers, ?_⟩
  intro k v hk
  induction L' with
  | nil => simp [look] at hk
  | cons p r ih =>
    obtain ⟨j, u⟩ := p
    obtain ⟨h1, h2⟩ := hs
    simp only [look] at hk
    cases hb : Nat.beq k j with
    | true =>
      have e : k = j := Nat.eq_of_beq_eq_true hb
      simp [hb] at hk
      subst hk e
      exact h.get _ _ h1
    | false => simp only [hb] at hk; exact ih h2 hk

def ev (L : Slots) : Operand → Option Value
  | .tmp t => look t L
  | .const v => some v
  | .global g => some (.pointer (some ⟨g, 0, none⟩))
  | .func f => some (.func (.func f) #[] #[])

theorem Kn.ev {N : Nat} {ds : List Deferred} {L : Slots} {a : Act} {x : Operand} {v : Value} (h : Kn N ds L a) (he : ev L x = some v) : a.eval x = v := by
  cases x with
  | tmp t => exact h.get t v he
  | const u => exact Option.some.inj he
  | global g => exact Option.some.inj he
  | func f => exact Option.some.inj he

def evs (L : Slots) : List Operand → Option (List Value)
  | [] => some []
  | x :: r => match Go.Proofs.YtagmodjadmecdaaGreat.ev L x, evs L r with
    | some v, some vs => some (v :: vs)
    | _, _ => none

theorem Kn.evs {N : Nat} {ds : List Deferred} {L : Slots} {a : Act} (h : Kn N ds L a) : ∀ {xs : List Operand} {vs : List Value}, evs L xs = some vs → xs.map a.eval = vs
  | [], vs, he => by simp [Go.Proofs.YtagmodjadmecdaaGreat.evs] at he; simp [he]
  | x :: r, vs, he => by
    simp only [Go.Proofs.YtagmodjadmecdaaGreat.evs] at he
    cases h1 : Go.Proofs.YtagmodjadmecdaaGreat.ev L x with
    | none => simp [h1] at he
    | some v =>
      cases h2 : Go.Proofs.YtagmodjadmecdaaGreat.evs L r with
      | none => simp [h1, h2] at he
      | some ws =>
        simp [h1, h2] at he
        subst he
        simp [h.ev h1, h.evs h2]

def grd (ops : Array Oper) (L : Slots) : Option (Nat × Bool) → Bool
  | none => true
  | some (j, b) => match (ops[j]?).bind (·.dst) with
    | none => false
    | some d => match look d L with
      | some (.bool c) => c == b
      | _ => false

def ngrd (ops : Array Oper) (L : Slots) : Option (Nat × Bool) → Bool
  | none => false
  | some (j, b) => match (ops[j]?).bind (·.dst) with
    | none => false
    | some d => match look d L with
      | some (.bool c) => c != b
      | some (.tuple vs) => vs.isEmpty
      | _ => false

theorem Kn.wanted {N : Nat} {ds : List Deferred} {L : Slots} {a : Act} {ops : Array Oper} {o : Oper} (h : Kn N ds L a) (hg : grd ops L o.guard = true) : Region.wanted o (yielded ops a.tmps) = true := by
  unfold Region.wanted
  cases hgd : o.guard with
  | none => rfl
  | some p =>
    obtain ⟨j, b⟩ := p
    simp only [hgd, grd] at hg
    split at hg
    · cases hg
    · rename_i d hd
      split at hg
      · rename_i c hc
        have := h.get _ _ hc
        simp only [yielded, hd, Option.bind_some]
        rw [Array.getD_eq_getD_getElem?] at this
        simp at hg
        subst hg
        cases hq : a.tmps[d]? with
        | none => simp [hq, undef] at this
        | some u => simp [hq] at this; subst this; simp
      · cases hg

theorem Kn.unwanted {N : Nat} {ds : List Deferred} {L : Slots} {a : Act} {ops : Array Oper} {o : Oper} (h : Kn N ds L a) (hg : ngrd ops L o.guard = true) : Region.wanted o (yielded ops a.tmps) = false := by
  unfold Region.wanted
  cases hgd : o.guard with
  | none => simp [hgd, ngrd] at hg
  | some p =>
    obtain ⟨j, b⟩ := p
    simp only [hgd, ngrd] at hg
    split at hg
    · cases hg
    · rename_i d hd
      split at hg
      · rename_i c hc
        have := h.get _ _ hc
        simp only [yielded, hd, Option.bind_some]
        rw [Array.getD_eq_getD_getElem?] at this
        cases hq : a.tmps[d]? with
        | none => simp [hq, undef] at this
        | some u => simp [hq] at this; subst this; simpa using hg
      · rename_i vs hc
        have := h.get _ _ hc
        simp only [yielded, hd, Option.bind_some]
        rw [Array.getD_eq_getD_getElem?] at this
        cases hq : a.tmps[d]? with
        | none => simp
        | some u => simp [hq] at this; subst this; simp
      · cases hg

/-! ### Judgements: a list of operations, code, at every frame of which this is known -/
def rnd : Option Nat → Fence
  | none => Fence.wide
  | some l => Fence.wide.inRound l
theorem rnd_fn (r : Option Nat) (f : FuncId) : (rnd r).fn f := by cases r <;> trivial
theorem rnd_round (r : Option Nat) : (rnd r).round = r := by cases r <;> rfl
theorem rnd_depth (r : Option Nat) : (rnd r).depth = none := by cases r <;> rfl
theorem semAt_rnd (r : Option Nat) (ρ : Operand → Value) (o : Oper) (h : ∀ c, o.op ≠ .defer c) : Oper.semAt (rnd r).round ρ o = execOp ρ o := by
  rw [rnd_round]
  cases r with
  | none => exact Oper.semAt_none ρ o
  | some l => exact Oper.semAt_some l ρ o h

def WL (rd : Option Nat) (P : Program) (ops : Array Oper) (Q : Exit → Act → World → Prop) (N : Nat) (ds : List Deferred) (rest : List Oper) (L : Slots) (w : World) : Prop :=
  ∀ a, Kn N ds L a → wpListIn (rnd rd) 3 P ops Q rest a w

def WC (rd : Option Nat) (P : Program) (Q : Exit → Act → World → Prop) (N : Nat) (ds : List Deferred) (c : Code) (L : Slots) (w : World) : Prop :=
  ∀ a, Kn N ds L a → c.wpIn (rnd rd) 3 P Q a w

def QK (K : Act → World → Prop) (N : Nat) (ds : List Deferred) (L : Slots) (w : World) : Prop := ∀ a, Kn N ds L a → K a w

section steps
variable {rd : Option Nat} {P : Program} {ops : Array Oper} {Q : Exit → Act → World → Prop} {N : Nat} {ds : List Deferred} {rest : List Oper} {L : Slots} {w : World}

theorem t_nil' (h : QK (Q .normal) N ds L w) : WL rd P ops Q N ds [] L w := fun a ha => h a ha

theorem semAt_of_ok {o : Oper} {ρ : Operand → Value} {x : Next} {w w' : World} (hx : ∀ d, x ≠ .defer d) (hr : (execOp ρ o).run P w = .ok x w') : (Oper.semAt (rnd rd).round ρ o).run P w = .ok x w' := by
  have hnd : ∀ c, o.op ≠ .defer c := by
    intro c hc
    have : ∃ d w1 w2, (execOp ρ o).run P w1 = .ok (.defer d) w2 ∧ w1 = w ∧ w2 = w' := by
      have hr2 := hr
      unfold execOp at hr2
      rw [hc] at hr2
      simp only [Sem.run_bind] at hr2
      cases hq : (resolve ρ c o.type).run P w with
      | halt _ _ => rw [hq] at hr2; simp at hr2
      | ok d w2 =>
        rw [hq] at hr2
        simp at hr2
        exact absurd hr2.1.symm (hx d)
    obtain ⟨d, w1, w2, h1, rfl, rfl⟩ := this
    rw [hr] at h1
    injection h1 with h1 _
    exact hx d h1
  rw [semAt_rnd rd ρ o hnd]
  exact hr

theorem WL.value {o : Oper} {d : Nat} {v : Value} {w' : World} (hg : grd ops L o.guard = true) (hd : o.dst = some d) (hN : Nat.blt d N = true)
    (hr : ∀ a, Kn N ds L a → (execOp a.eval o).run P w = .ok (.value v) w') (h : WL rd P ops Q N ds rest ((d, v) :: L) w') : WL rd P ops Q N ds (o :: rest) L w := by
  intro a ha
  unfold wpListIn
  rw [if_pos (ha.wanted hg)]
  unfold Oper.wpIn
  refine ⟨fun f _ => rnd_fn _ f, ?_⟩
  rw [semAt_of_ok (by simp) (hr a ha), Oper.uponIn_value, hd]
  exact h _ (ha.put v hN)

theorem WL.effect {o : Oper} {w' : World} (hg : grd ops L o.guard = true) (hd : o.dst = none)
    (hr : ∀ a, Kn N ds L a → (execOp a.eval o).run P w = .ok .skip w') (h : WL rd P ops Q N ds rest L w') : WL rd P ops Q N ds (o :: rest) L w := by
  intro a ha
  unfold wpListIn
  rw [if_pos (ha.wanted hg)]
  unfold Oper.wpIn
  refine ⟨fun f _ => rnd_fn _ f, ?_⟩
  rw [semAt_of_ok (by simp) (hr a ha), Oper.uponIn_skip, hd]
  exact h _ ha

theorem t_skip {o : Oper} {d : Nat} (hg : ngrd ops L o.guard = true) (hd : o.dst = some d) (hN : Nat.blt d N = true)
    (h : WL rd P ops Q N ds rest ((d, undef) :: L) w) : WL rd P ops Q N ds (o :: rest) L w := by
  intro a ha
  unfold wpListIn
  rw [ha.unwanted hg, hd]
  exact ⟨fun f _ => rnd_fn _ f, h _ (ha.put undef hN)⟩

variable {d : Nat} {ty : TypeId} {pos : String} {aft : Array Edge} {g : Option (Nat × Bool)}

theorem t_move {x : Operand} {v : Value} (hg : grd ops L g = true) (hN : Nat.blt d N = true) (hx : ev L x = some v)
    (h : WL rd P ops Q N ds rest ((d, v) :: L) w) : WL rd P ops Q N ds (⟨some d, .move x, ty, pos, aft, g⟩ :: rest) L w :=
  WL.value hg rfl hN (fun a ha => by simp [execOp, ha.ev hx]) h

theorem t_assign {x : Operand} {v : Value} (hg : grd ops L g = true) (hN : Nat.blt d N = true) (hx : ev L x = some v)
    (h : WL rd P ops Q N ds rest ((d, v) :: L) w) : WL rd P ops Q N ds (⟨some d, .assign x, ty, pos, aft, g⟩ :: rest) L w :=
  WL.value hg rfl hN (fun a ha => by simp [execOp, ha.ev hx]) h

theorem t_pick_t {c x y : Operand} {v : Value} (hg : grd ops L g = true) (hN : Nat.blt d N = true) (hc : ev L c = some (.bool true)) (hx : ev L x = some v)
    (h : WL rd P ops Q N ds rest ((d, v) :: L) w) : WL rd P ops Q N ds (⟨some d, .pick c x y, ty, pos, aft, g⟩ :: rest) L w :=
  WL.value hg rfl hN (fun a ha => by simp [execOp, ha.ev hc, asBool, ha.ev hx]) h

theorem t_pick_f {c x y : Operand} {v : Value} (hg : grd ops L g = true) (hN : Nat.blt d N = true) (hc : ev L c = some (.bool false)) (hy : ev L y = some v)
    (h : WL rd P ops Q N ds rest ((d, v) :: L) w) : WL rd P ops Q N ds (⟨some d, .pick c x y, ty, pos, aft, g⟩ :: rest) L w :=
  WL.value hg rfl hN (fun a ha => by simp [execOp, ha.ev hc, asBool, ha.ev hy]) h

def cmpI : BinOp → Int → Int → Option Value
  | .lss, a, b => some (.bool (decide (a < b)))
  | .leq, a, b => some (.bool (decide (a ≤ b)))
  | .gtr, a, b => some (.bool (decide (b < a)))
  | .geq, a, b => some (.bool (decide (b ≤ a)))
  | .eql, a, b => some (.bool (decide (a = b)))
  | .neq, a, b => some (.bool (decide (a ≠ b)))
  | _, _, _ => none

theorem t_cmp {op : BinOp} {xt yt : TypeId} {x y : Operand} {k : IntKind} {m n : Int} {v : Value} (hg : grd ops L g = true) (hN : Nat.blt d N = true)
    (hx : ev L x = some (.int k m)) (hy : ev L y = some (.int k n)) (hv : cmpI op m n = some v)
    (h : WL rd P ops Q N ds rest ((d, v) :: L) w) : WL rd P ops Q N ds (⟨some d, .binOp op xt x y yt, ty, pos, aft, g⟩ :: rest) L w :=
  WL.value hg rfl hN (fun a ha => by
    have e1 := ha.ev hx
    have e2 := ha.ev hy
    cases op <;> simp [cmpI] at hv <;> subst hv <;> simp [execOp, e1, e2, eqGuard, binOp, Op.intCmp, Bool.beq_eq_decide_eq, bne] <;> first | done | rfl | (by_cases hmn : m = n <;> simp [hmn])) h

def ariI : BinOp → Int → Int → Option Int
  | .add, a, b => some (a + b)
  | .sub, a, b => some (a - b)
  | .mul, a, b => some (a * b)
  | _, _, _ => none

theorem t_ari {op : BinOp} {xt yt : TypeId} {x y : Operand} {m n r : Int} (hg : grd ops L g = true) (hN : Nat.blt d N = true)
    (hx : ev L x = some (.int .i64 m)) (hy : ev L y = some (.int .i64 n)) (hv : ariI op m n = some r)
    (hr : -9223372036854775808 ≤ r ∧ r ≤ 9223372036854775807)
    (h : WL rd P ops Q N ds rest ((d, .int .i64 r) :: L) w) : WL rd P ops Q N ds (⟨some d, .binOp op xt x y yt, ty, pos, aft, g⟩ :: rest) L w :=
  WL.value hg rfl hN (fun a ha => by
    have e1 := ha.ev hx
    have e2 := ha.ev hy
    have e3 := IntWalk.i64_in r hr
    cases op <;> simp [ariI] at hv <;> subst hv <;> simp [execOp, e1, e2, eqGuard, binOp, Op.intArith, e3]) h

theorem t_not {xt : TypeId} {x : Operand} {b : Bool} (hg : grd ops L g = true) (hN : Nat.blt d N = true) (hx : ev L x = some (.bool b))
    (h : WL rd P ops Q N ds rest ((d, .bool (!b)) :: L) w) : WL rd P ops Q N ds (⟨some d, .unOp .not xt x, ty, pos, aft, g⟩ :: rest) L w :=
  WL.value hg rfl hN (fun a ha => by simp [execOp, ha.ev hx, Op.unary]) h

end steps
end Go.Proofs.YtagmodjadmecdaaGreat
