/-
  Part 0 of the proof: contracts and plain laws. Conditions: none.
-/
import Derived.WalkKit
import Derived.WalkSpells
import Derived.WalkLawsBesides
import Derived.TacticsIn
import Derived.OrdersIn
namespace Go.Proofs.YtagmkfbbhfaceaaGreatDoor
open Go Go.RowKit

/-! ### Frames: what is known of the slots -/
abbrev Slots := List (Nat × Value)

def look (k : Nat) : Slots → Option Value
  | [] => none
  | (j, v) :: r => match Nat.beq k j with
    | true => some v
    | false => look k r

structure Kn (N : Nat) (ds : List Deferred) (L : Slots) (a : Act) : Prop where
  size : a.tmps.size = N
  defers : a.defers = ds
  get : ∀ k v, look k L = some v → a.tmps.getD k undef = v

theorem Kn.put {N : Nat} {ds : List Deferred} {L : Slots} {a : Act} {d : Nat} (v : Value) (h : Kn N ds L a) (hd : Nat.blt d N = true) : Kn N ds ((d, v) :: L) (a.put (some d) v) := by
  have hd' : d < a.tmps.size := by rw [h.size]; simpa using hd
  refine ⟨by simp [Act.put, h.size], by simp [Act.put, h.defers], ?_⟩
  intro k u hk
  simp only [look] at hk
  by_cases e : k = d
  · subst e
    have : Nat.beq k k = true := Nat.beq_refl k
    rw [this] at hk
    simp at hk
    subst hk
    simp [Act.put, hd']
  · have hb : Nat.beq k d = false := by
      cases hbb : Nat.beq k d with
      | false => rfl
      | true => exact absurd (Nat.eq_of_beq_eq_true hbb) e
    simp only [hb] at hk
    have := h.get k u hk
    simp only [Act.put]
    rw [Array.getD_eq_getD_getElem?] at this ⊢
    rw [Array.getElem?_setIfInBounds_ne (by omega)]
    exact this

/-- Every known slot of L' is known of L. -/
def Sub : Slots → Slots → Prop
  | [], _ => True
  | (k, v) :: r, L => look k L = some v ∧ Sub r L

theorem Kn.sub {N : Nat} {ds : List Deferred} {L L' : Slots} {a : Act} (h : Kn N ds L a) (hs : Sub L' L) : Kn N ds L' a := by
  refine ⟨h.size, h.defers, ?_⟩
  intro k v hk
  induction L' with
  | nil => simp [look] at hk
  | cons p r ih =>
    obtain ⟨j, u⟩ := p
    obtain ⟨h1, h2⟩ := hs
    simp only [look] at hk
    cases hb : Nat.beq k j with
    | true =>
      have e : k = j := Nat.eq_of_beq_eq_true hb
      simp [hb] at hk
      subst hk e
      exact h.get _ _ h1
    | false => simp only [hb] at hk; exact ih h2 hk

def ev (L : Slots) : Operand → Option Value
  | .tmp t => look t L
  | .const v => some v
  | .global g => some (.pointer (some ⟨g, 0, none⟩))
  | .func f => some (.func (.func f) #[] #[])

theorem Kn.ev {N : Nat} {ds : List Deferred} {L : Slots} {a : Act} {x : Operand} {v : Value} (h : Kn N ds L a) (he : ev L x = some v) : a.eval x = v := by
  cases x with
  | tmp t => exact h.get t v he
  | const u => exact Option.some.inj he
  | global g => exact Option.some.inj he
  | func f => exact Option.some.inj he

def evs (L : Slots) : List Operand → Option (List Value)
  | [] => some []
  | x :: r => match Go.Proofs.YtagmkfbbhfaceaaGreatDoor.ev L x, evs L r with
    | some v, some vs => some (v :: vs)
    | _, _ => none

theorem Kn.evs {N : Nat} {ds : List Deferred} {L : Slots} {a : Act} (h : Kn N ds L a) : ∀ {xs : List Operand} {vs : List Value}, evs L xs = some vs → xs.map a.eval = vs
  | [], vs, he => by simp [Go.Proofs.YtagmkfbbhfaceaaGreatDoor.evs] at he; simp [he]
  | x :: r, vs, he => by
    simp only [Go.Proofs.YtagmkfbbhfaceaaGreatDoor.evs] at he
    cases h1 : Go.Proofs.YtagmkfbbhfaceaaGreatDoor.ev L x with
    | none => simp [h1] at he
    | some v =>
      cases h2 : Go.Proofs.YtagmkfbbhfaceaaGreatDoor.evs L r with
      | none => simp [h1, h2] at he
      | some ws =>
        simp [h1, h2] at he
        subst he
        simp [h.ev h1, h.evs h2]

/-- The operation's guard, if it has one, says yes. -/
def grd (ops : Array Oper) (L : Slots) : Option (Nat × Bool) → Bool
  | none => true
  | some (j, b) => match (ops[j]?).bind (·.dst) with
    | none => false
    | some d => match look d L with
      | some (.bool c) => c == b
      | _ => false

/-- The operation's guard says no. -/
def ngrd (ops : Array Oper) (L : Slots) : Option (Nat × Bool) → Bool
  | none => false
  | some (j, b) => match (ops[j]?).bind (·.dst) with
    | none => false
    | some d => match look d L with
      | some (.bool c) => c != b
      | some (.tuple vs) => vs.isEmpty
      | _ => false

theorem Kn.wanted {N : Nat} {ds : List Deferred} {L : Slots} {a : Act} {ops : Array Oper} {o : Oper} (h : Kn N ds L a) (hg : grd ops L o.guard = true) : Region.wanted o (yielded ops a.tmps) = true := by
  unfold Region.wanted
  cases hgd : o.guard with
  | none => rfl
  | some p =>
    obtain ⟨j, b⟩ := p
    simp only [hgd, grd] at hg
    split at hg
    · cases hg
    · rename_i d hd
      split at hg
      · rename_i c hc
        have := h.get _ _ hc
        simp only [yielded, hd, Option.bind_some]
        rw [Array.getD_eq_getD_getElem?] at this
        simp at hg
        subst hg
        cases hq : a.tmps[d]? with
        | none => simp [hq, undef] at this
        | some u => simp [hq] at this; subst this; simp
      · cases hg

theorem Kn.unwanted {N : Nat} {ds : List Deferred} {L : Slots} {a : Act} {ops : Array Oper} {o : Oper} (h : Kn N ds L a) (hg : ngrd ops L o.guard = true) : Region.wanted o (yielded ops a.tmps) = false := by
  unfold Region.wanted
  cases hgd : o.guard with
  | none => simp [hgd, ngrd] at hg
  | some p =>
    obtain ⟨j, b⟩ := p
    simp only [hgd, ngrd] at hg
    split at hg
    · cases hg
    · rename_i d hd
      split at hg
      · rename_i c hc
        have := h.get _ _ hc
        simp only [yielded, hd, Option.bind_some]
        rw [Array.getD_eq_getD_getElem?] at this
        cases hq : a.tmps[d]? with
        | none => simp [hq, undef] at this
        | some u => simp [hq] at this; subst this; simpa using hg
      · rename_i vs hc
        have := h.get _ _ hc
        simp only [yielded, hd, Option.bind_some]
        rw [Array.getD_eq_getD_getElem?] at this
        cases hq : a.tmps[d]? with
        | none => simp
        | some u => simp [hq] at this; subst this; simp
      · cases hg

/-! ### Judgements: a list of operations, code, at every frame of which this is known -/
/-- Where the code runs: in a function's own frame, or in a round of loop l of a range over a function. -/
def rnd : Option Nat → Fence
  | none => Fence.wide
  | some l => Fence.wide.inRound l
theorem rnd_fn (r : Option Nat) (f : FuncId) : (rnd r).fn f := by cases r <;> trivial
theorem rnd_round (r : Option Nat) : (rnd r).round = r := by cases r <;> rfl
theorem rnd_depth (r : Option Nat) : (rnd r).depth = none := by cases r <;> rfl
theorem semAt_rnd (r : Option Nat) (ρ : Operand → Value) (o : Oper) (h : ∀ c, o.op ≠ .defer c) : Oper.semAt (rnd r).round ρ o = execOp ρ o := by
  rw [rnd_round]
  cases r with
  | none => exact Oper.semAt_none ρ o
  | some l => exact Oper.semAt_some l ρ o h

structure WL (rd : Option Nat) (P : Program) (ops : Array Oper) (Q : Exit → Act → World → Prop) (N : Nat) (ds : List Deferred) (rest : List Oper) (L : Slots) (w : World)   : Prop where
  run : ∀ a, Kn N ds L a → wpListIn (rnd rd) 3 P ops Q rest a w
instance {rd : Option Nat} {P : Program} {ops : Array Oper} {Q : Exit → Act → World → Prop} {N : Nat} {ds : List Deferred} {rest : List Oper} {L : Slots} {w : World} : CoeFun (WL rd P ops Q N ds rest L w) (fun _ => ∀ a, Kn N ds L a → wpListIn (rnd rd) 3 P ops Q rest a w) := ⟨WL.run⟩

structure WC (rd : Option Nat) (P : Program) (Q : Exit → Act → World → Prop) (N : Nat) (ds : List Deferred) (c : Code) (L : Slots) (w : World)   : Prop where
  run :  ∀ a, Kn N ds L a → c.wpIn (rnd rd) 3 P Q a w
instance {rd : Option Nat} {P : Program} {Q : Exit → Act → World → Prop} {N : Nat} {ds : List Deferred} {c : Code} {L : Slots} {w : World} : CoeFun (WC rd P Q N ds c L w) (fun _ => ∀ a, Kn N ds L a → c.wpIn (rnd rd) 3 P Q a w) := ⟨WC.run⟩

/-- A continuation at every such frame. -/
structure QK (K : Act → World → Prop) (N : Nat) (ds : List Deferred) (L : Slots) (w : World) : Prop where
  run : ∀ a, Kn N ds L a → K a w
instance {K : Act → World → Prop} {N : Nat} {ds : List Deferred} {L : Slots} {w : World} : CoeFun (QK K N ds L w) (fun _ => ∀ a, Kn N ds L a → K a w) := ⟨QK.run⟩

section steps
variable {rd : Option Nat} {P : Program} {ops : Array Oper} {Q : Exit → Act → World → Prop} {N : Nat} {ds : List Deferred} {rest : List Oper} {L : Slots} {w : World}

theorem t_nil' (h : QK (Q .normal) N ds L w) : WL rd P ops Q N ds [] L w := ⟨fun a ha => h a ha⟩

theorem semAt_of_ok {o : Oper} {ρ : Operand → Value} {x : Next} {w w' : World} (hx : ∀ d, x ≠ .defer d) (hr : (execOp ρ o).run P w = .ok x w') : (Oper.semAt (rnd rd).round ρ o).run P w = .ok x w' := by
  have hnd : ∀ c, o.op ≠ .defer c := by
    intro c hc
    have : ∃ d w1 w2, (execOp ρ o).run P w1 = .ok (.defer d) w2 ∧ w1 = w ∧ w2 = w' := by
      have hr2 := hr
      unfold execOp at hr2
      rw [hc] at hr2
      simp only [Sem.run_bind] at hr2
      cases hq : (resolve ρ c o.type).run P w with
      | halt _ _ => rw [hq] at hr2; simp at hr2
      | ok d w2 =>
        rw [hq] at hr2
        simp at hr2
        exact absurd hr2.1.symm (hx d)
    obtain ⟨d, w1, w2, h1, rfl, rfl⟩ := this
    rw [hr] at h1
    injection h1 with h1 _
    exact hx d h1
  rw [semAt_rnd rd ρ o hnd]
  exact hr

theorem WL.value {o : Oper} {d : Nat} {v : Value} {w' : World} (hg : grd ops L o.guard = true) (hd : o.dst = some d) (hN : Nat.blt d N = true)
    (hr : ∀ a, Kn N ds L a → (execOp a.eval o).run P w = .ok (.value v) w') (h : WL rd P ops Q N ds rest ((d, v) :: L) w') : WL rd P ops Q N ds (o :: rest) L w := by
  refine ⟨fun a ha => ?_⟩
  unfold wpListIn
  rw [if_pos (ha.wanted hg)]
  unfold Oper.wpIn
  refine ⟨fun f _ => rnd_fn _ f, ?_⟩
  rw [semAt_of_ok (by simp) (hr a ha), Oper.uponIn_value, hd]
  exact h _ (ha.put v hN)

theorem WL.effect {o : Oper} {w' : World} (hg : grd ops L o.guard = true) (hd : o.dst = none)
    (hr : ∀ a, Kn N ds L a → (execOp a.eval o).run P w = .ok .skip w') (h : WL rd P ops Q N ds rest L w') : WL rd P ops Q N ds (o :: rest) L w := by
  refine ⟨fun a ha => ?_⟩
  unfold wpListIn
  rw [if_pos (ha.wanted hg)]
  unfold Oper.wpIn
  refine ⟨fun f _ => rnd_fn _ f, ?_⟩
  rw [semAt_of_ok (by simp) (hr a ha), Oper.uponIn_skip, hd]
  exact h _ ha

theorem t_skip {o : Oper} {d : Nat} (hg : ngrd ops L o.guard = true) (hd : o.dst = some d) (hN : Nat.blt d N = true)
    (h : WL rd P ops Q N ds rest ((d, undef) :: L) w) : WL rd P ops Q N ds (o :: rest) L w := by
  refine ⟨fun a ha => ?_⟩
  unfold wpListIn
  rw [ha.unwanted hg, hd]
  exact ⟨fun f _ => rnd_fn _ f, h _ (ha.put undef hN)⟩

theorem t_skip0 {o : Oper} (hg : ngrd ops L o.guard = true) (hd : o.dst = none)
    (h : WL rd P ops Q N ds rest L w) : WL rd P ops Q N ds (o :: rest) L w := by
  refine ⟨fun a ha => ?_⟩
  unfold wpListIn
  rw [ha.unwanted hg, hd]
  exact ⟨fun f _ => rnd_fn _ f, h _ ha⟩

variable {d : Nat} {ty : TypeId} {pos : String} {aft : Array Edge} {g : Option (Nat × Bool)}

/-- Comparisons of integers. -/
def cmpI : BinOp → Int → Int → Option Value
  | .lss, a, b => some (.bool (decide (a < b)))
  | .leq, a, b => some (.bool (decide (a ≤ b)))
  | .gtr, a, b => some (.bool (decide (b < a)))
  | .geq, a, b => some (.bool (decide (b ≤ a)))
  | .eql, a, b => some (.bool (decide (a = b)))
  | .neq, a, b => some (.bool (decide (a ≠ b)))
  | _, _, _ => none

/-- Sums, differences and products that do not wrap. -/
def ariI : BinOp → Int → Int → Option Int
  | .add, a, b => some (a + b)
  | .sub, a, b => some (a - b)
  | .mul, a, b => some (a * b)
  | _, _, _ => none

theorem t_ari {op : BinOp} {xt yt : TypeId} {x y : Operand} {m n r : Int} (hg : grd ops L g = true) (hN : Nat.blt d N = true)
    (hx : ev L x = some (.int .i64 m)) (hy : ev L y = some (.int .i64 n)) (hv : ariI op m n = some r)
    (hr : -9223372036854775808 ≤ r ∧ r ≤ 9223372036854775807)
    (h : WL rd P ops Q N ds rest ((d, .int .i64 r) :: L) w) : WL rd P ops Q N ds (⟨some d, .binOp op xt x y yt, ty, pos, aft, g⟩ :: rest) L w :=
  WL.value hg rfl hN (fun a ha => by
    have e1 := ha.ev hx
    have e2 := ha.ev hy
    have e3 := IntWalk.i64_in r hr
    cases op <;> simp [ariI] at hv <;> subst hv <;> simp [execOp, e1, e2, eqGuard, binOp, Op.intArith, e3]) h

end steps
end Go.Proofs.YtagmkfbbhfaceaaGreatDoor
namespace Go.Proofs.YtagmkfbbhfaceaaGreatDoor
open Go Go.RowKit




/-! ### Worlds: which blocks may have turned -/
/-- Of what lay in w only the blocks of S may read otherwise in w'. -/
structure Upd (S : Nat → Prop) (w w' : World) : Prop where
  os : w'.os = w.os
  tape : w'.tape = w.tape
  output : w'.output = w.output
  size : w.heap.size ≤ w'.heap.size
  block : ∀ k, k < w.heap.size → ¬ S k → w'.heap[k]? = w.heap[k]?

theorem Upd.refl (S : Nat → Prop) (w : World) : Upd S w w := ⟨rfl, rfl, rfl, Nat.le_refl _, fun _ _ _ => rfl⟩

theorem Upd.trans {S : Nat → Prop} {a b c : World} (h : Upd S a b) (k : Upd S b c) : Upd S a c :=
  ⟨k.os.trans h.os, k.tape.trans h.tape, k.output.trans h.output, Nat.le_trans h.size k.size,
   fun i hi hn => (k.block i (Nat.lt_of_lt_of_le hi h.size) hn).trans (h.block i hi hn)⟩

theorem Upd.mono {S T : Nat → Prop} {w w' : World} (h : Upd S w w') (hS : ∀ k, S k → T k) : Upd T w w' :=
  ⟨h.os, h.tape, h.output, h.size, fun k hk hn => h.block k hk (fun hs => hn (hS k hs))⟩

/-- Of what turned later, only what lay in a counts. -/
theorem Upd.next {S T : Nat → Prop} {a b c : World} (h : Upd S a b) (k : Upd T b c) (hT : ∀ i, i < a.heap.size → T i → S i) : Upd S a c :=
  ⟨k.os.trans h.os, k.tape.trans h.tape, k.output.trans h.output, Nat.le_trans h.size k.size,
   fun i hi hn => (k.block i (Nat.lt_of_lt_of_le hi h.size) (fun t => hn (hT i hi t))).trans (h.block i hi hn)⟩

theorem Upd.nx {S : Nat → Prop} {a b c : World} (h : Upd S a b) (k : Upd (fun _ => False) b c) : Upd S a c := h.next k (fun _ _ h => h.elim)
/-- Nothing that lay in w has turned. -/
abbrev Ext (w w' : World) : Prop := Upd (fun _ => False) w w'

theorem Ext.to {S : Nat → Prop} {w w' : World} (h : Ext w w') : Upd S w w' := h.mono (fun _ => False.elim)

theorem Upd.below {B : Nat} {S : Nat → Prop} {w0 w w' : World} (h : Below B w0 w) (u : Upd S w w') (hB : B ≤ w0.heap.size) (hS : ∀ k, S k → B ≤ k) : Below B w0 w' :=
  ⟨u.os.trans h.os, u.tape.trans h.tape, u.output.trans h.output, Nat.le_trans h.size u.size,
   fun k hk => (u.block k (by have := h.size; omega) (fun hs => by have := hS k hs; omega)).trans (h.block k hk)⟩

theorem Below.ext {w w' : World} (h : Below w.heap.size w w') : Ext w w' := ⟨h.os, h.tape, h.output, h.size, fun k hk _ => h.block k hk⟩
theorem Ext.below {w w' : World} (h : Ext w w') : Below w.heap.size w w' := ⟨h.os, h.tape, h.output, h.size, fun k hk => h.block k hk id⟩

theorem Upd.alloc (w : World) (o : Obj) : Ext w (w.alloc o) :=
  ⟨rfl, rfl, rfl, by simp, fun k hk _ => Below.heap_alloc _ _ _ hk⟩

theorem Upd.setCell (w : World) (a : Addr) (v : Value) : Upd (· = a.block) w (w.setCell a v) :=
  ⟨rfl, rfl, rfl, by simp, fun k _ hn => Below.heap_setCell _ _ _ _ hn⟩

theorem Upd.drew (w : World) : Ext w w.drew := ⟨rfl, rfl, rfl, Nat.le_refl _, fun _ _ _ => rfl⟩

/-! ### Blocks and cells -/
/-- Block b of w holds these cells. -/
def Blk (w : World) (b : Nat) (t : TypeId) (cs : List Value) : Prop := w.heap[b]? = some (.cells cs.toArray t (0, 0))

theorem Blk.lt {w : World} {b : Nat} {t : TypeId} {cs : List Value} (h : Blk w b t cs) : b < w.heap.size := lt_of_block h

theorem Blk.keep {w w' : World} {S : Nat → Prop} {b : Nat} {t : TypeId} {cs : List Value} (h : Blk w b t cs) (u : Upd S w w') (hn : ¬ S b) : Blk w' b t cs :=
  (u.block b h.lt hn).trans h

theorem Blk.kx {w w' : World} {b : Nat} {t : TypeId} {cs : List Value} (h : Blk w b t cs) (u : Upd (fun _ => False) w w') : Blk w' b t cs := h.keep u (fun h => h)
theorem Blk.get {w : World} {b : Nat} {t : TypeId} {cs : List Value} {off : Nat} {v : Value} (h : Blk w b t cs) (hv : cs[off]? = some v) : w.cell? ⟨b, off, none⟩ = some v := by
  unfold Blk at h
  simp [World.cell?, h, hv]

theorem Blk.free {w : World} {b : Nat} {t : TypeId} {cs : List Value} {off : Nat} (h : Blk w b t cs) : w.frozen? ⟨b, off, none⟩ = false := by
  unfold Blk at h
  simp [World.frozen?, h]

theorem Blk.new (w : World) (t : TypeId) (cs : List Value) : Blk (w.alloc (.cells cs.toArray t)) w.heap.size t cs := by
  unfold Blk
  show (w.heap.push _)[w.heap.size]? = _
  simp

theorem Blk.set {w : World} {b : Nat} {t : TypeId} {cs : List Value} {off : Nat} (v : Value) (h : Blk w b t cs) : Blk (w.setCell ⟨b, off, none⟩ v) b t (cs.set off v) := by
  unfold Blk at *
  simp only [World.setCell, Array.getElem?_modify]
  simp [h]

/-- From an offset of a block on these cells lie. -/
def At (w : World) (b off : Nat) (vs : List Value) : Prop := ∀ j v, vs[j]? = some v → w.cell? ⟨b, off + j, none⟩ = some v

theorem At.keep {w w' : World} {S : Nat → Prop} {b off : Nat} {vs : List Value} (h : At w b off vs) (u : Upd S w w') (hb : b < w.heap.size) (hn : ¬ S b) : At w' b off vs :=
  fun j v hv => (World.cell?_of_block (w := w) (a := ⟨b, off + j, none⟩) (u.block b hb hn)).trans (h j v hv)

theorem At.sub {w : World} {b off : Nat} {vs : List Value} (h : At w b off vs) (k n : Nat) : At w b (off + k) ((vs.drop k).take n) := by
  intro j v hv
  have : vs[k + j]? = some v := by
    by_cases hj : j < n
    · simpa [List.getElem?_take, hj] using hv
    · simp [List.getElem?_take, hj] at hv
  have := h (k + j) v this
  rwa [← Nat.add_assoc] at this

theorem Blk.at {w : World} {b : Nat} {t : TypeId} {cs : List Value} (h : Blk w b t cs) : At w b 0 cs := fun j v hv => by
  rw [Nat.zero_add]; exact h.get hv

theorem addr_add (b o k : Nat) : (⟨b, o, none⟩ : Addr).add k = ⟨b, o + k, none⟩ := by
  unfold Addr.add
  by_cases h : k = 0
  · subst h; simp
  · simp [h]

theorem run_loadCellsFrom {P : Program} {w : World} {b off : Nat} : ∀ (n i : Nat) (vs : List Value) (acc : Array Value), vs.length = n → At w b (off + i) vs →
    (loadCellsFrom ⟨b, off, none⟩ i n acc).run P w = .ok (acc ++ vs.toArray) w
  | 0, i, vs, acc, hn, _ => by
    have : vs = [] := List.eq_nil_of_length_eq_zero hn
    subst this
    simp [loadCellsFrom]
  | n + 1, i, v :: vs, acc, hn, h => by
    have h0 := h 0 v rfl
    have h1 : At w b (off + (i + 1)) vs := fun j u hu => by
      have := h (j + 1) u (by simpa using hu)
      rwa [show off + i + (j + 1) = off + (i + 1) + j from by omega] at this
    have ih := run_loadCellsFrom (P := P) n (i + 1) vs (acc.push v) (by simpa using hn) h1
    simp only [loadCellsFrom, addr_add, Sem.run_bind, run_load, Nat.add_zero] at h0 ⊢
    rw [h0]
    simp [ih]
  | n + 1, i, [], acc, hn, _ => by simp at hn

theorem run_loadVar1 {P : Program} {w : World} {t : TypeId} {b off : Nat} {v : Value} (ha : ∀ w, (isAgg t).run P w = .ok false w) (hc : w.cell? ⟨b, off, none⟩ = some v) :
    (loadVar t ⟨b, off, none⟩).run P w = .ok v w := by
  simp [loadVar, ha, hc]

theorem run_loadVarN {P : Program} {w : World} {t : TypeId} {n b off : Nat} {vs : List Value} (ha : ∀ w, (isAgg t).run P w = .ok true w) (hs : ∀ w, (sizeOf t).run P w = .ok n w)
    (hn : vs.length = n) (hc : At w b off vs) : (loadVar t ⟨b, off, none⟩).run P w = .ok (.agg vs.toArray) w := by
  simp [loadVar, ha, hs, loadCells, run_loadCellsFrom n 0 vs #[] hn (by simpa using hc)]

theorem run_store1 {P : Program} {w : World} {b off : Nat} {t : TypeId} {cs : List Value} {v : Value} (hb : Blk w b t cs) (ho : off < cs.length) (hv : v.oneCell' = true) :
    (store ⟨b, off, none⟩ v).run P w = .ok () (w.setCell ⟨b, off, none⟩ v) := by
  have h1 : w.cell? ⟨b, off, none⟩ = some cs[off] := hb.get (by simp [ho])
  have h2 : w.frozen? ⟨b, off, none⟩ = false := hb.free
  cases v <;> simp [Value.oneCell'] at hv <;> simp [store, Sem.run, h1, h2]

/-- Several cells laid over a list from a place on. -/
def lay : List Value → Nat → List Value → List Value
  | cs, _, [] => cs
  | cs, i, v :: vs => lay (cs.set i v) (i + 1) vs

theorem lay_length : ∀ (vs cs : List Value) (i : Nat), (lay cs i vs).length = cs.length
  | [], _, _ => rfl
  | v :: vs, cs, i => by simp [lay, lay_length vs]

theorem run_storeCells {P : Program} {b : Nat} {t : TypeId} : ∀ (vs : List Value) (w : World) (cs : List Value) (off i : Nat), Blk w b t cs → off + i + vs.length ≤ cs.length → (∀ v ∈ vs, v.oneCell' = true) →
    ∃ w', (storeCells ⟨b, off, none⟩ vs i).run P w = .ok () w' ∧ Blk w' b t (lay cs (off + i) vs) ∧ Upd (· = b) w w' ∧ w'.heap.size = w.heap.size
  | [], w, cs, off, i, hb, _, _ => ⟨w, by simp [storeCells], hb, Upd.refl _ _, rfl⟩
  | v :: vs, w, cs, off, i, hb, hl, hv => by
    have h1 := run_store1 (P := P) (off := off + i) (v := v) hb (by simp at hl; omega) (hv v (by simp))
    have hb' := hb.set (off := off + i) v
    obtain ⟨w', hr, hB, hu, hs⟩ := run_storeCells (P := P) vs (w.setCell ⟨b, off + i, none⟩ v) (cs.set (off + i) v) off (i + 1) hb' (by simp at hl ⊢; omega) (fun u hu => hv u (by simp [hu]))
    refine ⟨w', ?_, hB, (Upd.setCell w ⟨b, off + i, none⟩ v).trans hu, by simpa using hs⟩
    simp [storeCells, addr_add, h1, hr]

theorem run_storeVar {P : Program} {w : World} {b off n : Nat} {t u : TypeId} {cs vs : List Value} {v : Value} (hb : Blk w b t cs) (hs : ∀ w, (sizeOf u).run P w = .ok n w) (hc : v.cells = vs.toArray) (hn : vs.length = n)
    (hl : off + n ≤ cs.length) (hv : ∀ v ∈ vs, v.oneCell' = true) :
    ∃ w', (storeVar u ⟨b, off, none⟩ v).run P w = .ok () w' ∧ Blk w' b t (lay cs off vs) ∧ Upd (· = b) w w' ∧ w'.heap.size = w.heap.size := by
  obtain ⟨w', h1, h2, h3, h4⟩ := run_storeCells (P := P) vs w cs off 0 hb (by omega) hv
  refine ⟨w', ?_, h2, h3, h4⟩
  simp [storeVar, hs, hc, hn, h1]

/-- The i-th element. -/
def nth {α : Type} [Inhabited α] (xs : List α) (i : Nat) : α := xs.getD i default

theorem nth_eq {α : Type} [Inhabited α] {xs : List α} {i : Nat} (h : i < xs.length) : nth xs i = xs[i] := by simp [nth, h]
theorem nth_mem {α : Type} [Inhabited α] {xs : List α} {i : Nat} (h : i < xs.length) : nth xs i ∈ xs := by rw [nth_eq h]; exact List.getElem_mem h
theorem take_nth {α : Type} [Inhabited α] {xs : List α} {i : Nat} (h : i < xs.length) : xs.take (i + 1) = xs.take i ++ [nth xs i] := by rw [nth_eq h]; exact List.take_succ_eq_append_getElem h
theorem drop_nth {α : Type} [Inhabited α] {xs : List α} {i : Nat} (h : i < xs.length) : xs.drop i = nth xs i :: xs.drop (i + 1) := by rw [nth_eq h]; exact List.drop_eq_getElem_cons h

/-- A slice's address ao: the elements xs lie from ⟨b, o⟩ on, each as 'enc' lays it, k cells apart. -/
structure Sl {α : Type} [Inhabited α] (enc : α → List Value) (k : Nat) (w : World) (ao : Option Addr) (b o : Nat) (xs : List α) : Prop where
  addr : 0 < xs.length → ao = some ⟨b, o, none⟩
  lt : 0 < xs.length → b < w.heap.size
  at_ : ∀ i, i < xs.length → At w b (o + i * k) (enc (nth xs i))

theorem Sl.keep {α : Type} [Inhabited α] {enc : α → List Value} {k : Nat} {w w' : World} {S : Nat → Prop} {ao : Option Addr} {b o : Nat} {xs : List α} (h : Sl enc k w ao b o xs) (u : Upd S w w') (hn : 0 < xs.length → ¬ S b) : Sl enc k w' ao b o xs :=
  ⟨h.addr, fun hp => Nat.lt_of_lt_of_le (h.lt hp) u.size, fun i hi => (h.at_ i hi).keep u (h.lt (by omega)) (hn (by omega))⟩

theorem Sl.nil {α : Type} [Inhabited α] (enc : α → List Value) (k : Nat) (w : World) (ao : Option Addr) (b o : Nat) : Sl enc k w ao b o [] := ⟨by simp, by simp, by simp⟩

theorem parts_ev {N : Nat} {ds : List Deferred} {L : Slots} {a : Act} (hk : Kn N ds L a) {parts : Array (Nat × Operand)} {ps : List (Nat × Value)}
    (h1 : evs L (parts.toList.map (·.2)) = some (ps.map (·.2))) (h2 : parts.toList.map (·.1) = ps.map (·.1)) : parts.map (fun (i, x) => (i, a.eval x)) = ps.toArray := by
  have e1 := hk.evs h1
  have key : ∀ (xs : List (Nat × Operand)) (ps : List (Nat × Value)), (xs.map (·.2)).map a.eval = ps.map (·.2) → xs.map (·.1) = ps.map (·.1) → xs.map (fun (i, x) => (i, a.eval x)) = ps := by
    intro xs
    induction xs with
    | nil => intro ps h _; cases ps <;> simp_all
    | cons p xs ih =>
      intro ps h h'
      cases ps with
      | nil => simp at h
      | cons q ps =>
        simp at h h'
        have := ih ps (by simpa using h.2) (by simpa using h'.2)
        simp only [List.map_cons, this]
        obtain ⟨i, x⟩ := p
        obtain ⟨j, v⟩ := q
        simp_all
  have := key parts.toList ps e1 h2
  rw [← this, ← Array.toList_map]

section steps
variable {rd : Option Nat} {P : Program} {ops : Array Oper} {Q : Exit → Act → World → Prop} {N : Nat} {ds : List Deferred} {rest : List Oper} {L : Slots} {w : World}
variable {d : Nat} {ty : TypeId} {pos : String} {aft : Array Edge} {g : Option (Nat × Bool)}

theorem t_load {t : TypeId} {x : Operand} {b off : Nat} {v : Value} (ha : ∀ w, (isAgg t).run P w = .ok false w) (hg : grd ops L g = true) (hN : Nat.blt d N = true)
    (hx : ev L x = some (.pointer (some ⟨b, off, none⟩))) (hc : w.cell? ⟨b, off, none⟩ = some v)
    (h : WL rd P ops Q N ds rest ((d, v) :: L) w) : WL rd P ops Q N ds (⟨some d, .load t x, ty, pos, aft, g⟩ :: rest) L w :=
  WL.value hg rfl hN (fun a hk => by simp [execOp, hk.ev hx, Instr.loadAt, Instr.sureAddr, run_loadVar1 ha hc]) h

theorem t_loadN {t : TypeId} {x : Operand} {n b off : Nat} {vs : List Value} (ha : ∀ w, (isAgg t).run P w = .ok true w) (hs : ∀ w, (sizeOf t).run P w = .ok n w) (hg : grd ops L g = true) (hN : Nat.blt d N = true)
    (hx : ev L x = some (.pointer (some ⟨b, off, none⟩))) (hc : At w b off vs) (hn : vs.length = n)
    (h : WL rd P ops Q N ds rest ((d, .agg vs.toArray) :: L) w) : WL rd P ops Q N ds (⟨some d, .load t x, ty, pos, aft, g⟩ :: rest) L w :=
  WL.value hg rfl hN (fun a hk => by simp [execOp, hk.ev hx, Instr.loadAt, Instr.sureAddr, run_loadVarN ha hs hn hc]) h

theorem t_index {t e : TypeId} {x i : Operand} {k : IntKind} {b o len cap s : Nat} {j : Nat} {n : Int} (hu : P.underlying t = some (.slice e)) (hs : ∀ w, (sizeOf e).run P w = .ok s w)
    (hg : grd ops L g = true) (hN : Nat.blt d N = true) {ao : Option Addr} (hx : ev L x = some (.slice ao len cap)) (hi : ev L i = some (.int k n)) (hao : ao = some ⟨b, o, none⟩) (hj : n = (j : Int)) (hl : j < len)
    (h : WL rd P ops Q N ds rest ((d, .pointer (some ⟨b, o + j * s, none⟩)) :: L) w) : WL rd P ops Q N ds (⟨some d, .indexAddr t x i, ty, pos, aft, g⟩ :: rest) L w :=
  WL.value hg rfl hN (fun a hk => by
    subst hj hao
    have h1 : (0 : Int) ≤ (j : Int) ∧ (j : Int) < (len : Int) := by omega
    simp [execOp, hk.ev hx, hk.ev hi, Instr.indexAt, run_underlying hu, asIntOf, hs, addr_add, hl]) h

/-- A new block of its own, holding what is given. -/
theorem t_box {e : TypeId} {x : Operand} {v : Value} {cs : List Value} (hg : grd ops L g = true) (hN : Nat.blt d N = true) (hx : ev L x = some v) (hc : v.cells = cs.toArray)
    (h : ∀ b w', b = w.heap.size → w'.heap.size = w.heap.size + 1 → Blk w' b e cs → Ext w w' → WL rd P ops Q N ds rest ((d, .pointer (some ⟨b, 0, none⟩)) :: L) w') :
    WL rd P ops Q N ds (⟨some d, .box e x, ty, pos, aft, g⟩ :: rest) L w :=
  WL.value (w' := w.alloc (.cells cs.toArray e)) hg rfl hN (fun a hk => by simp [execOp, hk.ev hx, Instr.box, newVar, newRow, newObj, Sem.run, hc]) (h _ _ rfl (by simp) (Blk.new _ _ _) (Upd.alloc _ _))

theorem t_alloc {e : TypeId} {z : Value} {cs : List Value} (hz : ∀ w, (zeroValue e).run P w = .ok z w) (hc : z.cells = cs.toArray) (hg : grd ops L g = true) (hN : Nat.blt d N = true)
    (h : ∀ b w', b = w.heap.size → w'.heap.size = w.heap.size + 1 → Blk w' b e cs → Ext w w' → WL rd P ops Q N ds rest ((d, .pointer (some ⟨b, 0, none⟩)) :: L) w') :
    WL rd P ops Q N ds (⟨some d, .alloc e, ty, pos, aft, g⟩ :: rest) L w :=
  WL.value (w' := w.alloc (.cells cs.toArray e)) hg rfl hN (fun a hk => by simp [execOp, hz, Instr.alloc, newVar, newRow, newObj, Sem.run, hc]) (h _ _ rfl (by simp) (Blk.new _ _ _) (Upd.alloc _ _))

/-- A store into a block of the call's own. -/
theorem t_store {t u : TypeId} {x y : Operand} {b off n : Nat} {cs vs : List Value} {v : Value} (hs : ∀ w, (sizeOf u).run P w = .ok n w) (hg : grd ops L g = true)
    (hx : ev L x = some (.pointer (some ⟨b, off, none⟩))) (hy : ev L y = some v) (hb : Blk w b t cs) (hc : v.cells = vs.toArray) (hn : vs.length = n) (hl : off + n ≤ cs.length) (hv : ∀ v ∈ vs, v.oneCell' = true)
    (h : ∀ w', w'.heap.size = w.heap.size → Blk w' b t (lay cs off vs) → Upd (· = b) w w' → WL rd P ops Q N ds rest L w') :
    WL rd P ops Q N ds (⟨none, .store u x y, ty, pos, aft, g⟩ :: rest) L w := by
  obtain ⟨w', h1, h2, h3, h4⟩ := run_storeVar (P := P) hb hs hc hn hl hv
  exact WL.effect (w' := w') hg rfl (fun a hk => by simp [execOp, hk.ev hx, hk.ev hy, Instr.storeAt, Instr.sureAddr, h1]) (h w' h4 h2 h3)

theorem t_build {t : TypeId} {parts : Array (Nat × Operand)} {ps : List (Nat × Value)} {v : Value} (hg : grd ops L g = true) (hN : Nat.blt d N = true)
    (hp : evs L (parts.toList.map (·.2)) = some (ps.map (·.2)) ∧ parts.toList.map (·.1) = ps.map (·.1))
    (hr : ∀ w, (Instr.build t ps.toArray).run P w = .ok v w)
    (h : WL rd P ops Q N ds rest ((d, v) :: L) w) : WL rd P ops Q N ds (⟨some d, .build t parts, ty, pos, aft, g⟩ :: rest) L w :=
  WL.value hg rfl hN (fun a hk => by
    have e : parts.map (fun (i, x) => (i, a.eval x)) = ps.toArray := parts_ev hk hp.1 hp.2
    simp only [execOp]
    rw [e]
    simp [hr]) h

theorem t_bslice {t e : TypeId} {n : Nat} {parts : Array (Nat × Operand)} {ps : List (Nat × Value)} {cs : List Value} (hg : grd ops L g = true) (hN : Nat.blt d N = true)
    (hp : evs L (parts.toList.map (·.2)) = some (ps.map (·.2)) ∧ parts.toList.map (·.1) = ps.map (·.1))
    (hr : ∀ w, (Instr.buildSlice t n ps.toArray).run P w = .ok (.slice (some ⟨w.heap.size, 0, none⟩) n n) (w.alloc (.cells cs.toArray e)))
    (h : ∀ b w', b = w.heap.size → w'.heap.size = w.heap.size + 1 → Blk w' b e cs → Ext w w' → WL rd P ops Q N ds rest ((d, .slice (some ⟨b, 0, none⟩) n n) :: L) w') :
    WL rd P ops Q N ds (⟨some d, .buildSlice t n parts, ty, pos, aft, g⟩ :: rest) L w :=
  WL.value hg rfl hN (fun a hk => by
    have e : parts.map (fun (i, x) => (i, a.eval x)) = ps.toArray := parts_ev hk hp.1 hp.2
    simp only [execOp]
    rw [e]
    simp [hr]) (h _ _ rfl (by simp) (Blk.new _ _ _) (Upd.alloc _ _))

theorem t_quo {xt yt : TypeId} {x y : Operand} {m n : Int} (hg : grd ops L g = true) (hN : Nat.blt d N = true)
    (hx : ev L x = some (.int .i64 m)) (hy : ev L y = some (.int .i64 n)) (h1 : 0 ≤ m ∧ m ≤ 9223372036854775807) (h2 : 1 ≤ n)
    (h : WL rd P ops Q N ds rest ((d, .int .i64 (m / n)) :: L) w) : WL rd P ops Q N ds (⟨some d, .binOp .quo xt x y yt, ty, pos, aft, g⟩ :: rest) L w :=
  WL.value hg rfl hN (fun a ha => by
    have e1 := ha.ev hx
    have e2 := ha.ev hy
    have e3 := IntWalk.i64_quo m n ⟨h1.1, h1.2, h2⟩
    have e4 : n ≠ 0 := by omega
    simp [execOp, e1, e2, eqGuard, binOp, Op.intDiv, e3, e4]) h

theorem t_rem {xt yt : TypeId} {x y : Operand} {m n : Int} (hg : grd ops L g = true) (hN : Nat.blt d N = true)
    (hx : ev L x = some (.int .i64 m)) (hy : ev L y = some (.int .i64 n)) (h1 : 0 ≤ m) (h2 : 1 ≤ n)
    (h : WL rd P ops Q N ds rest ((d, .int .i64 (m % n)) :: L) w) : WL rd P ops Q N ds (⟨some d, .binOp .rem xt x y yt, ty, pos, aft, g⟩ :: rest) L w :=
  WL.value hg rfl hN (fun a ha => by
    have e1 := ha.ev hx
    have e2 := ha.ev hy
    have e3 := IntWalk.rem_in m n h1
    have e4 : n ≠ 0 := by omega
    simp [execOp, e1, e2, eqGuard, binOp, Op.intDiv, e3, e4]) h

/-- A conversion between kinds of integers, of a number that both hold. -/
theorem t_conv {src dst : TypeId} {x : Operand} {k k' : IntKind} {n : Int} {ds' : TypeDesc} (hs : P.underlying src = some ds') (hd : P.underlying dst = some (.int k)) (hg : grd ops L g = true) (hN : Nat.blt d N = true) (hx : ev L x = some (.int k' n)) (hw : k.wrap n = n)
    (h : WL rd P ops Q N ds rest ((d, .int k n) :: L) w) : WL rd P ops Q N ds (⟨some d, .convert src dst x, ty, pos, aft, g⟩ :: rest) L w :=
  WL.value hg rfl hN (fun a ha => by
    simp only [execOp, ha.ev hx]
    simp [convert, run_underlying hs, run_underlying hd, Conv.intToInt, hw]) h

/-- x >> 1 of a number that is not negative. -/
theorem t_shr1 {xt yt : TypeId} {x y : Operand} {m : Int} {k' : IntKind} (hg : grd ops L g = true) (hN : Nat.blt d N = true) (hx : ev L x = some (.int .u64 m)) (hy : ev L y = some (.int k' 1)) (_h0 : 0 ≤ m)
    (h : WL rd P ops Q N ds rest ((d, .int .u64 (m / 2)) :: L) w) : WL rd P ops Q N ds (⟨some d, .binOp .shr xt x y yt, ty, pos, aft, g⟩ :: rest) L w :=
  WL.value hg rfl hN (fun a ha => by
    have e : m.fdiv 2 = m / 2 := Int.fdiv_eq_ediv_of_nonneg m (by decide)
    simp [execOp, ha.ev hx, ha.ev hy, eqGuard, binOp, Op.shift, IntKind.bits, e]) h

theorem t_mkfunc {fn : Fn} {fst cap : Array Operand} {vs us : List Value} (hg : grd ops L g = true) (hN : Nat.blt d N = true) (h1 : evs L fst.toList = some vs) (h2 : evs L cap.toList = some us)
    (h : WL rd P ops Q N ds rest ((d, .func fn vs.toArray us.toArray) :: L) w) : WL rd P ops Q N ds (⟨some d, .makeFunc fn fst cap, ty, pos, aft, g⟩ :: rest) L w :=
  WL.value hg rfl hN (fun a hk => by
    have e1 : fst.map a.eval = vs.toArray := by rw [← hk.evs h1, ← Array.toList_map]
    have e2 : cap.map a.eval = us.toArray := by rw [← hk.evs h2, ← Array.toList_map]
    simp [execOp, Instr.makeFunc, e1, e2]) h

theorem t_max {x y : Operand} {m n : Int} {ats : Array TypeId} (hg : grd ops L g = true) (hN : Nat.blt d N = true) (hx : ev L x = some (.int .i64 m)) (hy : ev L y = some (.int .i64 n))
    (h : WL rd P ops Q N ds rest ((d, .int .i64 (max m n)) :: L) w) : WL rd P ops Q N ds (⟨some d, .call ⟨.builtin .max, #[x, y], ats⟩, ty, pos, aft, g⟩ :: rest) L w :=
  WL.value hg rfl hN (fun a hk => by
    have e : (if m < n then n else m) = max m n := by split <;> omega
    simp [execOp, resolve, invoke, builtin, Builtin.max_, Builtin.max2, hk.ev hx, hk.ev hy, e]) h

theorem t_min {x y : Operand} {m n : Int} {ats : Array TypeId} (hg : grd ops L g = true) (hN : Nat.blt d N = true) (hx : ev L x = some (.int .i64 m)) (hy : ev L y = some (.int .i64 n))
    (h : WL rd P ops Q N ds rest ((d, .int .i64 (min m n)) :: L) w) : WL rd P ops Q N ds (⟨some d, .call ⟨.builtin .min, #[x, y], ats⟩, ty, pos, aft, g⟩ :: rest) L w :=
  WL.value hg rfl hN (fun a hk => by
    have e : (if n < m then n else m) = min m n := by split <;> omega
    simp [execOp, resolve, invoke, builtin, Builtin.min_, Builtin.min2, hk.ev hx, hk.ev hy, e]) h

/-! ### Calls -/
/-- The call returns a value, and R holds of it and of the world behind the call. -/
def CallsV (P : Program) (f : FuncId) (args : List Value) (w : World) (R : Value → World → Prop) : Prop :=
  Calls P f args.toArray w fun e w' => ∃ v, e = .returned v ∧ R v w'

theorem CallsV.mono {f : FuncId} {args : List Value} {R R' : Value → World → Prop} (h : CallsV P f args w R) (hr : ∀ v w', R v w' → R' v w') : CallsV P f args w R' :=
  Calls.mono h fun _ _ ⟨v, e, r⟩ => ⟨v, e, hr _ _ r⟩

/-- Function f has a body of its own. -/
def Own (P : Program) (f : FuncId) : Prop := ∃ fn, P.funcs[f]? = some fn ∧ (fn.name == "runtime.NumGoroutine") = false ∧ fn.body.isNone = false

theorem Own.run {f : FuncId} (h : Own P f) (args : Array Value) (w : World) : (callFunc f args).run P w = .ok (.enter f args) w := by
  obtain ⟨fn, h1, h2, h3⟩ := h
  have h2' : ¬ fn.name = "runtime.NumGoroutine" := by simpa using h2
  have h3' : fn.body ≠ Option.none := by intro e; simp [e] at h3
  simp [callFunc, h1, h2', h3', program, Sem.run]

theorem callsIn_rnd {rd : Option Nat} {n : Nat} {f : FuncId} {args : Array Value} {R : Ending → World → Prop} (h : Calls P f args w R) : CallsIn (rnd rd) n P f args w R := by
  cases rd with
  | none => exact callsIn_wide.2 h
  | some l => exact (callsIn_wide (n := n)).2 h

theorem t_call {f : Operand} {k : FuncId} {xs : Array Operand} {ats : Array TypeId} {fs cs vs : List Value} {R : Value → World → Prop} (ho : Own P k) (hg : grd ops L g = true) (hN : Nat.blt d N = true)
    (hf : ev L f = some (.func (.func k) fs.toArray cs.toArray)) (hv : evs L xs.toList = some vs) (hc : CallsV P k (fs ++ vs ++ cs) w R)
    (h : ∀ v w', R v w' → WL rd P ops Q N ds rest ((d, v) :: L) w') : WL rd P ops Q N ds (⟨some d, .call ⟨.value f, xs, ats⟩, ty, pos, aft, g⟩ :: rest) L w := by
  refine ⟨fun a ha => ?_⟩
  have e1 : xs.map a.eval = vs.toArray := by rw [← ha.evs hv, ← Array.toList_map]
  have hr : (execOp a.eval ⟨some d, .call ⟨.value f, xs, ats⟩, ty, pos, aft, g⟩).run P w = .ok (.enter k (fs ++ vs ++ cs).toArray) w := by
    simp [execOp, resolve, ha.ev hf, Deferred.ofValue, invoke, e1, ho.run]
  unfold wpListIn
  rw [if_pos (ha.wanted (o := ⟨some d, .call ⟨.value f, xs, ats⟩, ty, pos, aft, g⟩) hg)]
  unfold Oper.wpIn
  refine ⟨fun f _ => rnd_fn _ f, ?_⟩
  rw [semAt_of_ok (by simp) hr, Oper.uponIn_enter]
  refine ⟨fun h => by simp [rnd_depth] at h, CallsIn.mono (callsIn_rnd hc) ?_⟩
  rintro e w' ⟨v, rfl, r⟩
  exact h v w' r _ (ha.put v hN)

theorem t_notp {xt : TypeId} {x : Operand} {p : Prop} [Decidable p] (hg : grd ops L g = true) (hN : Nat.blt d N = true) (hx : ev L x = some (.bool (decide p)))
    (h : WL rd P ops Q N ds rest ((d, .bool (decide (¬ p))) :: L) w) : WL rd P ops Q N ds (⟨some d, .unOp .not xt x, ty, pos, aft, g⟩ :: rest) L w :=
  WL.value hg rfl hN (fun a ha => by simp [execOp, ha.ev hx, Op.unary]) h

/-- A slot that holds a truth value: both ways. -/
theorem t_split (s : Nat) {b : Bool} (hs : look s L = some (.bool b)) (ht : b = true → WL rd P ops Q N ds rest ((s, .bool true) :: L) w) (hf : b = false → WL rd P ops Q N ds rest ((s, .bool false) :: L) w) : WL rd P ops Q N ds rest L w := by
  refine ⟨fun a ha => ?_⟩
  have hk : ∀ c : Bool, b = c → Kn N ds ((s, .bool c) :: L) a := fun c hc => ⟨ha.size, ha.defers, fun k v hv => by
    simp only [look] at hv
    cases hb : Nat.beq k s with
    | true =>
      have e : k = s := Nat.eq_of_beq_eq_true hb
      rw [hb] at hv
      simp at hv
      subst hv e hc
      exact ha.get _ _ hs
    | false => rw [hb] at hv; exact ha.get _ _ hv⟩
  cases b
  · exact hf rfl a (hk false rfl)
  · exact ht rfl a (hk true rfl)

theorem t_splitp (s : Nat) {p : Prop} [Decidable p] (hs : look s L = some (.bool (decide p))) (ht : p → WL rd P ops Q N ds rest ((s, .bool true) :: L) w) (hf : ¬ p → WL rd P ops Q N ds rest ((s, .bool false) :: L) w) : WL rd P ops Q N ds rest L w :=
  t_split s hs (fun e => ht (of_decide_eq_true e)) (fun e => hf (of_decide_eq_false e))

/-- A slot's value, written otherwise. -/
theorem t_same (s : Nat) {u v : Value} (hs : look s L = some u) (e : u = v) (h : WL rd P ops Q N ds rest ((s, v) :: L) w) : WL rd P ops Q N ds rest L w := by
  subst e
  refine ⟨fun a ha => ?_⟩
  exact h a ⟨ha.size, ha.defers, fun k v hv => by
    simp only [look] at hv
    cases hb : Nat.beq k s with
    | true =>
      have e : k = s := Nat.eq_of_beq_eq_true hb
      rw [hb] at hv
      simp at hv
      subst hv e
      exact ha.get _ _ hs
    | false => rw [hb] at hv; exact ha.get _ _ hv⟩

/-- A slot's value, written otherwise. -/
theorem c_same {rd : Option Nat} {c : Code} (s : Nat) {u v : Value} (hs : look s L = some u) (e : u = v) (h : WC rd P Q N ds c ((s, v) :: L) w) : WC rd P Q N ds c L w := by
  subst e
  refine ⟨fun a ha => ?_⟩
  exact h a ⟨ha.size, ha.defers, fun k v hv => by
    simp only [look] at hv
    cases hb : Nat.beq k s with
    | true =>
      have e : k = s := Nat.eq_of_beq_eq_true hb
      rw [hb] at hv
      simp at hv
      subst hv e
      exact ha.get _ _ hs
    | false => rw [hb] at hv; exact ha.get _ _ hv⟩

/-! ### Control -/
variable {R : Value → World → Prop} {c x y : Code}

theorem c_region {id : Nat} {l : List Oper} (h : WL rd P l.toArray Q N ds l L w) : WC rd P Q N ds (.region id l.toArray false) L w := ⟨fun a ha => wpIn_region_lit (h a ha)⟩

theorem c_skip (h : QK (Q .normal) N ds L w) : WC rd P Q N ds .skip L w := ⟨fun a ha => wpIn_skip (h a ha)⟩
theorem c_exit {id : Nat} (h : QK (Q (.exit id)) N ds L w) : WC rd P Q N ds (.exit id) L w := ⟨fun a ha => wpIn_exit (h a ha)⟩
theorem c_ret (h : QK (Q .ret) N ds L w) : WC rd P Q N ds .ret L w := ⟨fun a ha => wpIn_ret (h a ha)⟩
theorem c_cond {o : Operand} {b : Bool} (ho : ev L o = some (.bool b)) (ht : b = true → WC rd P Q N ds x L w) (hf : b = false → WC rd P Q N ds y L w) : WC rd P Q N ds (.cond o x y) L w := ⟨fun a ha => wpIn_cond_split (ha.ev ho) (fun e => ht e a ha) (fun e => hf e a ha)⟩
theorem c_condp {o : Operand} {p : Prop} [Decidable p] (ho : ev L o = some (.bool (decide p))) (ht : p → WC rd P Q N ds x L w) (hf : ¬ p → WC rd P Q N ds y L w) : WC rd P Q N ds (.cond o x y) L w :=
  c_cond ho (fun e => ht (of_decide_eq_true e)) (fun e => hf (of_decide_eq_false e))
theorem c_cond_t {o : Operand} (ho : ev L o = some (.bool true)) (ht : WC rd P Q N ds x L w) : WC rd P Q N ds (.cond o x y) L w := ⟨fun a ha => wpIn_cond_true (ha.ev ho) (ht a ha)⟩
theorem c_cond_f {o : Operand} (ho : ev L o = some (.bool false)) (hf : WC rd P Q N ds y L w) : WC rd P Q N ds (.cond o x y) L w := ⟨fun a ha => wpIn_cond_false (ha.ev ho) (hf a ha)⟩

/-- A loop: Lf and Wf say of each state of a family what the slots and the world are; a measure falls. -/
theorem c_loop {γ : Type} (Lf : γ → Slots) (Wf : γ → World → Prop) (μ : γ → Nat) (g0 : γ) (h0 : Sub (Lf g0) L) (hw : Wf g0 w)
    (step : ∀ g w', Wf g w' → ∀ K : Act → World → Prop, (∀ g' L'' w'', μ g' < μ g → Sub (Lf g') L'' → Wf g' w'' → QK K N ds L'' w'') → WC rd P (Exit.then K Q) N ds c (Lf g) w') :
    WC rd P Q N ds (.loop c) L w := by
  refine ⟨fun a ha => ?_⟩
  intro b k cs hro hb hr
  have key : ∀ n g a w, μ g = n → Kn N ds (Lf g) a → Wf g w →
      ∃ e a' w', Q e a' w' ∧ ArrivesIn (Machine.fenced P (rnd rd)) P (lone (b.atR a (.code c :: .inLoop c :: k)) cs w) b k cs e a' w' := by
    intro n
    induction n using Nat.strongRecOn with
    | _ n ih =>
      intro g a w hn hk hW
      have hs := step g w hW (fun a' w' => ∃ g', μ g' < μ g ∧ Kn N ds (Lf g') a' ∧ Wf g' w') (fun g' L'' w'' hlt hs hw'' => ⟨fun a'' ha'' => ⟨g', hlt, ha''.sub hs, hw''⟩⟩) a hk
      obtain ⟨e, a₁, w₁, hq, harr⟩ := hs b (.inLoop c :: k) cs hro hb hr
      cases e with
      | normal =>
        obtain ⟨g', hlt, hk', hW'⟩ := hq
        obtain ⟨e₂, a₂, w₂, hq₂, harr₂⟩ := ih (μ g') (hn ▸ hlt) g' a₁ w₁ rfl hk' hW'
        exact ⟨e₂, a₂, w₂, hq₂, .of_steps (StepsIn.trans harr (.one (fenced_calm hb hr rfl) stepR_inLoop)) harr₂⟩
      | exit id => exact ⟨_, a₁, w₁, hq, .pass (x := .inLoop c) rfl (fun _ _ => .inl (by simp)) harr⟩
      | goto l => exact ⟨_, a₁, w₁, hq, .pass (x := .inLoop c) rfl (fun _ _ => .inl (by simp)) harr⟩
      | ret => exact ⟨_, a₁, w₁, hq, .pass (x := .inLoop c) rfl (fun _ _ => .inl (by simp)) harr⟩
      | panic ch => exact ⟨_, a₁, w₁, hq, .pass (x := .inLoop c) rfl (fun _ _ => .inl (by simp)) harr⟩
      | outgrown => exact ⟨_, a₁, w₁, hq, .pass (x := .inLoop c) rfl (fun _ _ => .inl (by simp)) harr⟩
  obtain ⟨e, a', w', hq, harr⟩ := key _ g0 a w rfl (ha.sub h0) hw
  exact ⟨e, a', w', hq, .of_steps (.one (fenced_calm hb hr rfl) stepR_loop) harr⟩

/-- Ways that meet: behind x one of a family of states holds. -/
theorem c_cut {γ : Type} (Lf : γ → Slots) (Wf : γ → World → Prop)
    (h1 : ∀ K : Act → World → Prop, (∀ g L' w', Sub (Lf g) L' → Wf g w' → QK K N ds L' w') → WC rd P (Exit.then K Q) N ds x L w)
    (h2 : ∀ g w', Wf g w' → WC rd P Q N ds y (Lf g) w') : WC rd P Q N ds (.seq x y) L w := ⟨fun a ha => wpIn_seq_k fun K hK => h1 K (fun g _ w' hs hw => ⟨fun a' ha' => hK _ _ (h2 g w' hw a' (ha'.sub hs))⟩) a ha⟩

/-! ### A function's begin and end -/
def args : Nat → List Value → Slots
  | _, [] => []
  | i, v :: vs => (i, v) :: args (i + 1) vs

theorem look_args {k : Nat} : ∀ (vs : List Value) (i : Nat) (v : Value), look k (args i vs) = some v → i ≤ k ∧ vs[k - i]? = some v
  | [], i, v, h => by simp [args, look] at h
  | u :: us, i, v, h => by
    simp only [args, look] at h
    cases hb : Nat.beq k i with
    | true =>
      have e : k = i := Nat.eq_of_beq_eq_true hb
      rw [hb] at h
      subst e
      simpa using h
    | false =>
      rw [hb] at h
      have ⟨h1, h2⟩ := look_args us (i + 1) v h
      refine ⟨by omega, ?_⟩
      rw [show k - i = (k - (i + 1)) + 1 from by omega]
      simpa using h2

theorem f_enter {f : FuncId} {fn : Func} {vs : List Value} (hf : P.funcs[f]? = some fn) (hb : fn.body = some c) (hn : Nat.ble vs.length N = true) (hN : fn.ntmps = N)
    (h : WC none P (bodyPost P fn fun e w' => ∃ v, e = .returned v ∧ R v w') N [] c (args 0 vs) w) : CallsV P f vs w R := by
  refine calls_of_wp hf hb (wpIn_wide.1 (h _ ⟨?_, rfl, ?_⟩))
  · have : vs.length ≤ N := Nat.le_of_ble_eq_true hn
    simp [hN]; omega
  · intro k v hk
    have ⟨_, h2⟩ := look_args vs 0 v hk
    rw [Array.getD_eq_getD_getElem?]
    have h3 : k < vs.length := by
      rcases Nat.lt_or_ge k vs.length with h | h
      · exact h
      · simp [List.getElem?_eq_none h] at h2
    rw [Array.getElem?_append_left (by simpa using h3)]
    simpa using congrArg (fun o => o.getD undef) h2

theorem f_ret {fn : Func} {v : Value} (hr : ∀ a, Kn N [] L a → (results fn a.tmps).run P w = .ok v w) (hR : R v w) : QK (bodyPost P fn (fun e w' => ∃ v, e = .returned v ∧ R v w') .ret) N [] L w := ⟨fun a ha => ⟨ha.defers, v, hr a ha, v, rfl, hR⟩⟩

/-- What a result variable holds. -/
def Res (P : Program) (w : World) (L : Slots) : ResultVar → Value → Prop
  | .tmp t, v => look t L = some v
  | .cell s t, v => ∃ b off, look s L = some (.pointer (some ⟨b, off, none⟩)) ∧ (loadVar t ⟨b, off, none⟩).run P w = .ok v w

def resOf (tmps : Array Value) : ResultVar → Sem Value
  | .tmp t => pure (tmps.getD t undef)
  | .cell s t => do loadVar t (← asAddr (tmps.getD s undef))

theorem results_of (fn : Func) (tmps : Array Value) : results fn tmps = (do
    let vs ← fn.results.mapM (resOf tmps)
    pure (if h : vs.size = 1 then vs[0] else .tuple vs)) := rfl

theorem Res.run {r : ResultVar} {v : Value} (h : Res P w L r v) {a : Act} (ha : Kn N ds L a) : (resOf a.tmps r).run P w = .ok v w := by
  cases r with
  | tmp t => simp only [resOf, Sem.run_pure]; rw [ha.get _ _ h]
  | cell s t =>
    obtain ⟨b, off, h1, h2⟩ := h
    simp only [resOf, Sem.run_bind, ha.get _ _ h1]
    simp [asAddr, h2]

theorem f_ret1 {fn : Func} {r : ResultVar} {v : Value} (hf : fn.results = #[r]) (h1 : Res P w L r v) (hR : R v w) : QK (bodyPost P fn (fun e w' => ∃ v, e = .returned v ∧ R v w') .ret) N [] L w :=
  f_ret (fun a ha => by
    have e1 := h1.run ha
    rw [results_of, hf]
    simp [e1]) hR

theorem f_ret0 {fn : Func} (hf : fn.results = #[]) (hR : R (.tuple #[]) w) : QK (bodyPost P fn (fun e w' => ∃ v, e = .returned v ∧ R v w') .ret) N [] L w :=
  f_ret (fun a ha => by
    rw [results_of, hf]
    simp) hR

theorem f_ret2 {fn : Func} {r1 r2 : ResultVar} {v1 v2 : Value} (hf : fn.results = #[r1, r2]) (h1 : Res P w L r1 v1) (h2 : Res P w L r2 v2) (hR : R (.tuple #[v1, v2]) w) : QK (bodyPost P fn (fun e w' => ∃ v, e = .returned v ∧ R v w') .ret) N [] L w :=
  f_ret (fun a ha => by
    have e1 := h1.run ha
    have e2 := h2.run ha
    rw [results_of, hf]
    simp [e1, e2]) hR

theorem f_ret3 {fn : Func} {r1 r2 r3 : ResultVar} {v1 v2 v3 : Value} (hf : fn.results = #[r1, r2, r3]) (h1 : Res P w L r1 v1) (h2 : Res P w L r2 v2) (h3 : Res P w L r3 v3) (hR : R (.tuple #[v1, v2, v3]) w) : QK (bodyPost P fn (fun e w' => ∃ v, e = .returned v ∧ R v w') .ret) N [] L w :=
  f_ret (fun a ha => by
    have e1 := h1.run ha
    have e2 := h2.run ha
    have e3 := h3.run ha
    rw [results_of, hf]
    simp [e1, e2, e3]) hR

end steps
end Go.Proofs.YtagmkfbbhfaceaaGreatDoor
