/-
  Part 2 of the proof: contracts and plain laws. Conditions: none.
-/
import Derived.Test.YtagmkfbbhfaceaaGreatDoorCK1
namespace Go.Proofs.YtagmkfbbhfaceaaGreatDoor
open Go Go.RowKit
section
variable {rd : Option Nat} {P : Program} {ops : Array Oper} {Q : Exit → Act → World → Prop} {N : Nat} {ds : List Deferred} {S : Nat → Prop} {w1 : World}

/-- As wpAnyIn; each step turns at most S, and none dies. -/
def wAny (rd : Option Nat) (P : Program) (S : Nat → Prop) (ops : Array Oper) (Q : Exit → Act → World → Prop) : Nat → Array Bool → Act → World → Prop
  | 0, listed, a, w => Region.ready .any ops listed = [] ∧ Q .normal a w
  | fuel + 1, listed, a, w => (Region.ready .any ops listed = [] → Q .normal a w) ∧
    ∀ i ∈ Region.ready .any ops listed, wpOpIn (rnd rd) 3 P ops (fun _ _ _ => False) i (fun a' w' => Upd S w w' ∧ wAny rd P S ops Q fuel (listed.setIfInBounds i true) a' w') a w
theorem wAny.any : ∀ {fuel : Nat} {listed : Array Bool} {a : Act} {w : World}, wAny rd P S ops Q fuel listed a w → wpAnyIn (rnd rd) 3 P .any ops Q fuel listed a w
  | 0, _, _, _, h => h
  | fuel + 1, listed, a, w, h => ⟨h.1, fun i hi => by
    have h2 := h.2 i hi
    unfold wpOpIn at h2 ⊢
    split
    · rename_i ho
      rw [ho] at h2
      exact wAny.any h2.2
    · rename_i o ho
      rw [ho] at h2
      simp only [] at h2
      split
      · rename_i hw
        rw [if_pos hw] at h2
        exact Oper.wpIn_into (fun a' w' hk => wAny.any hk.2) (fun _ _ _ hq => hq.elim) h2
      · rename_i hw
        rw [if_neg hw] at h2
        exact ⟨h2.1, wAny.any h2.2.2⟩⟩
/-- The operation yields v, whatever has been turned of S in between. -/
def YW (P : Program) (S : Nat → Prop) (w1 : World) (ops : Array Oper) (o : Oper) (v : Value) (a : Act) : Prop :=
  (Region.wanted o (yielded ops a.tmps) = true ∧ ∀ w, Upd S w1 w → (execOp a.eval o).run P w = .ok (.value v) w) ∨ (Region.wanted o (yielded ops a.tmps) = false ∧ v = undef)
theorem YW.wpOpIn {i : Nat} {o : Oper} {v : Value} {a : Act} {w : World} {K : Act → World → Prop} (hi : ops[i]? = some o) (hu : Upd S w1 w) (hy : YW P S w1 ops o v a) (h : K (a.put o.dst v) w) : wpOpIn (rnd rd) 3 P ops (fun _ _ _ => False) i K a w := by
  unfold Go.wpOpIn
  simp only [hi]
  rcases hy with ⟨hw, hv⟩ | ⟨hw, rfl⟩
  · rw [if_pos hw]
    unfold Oper.wpIn
    refine ⟨fun f _ => rnd_fn _ f, ?_⟩
    rw [semAt_of_ok (by simp) (hv w hu), Oper.uponIn_value]
    exact h
  · rw [if_neg (by rw [hw]; decide)]
    exact ⟨fun f _ => rnd_fn _ f, h⟩
theorem YW.put {oi : Oper} {v u : Value} {a : Act} {dst : Option Tmp} (hy : YW P S w1 ops oi v a) (hs : ∀ cs b, oi.op ≠ .select cs b) (h3 : ∀ d, dst = some d → d ∉ oi.looksAt ops) : YW P S w1 ops oi v (a.put dst u) := by
  unfold YW at *
  rw [execOp_put (ops := ops) oi hs a dst u h3, wanted_put oi a dst u h3]
  exact hy
theorem wpOpIn_putW {j : Nat} {oi oj : Oper} {v : Value} {w : World} (hj : ops[j]? = some oj) (hap : oi.apart ops oj = true) (hsi : ∀ cs b, oi.op ≠ .select cs b) (hsj : ∀ cs b, oj.op ≠ .select cs b) (hdj : ∀ c, oj.op ≠ .defer c)
    {K : Act → World → Prop} {a : Act} (hy : YW P S w1 ops oi v a) (h : wpOpIn (rnd rd) 3 P ops (fun _ _ _ => False) j K (a.put oi.dst v) w) :
    wpOpIn (rnd rd) 3 P ops (fun _ _ _ => False) j (fun a' w' => YW P S w1 ops oi v a' ∧ K (a'.put oi.dst v) w') a w := by
  obtain ⟨h1, h2, h3⟩ := Oper.apart_spec hap
  have keep : ∀ u, YW P S w1 ops oi v (a.put oj.dst u) := fun u => hy.put hsi h3
  unfold wpOpIn at *
  simp only [hj] at *
  rw [wanted_put oj a oi.dst v h1] at h
  split
  · rename_i hw
    simp only [hw, if_true] at h
    unfold Oper.wpIn at *
    refine ⟨fun f _ => rnd_fn _ f, ?_⟩
    have h := h.2
    rw [semAt_rnd rd _ oj hdj, execOp_put (ops := ops) oj hsj a oi.dst v h1] at h
    rw [semAt_rnd rd _ oj hdj]
    generalize (execOp a.eval oj).run P w = r at *
    cases r with
    | ok x w' =>
      cases x <;> simp only [Oper.uponIn] at h ⊢
      case value u => exact ⟨keep u, by rw [← Act.put_comm a v u h2]; exact h⟩
      case skip => exact ⟨keep _, by rw [← Act.put_comm a v undef h2]; exact h⟩
      case defer d =>
        refine ⟨(show YW P S w1 ops oi v { a with defers := d :: a.defers } from hy).put hsi h3, ?_⟩
        rw [← Act.put_comm _ v undef h2, ← Act.put_defers]
        exact h
      case enter f args =>
        refine ⟨h.1, CallsIn.mono h.2 fun e w'' he => ?_⟩
        cases e with
        | returned u => exact ⟨keep u, by rw [← Act.put_comm a v u h2]; exact he⟩
        | panicked c => exact he.elim
        | outgrown => exact he
      case row row args => exact ⟨h.1, RowsIn.mono h.2 fun u w'' he => ⟨keep u, by rw [← Act.put_comm a v u h2]; exact he⟩⟩
      case round l f tmps assign body =>
        refine ⟨h.1, RoundIn.mono h.2 fun e w'' he => ?_⟩
        cases e with
        | returned u => exact ⟨keep u, by rw [← Act.put_comm a v u h2]; exact he⟩
        | panicked c => exact he.elim
        | outgrown => exact he
    | halt x w' => cases x <;> simp only [Oper.uponIn] at h
  · rename_i hw
    simp only [hw] at h
    exact ⟨fun f _ => rnd_fn _ f, keep _, by rw [← Act.put_comm a v undef h2]; exact h.2⟩
theorem wAny_first {i : Nat} {oi : Oper} {v : Value} (hi : ops[i]? = some oi) (hsel : ∀ (j : Nat) (o : Oper) cs b, ops[j]? = some o → o.op ≠ .select cs b) (hdef : ∀ (j : Nat) (o : Oper) c, ops[j]? = some o → o.op ≠ .defer c) :
    ∀ (fuel : Nat) (listed : Array Bool) (a : Act) (w : World),
      (∀ j oj, ops[j]? = some oj → j ≠ i → listed.getD j true = false → (∀ e ∈ oj.after, Region.binds .any e = true → e.on ≠ i) → oi.apart ops oj = true) →
      i ∈ Region.ready .any ops listed → Upd S w1 w → YW P S w1 ops oi v a → wAny rd P S ops Q fuel (listed.setIfInBounds i true) (a.put oi.dst v) w → wAny rd P S ops Q (fuel + 1) listed a w := by
  intro fuel
  induction fuel with
  | zero =>
    intro listed a w _ hr hu hy H
    refine ⟨fun h => (by rw [h] at hr; cases hr), fun j hj => ?_⟩
    by_cases hji : j = i
    · subst hji; exact hy.wpOpIn hi hu ⟨Upd.refl _ _, H⟩
    · have := ready_mono hj hji
      rw [H.1] at this
      cases this
  | succ fuel ih =>
    intro listed a w hfree hr hu hy H
    refine ⟨fun h => (by rw [h] at hr; cases hr), fun j hj => ?_⟩
    by_cases hji : j = i
    · subst hji; exact hy.wpOpIn hi hu ⟨Upd.refl _ _, H⟩
    · have h1 := H.2 j (ready_mono hj hji)
      obtain ⟨hjun, oj, hoj, hall⟩ := mem_ready.1 hj
      have hnot : ∀ e ∈ oj.after, Region.binds .any e = true → e.on ≠ i := fun e he hb heq => by
        have h1 := hall e he hb
        have h0 := (mem_ready.1 hr).1
        rw [heq] at h1
        rcases Nat.lt_or_ge i listed.size with h' | h'
        · simp [h'] at h0 h1; rw [h0] at h1; cases h1
        · simp [Array.getElem?_eq_none h'] at h1
      have h2 := wpOpIn_putW hoj (hfree j oj hoj hji hjun hnot) (fun cs b => hsel i oi cs b hi) (fun cs b => hsel j oj cs b hoj) (fun c => hdef j oj c hoj) hy h1
      have hfree' : ∀ k ok, ops[k]? = some ok → k ≠ i → (listed.setIfInBounds j true).getD k true = false →
          (∀ e ∈ ok.after, Region.binds .any e = true → e.on ≠ i) → oi.apart ops ok = true := fun k ok hk hki hun hno => by
        refine hfree k ok hk hki ?_ hno
        by_cases hjk : j = k
        · subst hjk; exact hjun
        · rw [getD_set_ne true hjk] at hun; exact hun
      refine wpOpIn_mono (fun a' w' h3 => ⟨h3.2.1, ih (listed.setIfInBounds j true) a' w' hfree' (ready_mono hr (Ne.symm hji)) (hu.trans h3.2.1) h3.1 ?_⟩) h2
      rw [Array.setIfInBounds_comm _ _ hji]
      exact h3.2.2

/-! ### The walk -/
inductive OX where
  | done
  | stop
  | look (o : Oper) (r : OX)
  | act (o : Oper) (r alt : OX)
inductive OT where
  | done
  | stop
  | look (i : Nat) (r : OT)
  | act (i : Nat) (r alt : OT)
def OX.of (l : List Oper) : OT → OX
  | .done => .done
  | .stop => .stop
  | .look i r => match l[i]? with
    | some o => .look o (OX.of l r)
    | none => .stop
  | .act i r alt => match l[i]? with
    | some o => .act o (OX.of l r) (OX.of l alt)
    | none => .stop
def SC (rd : Option Nat) (P : Program) (ops : Array Oper) (Q : Exit → Act → World → Prop) (N : Nat) (ds : List Deferred) (w1 : World) (S : Nat → Prop) : OX → Slots → World → Prop
  | .done, L, w => QK (Q .normal) N ds L w
  | .stop, _, _ => True
  | .look o r, L, w => ∃ d v, o.dst = some d ∧ Nat.blt d N = true ∧ (∀ a, Kn N ds L a → YW P S w1 ops o v a) ∧ SC rd P ops Q N ds w1 S r ((d, v) :: L) w
  | .act o r alt, L, w => WL rd P ops (fun e a w' => e = .normal ∧ Upd S w w' ∧ ∃ L', Kn N ds L' a ∧ SC rd P ops Q N ds w1 S r L' w') N ds [o] L w ∧ SC rd P ops Q N ds w1 S alt L w
def del (i : Nat) : List Nat → List Nat
  | [] => []
  | k :: r => match Nat.beq k i with
    | true => del i r
    | false => k :: del i r
theorem mem_del {i k : Nat} : ∀ {R : List Nat}, k ∈ del i R ↔ k ∈ R ∧ k ≠ i
  | [] => by simp [del]
  | j :: r => by
    simp only [del]
    cases hb : Nat.beq j i with
    | true =>
      have e := Nat.eq_of_beq_eq_true hb
      subst e
      simp only [mem_del, List.mem_cons]
      exact ⟨fun h => ⟨.inr h.1, h.2⟩, fun h => ⟨h.1.resolve_left h.2, h.2⟩⟩
    | false =>
      have e := Nat.ne_of_beq_eq_false hb
      simp only [List.mem_cons, mem_del]
      exact ⟨fun h => h.elim (fun h => ⟨.inl h, h ▸ e⟩) (fun h => ⟨.inr h.1, h.2⟩), fun h => h.1.elim .inl (fun h1 => .inr ⟨h1, h.2⟩)⟩
theorem del_le {i : Nat} : ∀ {R : List Nat}, (del i R).length ≤ R.length
  | [] => Nat.le_refl _
  | j :: r => by
    simp only [del]
    cases Nat.beq j i with
    | true => exact Nat.le_succ_of_le del_le
    | false => exact Nat.succ_le_succ del_le
theorem del_lt {i : Nat} : ∀ {R : List Nat}, i ∈ R → (del i R).length < R.length
  | j :: r, h => by
    simp only [del]
    cases hb : Nat.beq j i with
    | true => exact Nat.lt_succ_of_le del_le
    | false =>
      have e := Nat.ne_of_beq_eq_false hb
      rcases List.mem_cons.1 h with h | h
      · exact absurd h.symm e
      · exact Nat.succ_lt_succ (del_lt h)
def disj (l : List Oper) (i : Nat) (R : List Nat) : Bool := (deps l.toArray i).all fun k => Nat.blt k l.length && !memB k R
def blkd (l : List Oper) (R : List Nat) (j : Nat) : Bool := (deps l.toArray j).any fun k => memB k R
def lookB (l : List Oper) (i : Nat) (R : List Nat) : Bool := match l[i]? with
  | none => false
  | some oi => (del i R).all fun j => memB i (deps l.toArray j) || (match l[j]? with | some oj => oi.apart l.toArray oj | none => false)
def OT.ok (l : List Oper) : OT → List Nat → List Nat → Bool
  | .done, R, H => R.isEmpty && H.isEmpty
  | .stop, R, H => !H.isEmpty && R.all fun j => memB j H || blkd l R j
  | .look i r, R, H => H.isEmpty && (memB i R && (disj l i R && (lookB l i R && OT.ok l r (del i R) [])))
  | .act i r alt, R, H => memB i R && (disj l i R && (OT.ok l r (del i R) [] && OT.ok l alt R (i :: H)))
def plainB (o : Oper) : Bool := match o.op with
  | .select .. => false
  | .defer _ => false
  | _ => true
theorem rdy_in {l : List Oper} {listed : Array Bool} {R : List Nat} (hs : listed.size = l.length) (hl : ∀ j, j < l.length → (listed.getD j true = false ↔ j ∈ R)) {j : Nat} (hj : j ∈ Region.ready .any l.toArray listed) : j < l.length ∧ j ∈ R ∧ blkd l R j ≠ true := by
  obtain ⟨h0, oj, hoj, hall⟩ := mem_ready.1 hj
  have hjl : j < l.length := by simpa using (Array.getElem?_eq_some_iff.1 hoj).1
  refine ⟨hjl, (hl j hjl).1 h0, fun h1 => ?_⟩
  obtain ⟨k, hkd, hkr⟩ := List.any_eq_true.1 h1
  unfold deps at hkd
  rw [hoj] at hkd
  obtain ⟨x, hx, rfl⟩ := List.mem_map.1 hkd
  obtain ⟨hx1, hx2⟩ := List.mem_filter.1 hx
  have h3 := hall x (Array.mem_toList_iff.1 hx1) hx2
  rcases Nat.lt_or_ge x.on l.length with h9 | h9
  · have h4 := (hl _ h9).2 (memB_iff.1 hkr)
    rw [Array.getD_eq_getD_getElem?] at h3 h4
    have hks : x.on < listed.size := by omega
    simp [hks] at h3 h4
    rw [h3] at h4; cases h4
  · rw [Array.getD_eq_getD_getElem?, Array.getElem?_eq_none (by omega)] at h3
    simp at h3
theorem rdy_of {l : List Oper} {listed : Array Bool} {R : List Nat} (hs : listed.size = l.length) (hl : ∀ j, j < l.length → (listed.getD j true = false ↔ j ∈ R)) {i : Nat} (hi : i < l.length) (hR : i ∈ R) (hd : disj l i R = true) : i ∈ Region.ready .any l.toArray listed := by
  obtain ⟨o, ho⟩ : ∃ o, l[i]? = some o := ⟨l[i], List.getElem?_eq_getElem hi⟩
  have hoA : l.toArray[i]? = some o := by simpa using ho
  refine mem_ready.2 ⟨(hl i hi).2 hR, o, hoA, fun e he hbd => ?_⟩
  have hm : e.on ∈ deps l.toArray i := by
    unfold deps
    rw [hoA]
    exact List.mem_map.2 ⟨e, List.mem_filter.2 ⟨Array.mem_toList_iff.2 he, hbd⟩, rfl⟩
  have h1 := List.all_eq_true.1 hd e.on hm
  simp only [Bool.and_eq_true, Bool.not_eq_true'] at h1
  have hk : e.on < l.length := by simpa using h1.1
  have h2 : listed.getD e.on true ≠ false := fun h2 => by
    have := memB_iff.2 ((hl _ hk).1 h2)
    rw [this] at h1; exact absurd h1.2 (by decide)
  rw [Array.getD_eq_getD_getElem?] at h2 ⊢
  have hks : e.on < listed.size := by omega
  simp [hks] at h2 ⊢
  exact h2
theorem hl_set {l : List Oper} {listed : Array Bool} {R : List Nat} (hs : listed.size = l.length) (hl : ∀ j, j < l.length → (listed.getD j true = false ↔ j ∈ R)) {i : Nat} (hi : i < l.length) : ∀ j, j < l.length → ((listed.setIfInBounds i true).getD j true = false ↔ j ∈ del i R) := fun j hj => by
  rw [mem_del]
  by_cases hji : j = i
  · subst hji
    rw [Array.getD_eq_getD_getElem?]
    simp [hs, hi]
  · rw [getD_set_ne true (fun e => hji e.symm), hl j hj]
    exact ⟨fun h => ⟨h, hji⟩, fun h => h.1⟩
theorem SC.run {l : List Oper} (hsel : ∀ (j : Nat) (o : Oper) cs b, l.toArray[j]? = some o → o.op ≠ .select cs b) (hdef : ∀ (j : Nat) (o : Oper) c, l.toArray[j]? = some o → o.op ≠ .defer c) :
    ∀ (t : OT) (R H : List Nat) (listed : Array Bool) (a : Act) (w : World) (L : Slots) (fuel : Nat), listed.size = l.length → (∀ j ∈ R, j < l.length) → (∀ j, j < l.length → (listed.getD j true = false ↔ j ∈ R)) → t.ok l R H = true → R.length ≤ fuel →
      Upd S w1 w → Kn N ds L a → SC rd P l.toArray Q N ds w1 S (OX.of l t) L w →
      (H = [] → wAny rd P S l.toArray Q fuel listed a w) ∧ ∀ f, fuel = f + 1 → ∀ j ∈ Region.ready .any l.toArray listed, j ∉ H → wpOpIn (rnd rd) 3 P l.toArray (fun _ _ _ => False) j (fun a' w' => Upd S w w' ∧ wAny rd P S l.toArray Q f (listed.setIfInBounds j true) a' w') a w
  | .done, R, H, listed, a, w, L, fuel, hs, hR, hl, hb, hf, hu, hk, h => by
    simp only [OT.ok, Bool.and_eq_true, List.isEmpty_iff] at hb
    obtain ⟨rfl, rfl⟩ := hb
    have hr : Region.ready .any l.toArray listed = [] := by
      rw [List.eq_nil_iff_forall_not_mem]
      intro j hj
      have := (rdy_in hs hl hj).2.1
      cases this
    refine ⟨fun _ => ?_, fun f _ j hj => by rw [hr] at hj; cases hj⟩
    cases fuel with
    | zero => exact ⟨hr, QK.run h a hk⟩
    | succ fuel => exact ⟨fun _ => QK.run h a hk, fun i hi => by rw [hr] at hi; cases hi⟩
  | .stop, R, H, listed, a, w, L, fuel, hs, hR, hl, hb, hf, hu, hk, h => by
    simp only [OT.ok, Bool.and_eq_true, Bool.not_eq_true'] at hb
    refine ⟨fun e => by subst e; simp at hb, fun f _ j hj hn => ?_⟩
    obtain ⟨_, h1, h2⟩ := rdy_in hs hl hj
    have h3 := List.all_eq_true.1 hb.2 j h1
    simp only [Bool.or_eq_true] at h3
    rcases h3 with h3 | h3
    · exact absurd (memB_iff.1 h3) hn
    · exact absurd h3 h2
  | .look i r, R, H, listed, a, w, L, 0, hs, hR, hl, hb, hf, hu, hk, h => by
    simp only [OT.ok, Bool.and_eq_true] at hb
    have := memB_iff.1 hb.2.1
    cases R with
    | nil => cases this
    | cons => simp at hf
  | .act i r alt, R, H, listed, a, w, L, 0, hs, hR, hl, hb, hf, hu, hk, h => by
    simp only [OT.ok, Bool.and_eq_true] at hb
    have := memB_iff.1 hb.1
    cases R with
    | nil => cases this
    | cons => simp at hf
  | .look i r, R, H, listed, a, w, L, fuel + 1, hs, hR, hl, hb, hf, hu, hk, h => by
    simp only [OT.ok, Bool.and_eq_true, List.isEmpty_iff] at hb
    obtain ⟨rfl, hm, hd, hlk, hok⟩ := hb
    have hi := memB_iff.1 hm
    have hil := hR i hi
    unfold lookB at hlk
    cases ho : l[i]? with
    | none => rw [ho] at hlk; cases hlk
    | some oi =>
      rw [ho] at hlk
      simp only [] at hlk
      have hoA : l.toArray[i]? = some oi := by simpa using ho
      simp only [OX.of, ho] at h
      obtain ⟨d, v, hdst, hN, hy, hsc⟩ := h
      have hready := rdy_of hs hl hil hi hd
      have hlt := del_lt hi
      have hall : wAny rd P S l.toArray Q (fuel + 1) listed a w := by
        refine wAny_first hoA hsel hdef fuel listed a w (fun j oj hj hji hun hno => ?_) hready hu (hy a hk) ?_
        · have hjl : j < l.length := by simpa using (Array.getElem?_eq_some_iff.1 hj).1
          have h1 := List.all_eq_true.1 hlk j (mem_del.2 ⟨(hl j hjl).1 hun, hji⟩)
          simp only [Bool.or_eq_true] at h1
          rcases h1 with h1 | h1
          · exfalso
            have h2 := memB_iff.1 h1
            unfold deps at h2
            rw [hj] at h2
            obtain ⟨x, hx, hxo⟩ := List.mem_map.1 h2
            obtain ⟨hx1, hx2⟩ := List.mem_filter.1 hx
            exact hno x (Array.mem_toList_iff.1 hx1) hx2 hxo
          · have hjL : l[j]? = some oj := by simpa using hj
            rw [hjL] at h1
            exact h1
        · rw [hdst]
          exact (SC.run hsel hdef r (del i R) [] _ _ w _ fuel (by simpa using hs) (fun j hj => hR j (mem_del.1 hj).1) (hl_set hs hl hil) hok (by omega) hu (hk.put v hN) hsc).1 rfl
      refine ⟨fun _ => hall, fun f e j hj _ => ?_⟩
      obtain rfl : fuel = f := by omega
      exact hall.2 j hj
  | .act i r alt, R, H, listed, a, w, L, fuel + 1, hs, hR, hl, hb, hf, hu, hk, h => by
    simp only [OT.ok, Bool.and_eq_true] at hb
    obtain ⟨hm, hd, hok, hal⟩ := hb
    have hi := memB_iff.1 hm
    have hil := hR i hi
    have hready := rdy_of hs hl hil hi hd
    have hlt := del_lt hi
    obtain ⟨oi, ho⟩ : ∃ o, l[i]? = some o := ⟨l[i], List.getElem?_eq_getElem hil⟩
    have hoA : l.toArray[i]? = some oi := by simpa using ho
    simp only [OX.of, ho] at h
    obtain ⟨hw, halt⟩ := h
    have hB : ∀ j ∈ Region.ready .any l.toArray listed, j ∉ H → wpOpIn (rnd rd) 3 P l.toArray (fun _ _ _ => False) j (fun a' w' => Upd S w w' ∧ wAny rd P S l.toArray Q fuel (listed.setIfInBounds j true) a' w') a w := fun j hj hn => by
      by_cases hji : j = i
      · subst hji
        have hw := hw a hk
        unfold wpOpIn
        rw [hoA]
        simp only []
        unfold wpListIn at hw
        have hnext : ∀ a' w', (fun e a w' => e = Exit.normal ∧ Upd S w w' ∧ ∃ L', Kn N ds L' a ∧ SC rd P l.toArray Q N ds w1 S (OX.of l r) L' w') .normal a' w' → (Upd S w w' ∧ wAny rd P S l.toArray Q fuel (listed.setIfInBounds j true) a' w') := fun a' w' hq => by
          obtain ⟨_, hU, L', hk', hsc⟩ := hq
          exact ⟨hU, (SC.run hsel hdef r (del j R) [] _ a' w' L' fuel (by simpa using hs) (fun k hk => hR k (mem_del.1 hk).1) (hl_set hs hl hil) hok (by omega) (hu.trans hU) hk' hsc).1 rfl⟩
        by_cases hwt : Region.wanted oi (yielded l.toArray a.tmps) = true
        · rw [if_pos hwt] at hw ⊢
          exact Oper.wpIn_into (fun a' w' hK => hnext a' w' hK) (fun e a w hq => hq.1) hw
        · rw [if_neg hwt] at hw ⊢
          exact ⟨hw.1, hnext _ _ hw.2⟩
      · exact (SC.run hsel hdef alt R (i :: H) listed a w L (fuel + 1) hs hR hl hal hf hu hk halt).2 fuel rfl j hj (fun h9 => (List.mem_cons.1 h9).elim hji hn)
    refine ⟨fun e => ?_, fun f e j hj hn => ?_⟩
    · subst e
      exact ⟨fun h0 => (by rw [h0] at hready; cases hready), fun j hj => hB j hj (by simp)⟩
    · obtain rfl : fuel = f := by omega
      exact hB j hj hn
def SW (n : Nat) (T : Nat → Prop) : Nat → Prop := fun i => n ≤ i ∨ T i
theorem c_drawnM {id : Nat} {L0 : Slots} {l : List Oper} {w : World} (hm : P.follows .mixedOrders = true) (T : Nat → Prop) (t : OT) (hc : (l.all plainB && t.ok l (List.range l.length) []) = true)
    (h : ∀ w1, Ext w w1 → SC rd P l.toArray Q N ds w1 (SW w1.heap.size T) (OX.of l t) L0 w1) : WC rd P Q N ds (.region id l.toArray true) L0 w := by
  simp only [Bool.and_eq_true] at hc
  obtain ⟨h1, h2⟩ := hc
  refine ⟨fun a ha => ?_⟩
  refine wpIn_region_any hm (wAny.any ((SC.run (S := SW w.drew.heap.size T) (w1 := w.drew) ?_ ?_ t (List.range l.length) [] _ a _ L0 _ (by simp) (fun j hj => List.mem_range.1 hj) (fun j hj => ?_) h2 (by simp) (Upd.refl _ _) ha (h w.drew (Upd.drew _))).1 rfl))
  · intro j o cs b ho he
    have := List.all_eq_true.1 h1 o (List.mem_of_getElem? (by simpa using ho))
    simp [plainB, he] at this
  · intro j o c ho he
    have := List.all_eq_true.1 h1 o (List.mem_of_getElem? (by simpa using ho))
    simp [plainB, he] at this
  · rw [Array.getD_eq_getD_getElem?]
    simp [hj]
end
section
variable {rd : Option Nat} {P : Program} {ops : Array Oper} {Q : Exit → Act → World → Prop} {N : Nat} {ds : List Deferred} {S T : Nat → Prop} {w1 : World} {L : Slots} {w : World} {rest alt : OX}
variable {d : Nat} {ty : TypeId} {pos : String} {aft : Array Edge} {g : Option (Nat × Bool)}
theorem s_next {w' : World} {r : OX} (u : Upd S w w') (h : SC rd P ops Q N ds w1 S r L w') : WL rd P ops (fun e a w' => e = .normal ∧ Upd S w w' ∧ ∃ L', Kn N ds L' a ∧ SC rd P ops Q N ds w1 S r L' w') N ds [] L w' := ⟨fun _ ha => ⟨rfl, u, L, ha, h⟩⟩
theorem s_nil (h : QK (Q .normal) N ds L w) : SC rd P ops Q N ds w1 S .done L w := h
theorem s_do {o : Oper} (h : WL rd P ops (fun e a w' => e = .normal ∧ Upd S w w' ∧ ∃ L', Kn N ds L' a ∧ SC rd P ops Q N ds w1 S rest L' w') N ds [o] L w) : SC rd P ops Q N ds w1 S (.act o rest .stop) L w := ⟨h, trivial⟩
theorem s_or {o : Oper} (h : SC rd P ops Q N ds w1 S (.act o rest .stop) L w) (k : SC rd P ops Q N ds w1 S alt L w) : SC rd P ops Q N ds w1 S (.act o rest alt) L w := ⟨h.1, k⟩
theorem SC.look_eq : ∀ {r : OX} {L1 L2 : Slots} {w : World}, (∀ k, look k L2 = look k L1) → SC rd P ops Q N ds w1 S r L1 w → SC rd P ops Q N ds w1 S r L2 w
  | .done, _, _, _, e, h => QK.mk fun a ha => QK.run h a ⟨ha.size, ha.defers, fun k v hk => ha.get k v (by rw [e]; exact hk)⟩
  | .stop, _, _, _, _, _ => trivial
  | .look o r, L1, L2, w, e, h => by
    obtain ⟨d, v, h1, h2, h3, h4⟩ := h
    exact ⟨d, v, h1, h2, fun a ha => h3 a ⟨ha.size, ha.defers, fun k v hk => ha.get k v (by rw [e]; exact hk)⟩, SC.look_eq (fun k => by simp only [look]; cases Nat.beq k d <;> simp [e]) h4⟩
  | .act o r alt, L1, L2, w, e, h => ⟨⟨fun a ha => h.1 a ⟨ha.size, ha.defers, fun k v hk => ha.get k v (by rw [e]; exact hk)⟩⟩, SC.look_eq e h.2⟩
theorem look_againS {s : Nat} {u : Value} (hs : look s L = some u) (k : Nat) : look k L = look k ((s, u) :: L) := by
  simp only [look]
  cases hb : Nat.beq k s with
  | false => rfl
  | true => have e := Nat.eq_of_beq_eq_true hb; subst e; exact hs
theorem y_samehd {s : Nat} {u v : Value} (e : u = v) (h : SC rd P ops Q N ds w1 S rest ((s, v) :: L) w) : SC rd P ops Q N ds w1 S rest ((s, u) :: L) w := by subst e; exact h
theorem y_same (s : Nat) {u v : Value} (hs : look s L = some u) (e : u = v) (h : SC rd P ops Q N ds w1 S rest ((s, v) :: L) w) : SC rd P ops Q N ds w1 S rest L w := by subst e; exact SC.look_eq (look_againS hs) h
theorem y_split (s : Nat) {b : Bool} (hs : look s L = some (.bool b)) (ht : b = true → SC rd P ops Q N ds w1 S rest ((s, .bool true) :: L) w) (hf : b = false → SC rd P ops Q N ds w1 S rest ((s, .bool false) :: L) w) : SC rd P ops Q N ds w1 S rest L w := by
  cases b with
  | true => exact SC.look_eq (look_againS hs) (ht rfl)
  | false => exact SC.look_eq (look_againS hs) (hf rfl)
theorem y_splitp (s : Nat) {p : Prop} [Decidable p] (hs : look s L = some (.bool (decide p))) (ht : p → SC rd P ops Q N ds w1 S rest ((s, .bool true) :: L) w) (hf : ¬ p → SC rd P ops Q N ds w1 S rest ((s, .bool false) :: L) w) : SC rd P ops Q N ds w1 S rest L w :=
  y_split s hs (fun e => ht (of_decide_eq_true e)) (fun e => hf (of_decide_eq_false e))
theorem s_F {o : Oper} {v : Value} (hg : grd ops L o.guard = true) (hd : o.dst = some d) (hN : Nat.blt d N = true) (hr : ∀ a, Kn N ds L a → ∀ w, Upd S w1 w → (execOp a.eval o).run P w = .ok (.value v) w) (h : SC rd P ops Q N ds w1 S rest ((d, v) :: L) w) : SC rd P ops Q N ds w1 S (.look o rest) L w :=
  ⟨d, v, hd, hN, fun a ha => .inl ⟨ha.wanted hg, hr a ha⟩, h⟩
theorem y_skip {o : Oper} (hg : ngrd ops L o.guard = true) (hd : o.dst = some d) (hN : Nat.blt d N = true) (h : SC rd P ops Q N ds w1 S rest ((d, undef) :: L) w) : SC rd P ops Q N ds w1 S (.look o rest) L w :=
  ⟨d, undef, hd, hN, fun _a ha => .inr ⟨ha.unwanted hg, rfl⟩, h⟩
theorem cell_keepS {w w' : World} {b off : Nat} {v : Value} (h : w.cell? ⟨b, off, none⟩ = some v) (u : Upd (SW w.heap.size T) w w') (hn : ¬ T b) : w'.cell? ⟨b, off, none⟩ = some v := by
  have hb : b < w.heap.size := by
    rcases Nat.lt_or_ge b w.heap.size with h9 | h9
    · exact h9
    · have e : w.heap[b]? = none := Array.getElem?_eq_none h9
      simp [World.cell?, e] at h
  exact (World.cell?_of_block (w := w) (a := ⟨b, off, none⟩) (u.block b hb (fun h => by rcases h with h | h <;> first | omega | exact hn h))).trans h
theorem y_load {t : TypeId} {x : Operand} {b off : Nat} {v : Value} (ha : ∀ w, (isAgg t).run P w = .ok false w) (hg : grd ops L g = true) (hN : Nat.blt d N = true)
    (hx : ev L x = some (.pointer (some ⟨b, off, none⟩))) (hc : w1.cell? ⟨b, off, none⟩ = some v) (hn : ¬ T b)
    (h : SC rd P ops Q N ds w1 (SW w1.heap.size T) rest ((d, v) :: L) w) : SC rd P ops Q N ds w1 (SW w1.heap.size T) (.look ⟨some d, .load t x, ty, pos, aft, g⟩ rest) L w :=
  s_F hg rfl hN (fun a hk w u => by simp [execOp, hk.ev hx, Instr.loadAt, Instr.sureAddr, run_loadVar1 ha (cell_keepS hc u hn)]) h
theorem y_loadN {t : TypeId} {x : Operand} {n b off : Nat} {vs : List Value} (ha : ∀ w, (isAgg t).run P w = .ok true w) (hs : ∀ w, (sizeOf t).run P w = .ok n w) (hg : grd ops L g = true) (hN : Nat.blt d N = true)
    (hx : ev L x = some (.pointer (some ⟨b, off, none⟩))) (hc : At w1 b off vs) (hl : vs.length = n) (hn : ¬ T b)
    (h : SC rd P ops Q N ds w1 (SW w1.heap.size T) rest ((d, .agg vs.toArray) :: L) w) : SC rd P ops Q N ds w1 (SW w1.heap.size T) (.look ⟨some d, .load t x, ty, pos, aft, g⟩ rest) L w :=
  s_F hg rfl hN (fun a hk w u => by simp [execOp, hk.ev hx, Instr.loadAt, Instr.sureAddr, run_loadVarN ha hs hl (fun j v hv => cell_keepS (hc j v hv) u hn)]) h
theorem y_ari {op : BinOp} {xt yt : TypeId} {x y : Operand} {m n r : Int} (hg : grd ops L g = true) (hN : Nat.blt d N = true)
    (hx : ev L x = some (.int .i64 m)) (hy : ev L y = some (.int .i64 n)) (hv : ariI op m n = some r)
    (hr : -9223372036854775808 ≤ r ∧ r ≤ 9223372036854775807)
    (h : SC rd P ops Q N ds w1 S rest ((d, .int .i64 r) :: L) w) : SC rd P ops Q N ds w1 S (.look ⟨some d, .binOp op xt x y yt, ty, pos, aft, g⟩ rest) L w :=
  s_F hg rfl hN (fun a ha w _ => by
    have e1 := ha.ev hx
    have e2 := ha.ev hy
    have e3 := IntWalk.i64_in r hr
    cases op <;> simp [ariI] at hv <;> subst hv <;> simp [execOp, e1, e2, eqGuard, binOp, Op.intArith, e3]) h
theorem y_notp {xt : TypeId} {x : Operand} {p : Prop} [Decidable p] (hg : grd ops L g = true) (hN : Nat.blt d N = true) (hx : ev L x = some (.bool (decide p)))
    (h : SC rd P ops Q N ds w1 S rest ((d, .bool (decide (¬ p))) :: L) w) : SC rd P ops Q N ds w1 S (.look ⟨some d, .unOp .not xt x, ty, pos, aft, g⟩ rest) L w :=
  s_F hg rfl hN (fun a ha w _ => by simp [execOp, ha.ev hx, Op.unary]) h
theorem y_neg {xt : TypeId} {x : Operand} {m : Int} (hg : grd ops L g = true) (hN : Nat.blt d N = true) (hx : ev L x = some (.int .i64 m)) (hr : -9223372036854775807 ≤ m ∧ m ≤ 9223372036854775807)
    (h : SC rd P ops Q N ds w1 S rest ((d, .int .i64 (-m)) :: L) w) : SC rd P ops Q N ds w1 S (.look ⟨some d, .unOp .neg xt x, ty, pos, aft, g⟩ rest) L w :=
  s_F hg rfl hN (fun a ha w _ => by
    have e3 := IntWalk.i64_in (-m) (by omega)
    simp [execOp, ha.ev hx, Op.unary, Op.intArith, e3]) h
theorem y_quo {xt yt : TypeId} {x y : Operand} {m n : Int} (hg : grd ops L g = true) (hN : Nat.blt d N = true)
    (hx : ev L x = some (.int .i64 m)) (hy : ev L y = some (.int .i64 n)) (h1 : 0 ≤ m ∧ m ≤ 9223372036854775807) (h2 : 1 ≤ n)
    (h : SC rd P ops Q N ds w1 S rest ((d, .int .i64 (m / n)) :: L) w) : SC rd P ops Q N ds w1 S (.look ⟨some d, .binOp .quo xt x y yt, ty, pos, aft, g⟩ rest) L w :=
  s_F hg rfl hN (fun a ha w _ => by
    have e1 := ha.ev hx
    have e2 := ha.ev hy
    have e3 := IntWalk.i64_quo m n ⟨h1.1, h1.2, h2⟩
    have e4 : n ≠ 0 := by omega
    simp [execOp, e1, e2, eqGuard, binOp, Op.intDiv, e3, e4]) h
theorem y_rem {xt yt : TypeId} {x y : Operand} {m n : Int} (hg : grd ops L g = true) (hN : Nat.blt d N = true)
    (hx : ev L x = some (.int .i64 m)) (hy : ev L y = some (.int .i64 n)) (h1 : 0 ≤ m) (h2 : 1 ≤ n)
    (h : SC rd P ops Q N ds w1 S rest ((d, .int .i64 (m % n)) :: L) w) : SC rd P ops Q N ds w1 S (.look ⟨some d, .binOp .rem xt x y yt, ty, pos, aft, g⟩ rest) L w :=
  s_F hg rfl hN (fun a ha w _ => by
    have e1 := ha.ev hx
    have e2 := ha.ev hy
    have e3 := IntWalk.rem_in m n h1
    have e4 : n ≠ 0 := by omega
    simp [execOp, e1, e2, eqGuard, binOp, Op.intDiv, e3, e4]) h
theorem y_rem8 {k : IntKind} {xt yt : TypeId} {x y : Operand} {m n : Int} (hg : grd ops L g = true) (hN : Nat.blt d N = true)
    (hx : ev L x = some (.int k m)) (hy : ev L y = some (.int k n)) (h1 : 0 ≤ m) (h2 : 1 ≤ n)
    (h : SC rd P ops Q N ds w1 S rest ((d, .int k (m % n)) :: L) w) : SC rd P ops Q N ds w1 S (.look ⟨some d, .binOp .rem xt x y yt, ty, pos, aft, g⟩ rest) L w :=
  s_F hg rfl hN (fun a ha w _ => by
    have e1 := ha.ev hx
    have e2 := ha.ev hy
    have e3 := IntWalk.rem_in m n h1
    have e4 : n ≠ 0 := by omega
    simp [execOp, e1, e2, eqGuard, binOp, Op.intDiv, e3, e4]) h
theorem y_max {x y : Operand} {m n : Int} {ats : Array TypeId} (hg : grd ops L g = true) (hN : Nat.blt d N = true) (hx : ev L x = some (.int .i64 m)) (hy : ev L y = some (.int .i64 n))
    (h : SC rd P ops Q N ds w1 S rest ((d, .int .i64 (max m n)) :: L) w) : SC rd P ops Q N ds w1 S (.look ⟨some d, .call ⟨.builtin .max, #[x, y], ats⟩, ty, pos, aft, g⟩ rest) L w :=
  s_F hg rfl hN (fun a hk w _ => by
    have e : (if m < n then n else m) = max m n := by split <;> omega
    simp [execOp, resolve, invoke, builtin, Builtin.max_, Builtin.max2, hk.ev hx, hk.ev hy, e]) h
theorem y_min {x y : Operand} {m n : Int} {ats : Array TypeId} (hg : grd ops L g = true) (hN : Nat.blt d N = true) (hx : ev L x = some (.int .i64 m)) (hy : ev L y = some (.int .i64 n))
    (h : SC rd P ops Q N ds w1 S rest ((d, .int .i64 (min m n)) :: L) w) : SC rd P ops Q N ds w1 S (.look ⟨some d, .call ⟨.builtin .min, #[x, y], ats⟩, ty, pos, aft, g⟩ rest) L w :=
  s_F hg rfl hN (fun a hk w _ => by
    have e : (if n < m then n else m) = min m n := by split <;> omega
    simp [execOp, resolve, invoke, builtin, Builtin.min_, Builtin.min2, hk.ev hx, hk.ev hy, e]) h
theorem y_index {t e : TypeId} {x i : Operand} {k : IntKind} {b o len cap s : Nat} {j : Nat} {n : Int} (hu : P.underlying t = some (.slice e)) (hs : ∀ w, (sizeOf e).run P w = .ok s w)
    (hg : grd ops L g = true) (hN : Nat.blt d N = true) {ao : Option Addr} (hx : ev L x = some (.slice ao len cap)) (hi : ev L i = some (.int k n)) (hao : ao = some ⟨b, o, none⟩) (hj : n = (j : Int)) (hl : j < len)
    (h : SC rd P ops Q N ds w1 S rest ((d, .pointer (some ⟨b, o + j * s, none⟩)) :: L) w) : SC rd P ops Q N ds w1 S (.look ⟨some d, .indexAddr t x i, ty, pos, aft, g⟩ rest) L w :=
  s_F hg rfl hN (fun a hk w _ => by
    subst hj hao
    have h1 : (0 : Int) ≤ (j : Int) ∧ (j : Int) < (len : Int) := by omega
    simp [execOp, hk.ev hx, hk.ev hi, Instr.indexAt, run_underlying hu, asIntOf, hs, addr_add, hl]) h
theorem y_indexArr {t e : TypeId} {x i : Operand} {k : IntKind} {b off n s : Nat} {j : Nat} {m : Int} (o' : Nat) (hu : P.underlying t = some (.array n e)) (hs : ∀ w, (sizeOf e).run P w = .ok s w)
    (hg : grd ops L g = true) (hN : Nat.blt d N = true) (hx : ev L x = some (.pointer (some ⟨b, off, none⟩))) (hi : ev L i = some (.int k m)) (hj : m = (j : Int)) (hl : j < n) (ho : off + j * s = o')
    (h : SC rd P ops Q N ds w1 S rest ((d, .pointer (some ⟨b, o', none⟩)) :: L) w) : SC rd P ops Q N ds w1 S (.look ⟨some d, .indexAddr t x i, ty, pos, aft, g⟩ rest) L w :=
  s_F hg rfl hN (fun a hk w _ => by
    subst hj ho
    have h1 : (0 : Int) ≤ (j : Int) ∧ (j : Int) < (n : Int) := by omega
    simp [execOp, hk.ev hx, hk.ev hi, Instr.indexAt, run_underlying hu, asIntOf, hs, addr_add, hl, Instr.sureAddr]) h
theorem y_build {t : TypeId} {parts : Array (Nat × Operand)} {ps : List (Nat × Value)} {v : Value} (hg : grd ops L g = true) (hN : Nat.blt d N = true)
    (hp : evs L (parts.toList.map (·.2)) = some (ps.map (·.2)) ∧ parts.toList.map (·.1) = ps.map (·.1))
    (hr : ∀ w, (Instr.build t ps.toArray).run P w = .ok v w)
    (h : SC rd P ops Q N ds w1 S rest ((d, v) :: L) w) : SC rd P ops Q N ds w1 S (.look ⟨some d, .build t parts, ty, pos, aft, g⟩ rest) L w :=
  s_F hg rfl hN (fun a hk w _ => by
    have e : parts.map (fun (i, x) => (i, a.eval x)) = ps.toArray := parts_ev hk hp.1 hp.2
    simp only [execOp]
    rw [e]
    simp [hr]) h
theorem y_neS {t yt : TypeId} {x y : Operand} {xs ys : List Value} {b : Bool} (hm : P.eqGuardType P.depth t = false) (he : ∀ w, (Op.equalIn 10000 t (.agg xs.toArray) (.agg ys.toArray)).run P w = .ok b w)
    (hg : grd ops L g = true) (hN : Nat.blt d N = true) (hx : ev L x = some (.agg xs.toArray)) (hy : ev L y = some (.agg ys.toArray))
    (h : SC rd P ops Q N ds w1 S rest ((d, .bool (!b)) :: L) w) : SC rd P ops Q N ds w1 S (.look ⟨some d, .binOp .neq t x y yt, ty, pos, aft, g⟩ rest) L w :=
  s_F hg rfl hN (fun a hk w _ => by
    simp only [execOp, hk.ev hx, hk.ev hy, Sem.run_bind, run_eqGuard_agg w .neq t x y _ _ hm, Result.andThen_ok]
    simp [run_neq_struct, he]) h
theorem y_sliceTo {t e : TypeId} {x hi : Operand} {ao : Option Addr} {n cap k : Nat} {kh : IntKind} {mh : Int} (m : Nat) (hu : P.underlying t = some (.slice e)) (hsz : ∀ w, (sizeOf e).run P w = .ok k w)
    (hg : grd ops L g = true) (hN : Nat.blt d N = true) (hx : ev L x = some (.slice ao n cap)) (hhi : ev L hi = some (.int kh mh)) (e2 : mh = (m : Int)) (b2 : m ≤ cap)
    (h : SC rd P ops Q N ds w1 S rest ((d, .slice (subAddr ao cap 0 k) m cap) :: L) w) : SC rd P ops Q N ds w1 S (.look ⟨some d, .slice t x none (some hi) none, ty, pos, aft, g⟩ rest) L w :=
  s_F hg rfl hN (fun a hk w _ => by
    subst e2
    have q1 : (0 : Int) ≤ (m : Int) ∧ (m : Int) ≤ (cap : Int) := by omega
    simp [execOp, Instr.sliceAt, run_underlying hu, Instr.slice, Instr.sliceBounds, Instr.sliceBound, hk.ev hx, hk.ev hhi, asIntOf, b2, hsz, subAddr]) h
theorem y_sliceFrom {t e : TypeId} {x lo : Operand} {ao : Option Addr} {n cap k : Nat} {kl : IntKind} {ml : Int} (l : Nat) (hu : P.underlying t = some (.slice e)) (hsz : ∀ w, (sizeOf e).run P w = .ok k w)
    (hg : grd ops L g = true) (hN : Nat.blt d N = true) (hx : ev L x = some (.slice ao n cap)) (hlo : ev L lo = some (.int kl ml)) (e1 : ml = l) (b1 : l ≤ n) (_b2 : n ≤ cap)
    (h : SC rd P ops Q N ds w1 S rest ((d, .slice (subAddr ao cap l k) (n - l) (cap - l)) :: L) w) : SC rd P ops Q N ds w1 S (.look ⟨some d, .slice t x (some lo) none none, ty, pos, aft, g⟩ rest) L w :=
  s_F hg rfl hN (fun a hk w _ => by
    subst e1
    simp [execOp, Instr.sliceAt, run_underlying hu, Instr.slice, Instr.sliceBounds, Instr.sliceBound, hk.ev hx, hk.ev hlo, asIntOf, b1, hsz, subAddr]) h
end
end Go.Proofs.YtagmkfbbhfaceaaGreatDoor
