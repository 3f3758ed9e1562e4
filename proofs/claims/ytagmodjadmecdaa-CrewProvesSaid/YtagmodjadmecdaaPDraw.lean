/-
  A region whose operations may run in several orders: what is known behind it, whatever the order. Conditions: none; it holds over any program.
-/
import Derived.Test.YtagmodjadmecdaaPMem
import Derived.Orders
namespace Go.Proofs.Ytagmodjadmecdaa
open Go Go.RowKit

/-- What each operation writes: its slot, and its value where that hangs on nothing but the frame ahead. -/
abbrev Plan := List (Option (Nat × Option Value))

/-- The operations that must have run before operation i. -/
def deps (ops : Array Oper) (i : Nat) : List Nat := match ops[i]? with
  | none => []
  | some o => (o.after.toList.filter fun e => Region.binds .any e).map (·.on)

/-- What is known of the slots when the operations of D have run. -/
def ld (D : Nat → Bool) (ρ : Nat → Value) : Nat → Plan → Slots
  | _, [] => []
  | i, none :: r => ld D ρ (i + 1) r
  | i, some (d, v) :: r => match D i with
    | true => (d, v.getD (ρ i)) :: ld D ρ (i + 1) r
    | false => ld D ρ (i + 1) r

def slotsOf : Plan → List Nat
  | [] => []
  | none :: r => slotsOf r
  | some (d, _) :: r => d :: slotsOf r

def memB (k : Nat) : List Nat → Bool
  | [] => false
  | j :: r => match Nat.beq k j with
    | true => true
    | false => memB k r

def nodupB : List Nat → Bool
  | [] => true
  | j :: r => !memB j r && nodupB r

theorem memB_iff {k : Nat} : ∀ {l : List Nat}, memB k l = true ↔ k ∈ l
  | [] => by simp [memB]
  | j :: r => by
    simp only [memB, List.mem_cons]
    cases hb : Nat.beq k j with
    | true => have := Nat.eq_of_beq_eq_true hb; simp [this]
    | false =>
      have : k ≠ j := fun e => by subst e; simp [Nat.beq_refl] at hb
      simp [this, memB_iff (l := r)]

theorem look_none {k : Nat} {D : Nat → Bool} {ρ : Nat → Value} : ∀ {V : Plan} {i : Nat}, memB k (slotsOf V) = false → look k (ld D ρ i V) = none
  | [], _, _ => rfl
  | none :: r, i, h => look_none (V := r) h
  | some (d, v) :: r, i, h => by
    simp only [slotsOf, memB] at h
    cases hb : Nat.beq k d with
    | true => simp [hb] at h
    | false =>
      rw [hb] at h
      simp only [ld]
      cases D i with
      | true => simp only [look, hb]; exact look_none (V := r) h
      | false => exact look_none (V := r) h

theorem look_append {k : Nat} : ∀ {L M : Slots}, look k (L ++ M) = match look k L with | some v => some v | none => look k M
  | [], M => by simp [look]
  | (j, v) :: r, M => by
    simp only [List.cons_append, look]
    cases hb : Nat.beq k j with
    | true => rfl
    | false => exact look_append (L := r)

/-- An operation that has run: its slot holds its value. -/
theorem look_ran {D : Nat → Bool} {ρ : Nat → Value} : ∀ {V : Plan} {i j d : Nat} {v : Option Value}, nodupB (slotsOf V) = true → V[j]? = some (some (d, v)) → D (i + j) = true →
    look d (ld D ρ i V) = some (v.getD (ρ (i + j)))
  | [], _, _, _, _, _, h, _ => by simp at h
  | none :: r, i, 0, d, v, _, h, _ => by simp at h
  | none :: r, i, j + 1, d, v, hn, h, hD => by
    have := look_ran (V := r) (i := i + 1) (j := j) (d := d) (v := v) (D := D) (ρ := ρ) hn (by simpa using h) (by rwa [show i + 1 + j = i + (j + 1) from by omega])
    rwa [show i + 1 + j = i + (j + 1) from by omega] at this
  | some (e, u) :: r, i, 0, d, v, hn, h, hD => by
    simp at h
    obtain ⟨rfl, rfl⟩ := h
    simp only [ld, Nat.add_zero] at hD ⊢
    rw [hD]
    simp [look, Nat.beq_refl]
  | some (e, u) :: r, i, j + 1, d, v, hn, h, hD => by
    simp only [slotsOf, nodupB, Bool.and_eq_true, Bool.not_eq_true'] at hn
    have hd : d ≠ e := by
      intro e'
      subst e'
      have hm : ∀ (W : Plan) (q : Nat), W[q]? = some (some (d, v)) → memB d (slotsOf W) = true := by
        intro W
        induction W with
        | nil => intro q hq; simp at hq
        | cons x W ih =>
          intro q hq
          cases q with
          | zero => simp at hq; subst hq; simp [slotsOf, memB, Nat.beq_refl]
          | succ q =>
            have := ih q (by simpa using hq)
            cases x with
            | none => exact this
            | some p => obtain ⟨p1, p2⟩ := p; simp only [slotsOf, memB]; cases Nat.beq d p1 <;> simp [this]
      have := hm r j (by simpa using h)
      simp [this] at hn
    have hb : Nat.beq d e = false := by
      cases hbb : Nat.beq d e with
      | false => rfl
      | true => exact absurd (Nat.eq_of_beq_eq_true hbb) hd
    have := look_ran (V := r) (i := i + 1) (j := j) (d := d) (v := v) (D := D) (ρ := ρ) hn.2 (by simpa using h) (by rwa [show i + 1 + j = i + (j + 1) from by omega])
    rw [show i + 1 + j = i + (j + 1) from by omega] at this
    simp only [ld]
    cases D i with
    | true => simp only [look, hb]; exact this
    | false => exact this

/-- A slot none of whose writers has run. -/
theorem look_old {D : Nat → Bool} {ρ : Nat → Value} {s : Nat} : ∀ {V : Plan} {i : Nat}, (∀ k v, V[k]? = some (some (s, v)) → D (i + k) = false) → look s (ld D ρ i V) = none
  | [], _, _ => rfl
  | none :: r, i, h => look_old (V := r) (fun k v hk => by have := h (k + 1) v (by simpa using hk); rwa [show i + (k + 1) = i + 1 + k from by omega] at this)
  | some (e, u) :: r, i, h => by
    have hr := look_old (V := r) (i := i + 1) (D := D) (ρ := ρ) (s := s) (fun k v hk => by have := h (k + 1) v (by simpa using hk); rwa [show i + (k + 1) = i + 1 + k from by omega] at this)
    simp only [ld]
    cases hD : D i with
    | false => exact hr
    | true =>
      simp only [look]
      cases hb : Nat.beq s e with
      | false => exact hr
      | true =>
        have e' := Nat.eq_of_beq_eq_true hb
        subst e'
        have := h 0 u rfl
        rw [Nat.add_zero, hD] at this
        cases this

/-- Every writer of slot s must run behind operation i. -/
def oldB (dep : Nat → List Nat) (i s : Nat) : Nat → Plan → Bool
  | _, [] => true
  | k, none :: r => oldB dep i s (k + 1) r
  | k, some (d, _) :: r => (match Nat.beq s d with | true => memB i (dep k) | false => true) && oldB dep i s (k + 1) r

theorem oldB_spec {dep : Nat → List Nat} {i s : Nat} : ∀ {V : Plan} {k : Nat}, oldB dep i s k V = true → ∀ j v, V[j]? = some (some (s, v)) → i ∈ dep (k + j)
  | [], _, _, j, v, h => by simp at h
  | none :: r, k, hB, j, v, h => by
    cases j with
    | zero => simp at h
    | succ j => have := oldB_spec (V := r) (k := k + 1) hB j v (by simpa using h); rwa [show k + 1 + j = k + (j + 1) from by omega] at this
  | some (d, u) :: r, k, hB, j, v, h => by
    simp only [oldB, Bool.and_eq_true] at hB
    cases j with
    | zero =>
      simp at h
      obtain ⟨rfl, _⟩ := h
      have := hB.1
      rw [Nat.beq_refl] at this
      exact memB_iff.1 this
    | succ j => have := oldB_spec (V := r) (k := k + 1) hB.2 j v (by simpa using h); rwa [show k + 1 + j = k + (j + 1) from by omega] at this

/-- What operation i may lean on: values of operations that must have run, and slots that no operation has written yet. -/
def Fr (dep : Nat → List Nat) (V : Plan) (L0 : Slots) (ρ : Nat → Value) (i : Nat) : Slots → Prop
  | [] => True
  | (s, v) :: r => ((∃ j u, memB j (dep i) = true ∧ V[j]? = some (some (s, u)) ∧ v = u.getD (ρ j)) ∨ (look s L0 = some v ∧ oldB dep i s 0 V = true)) ∧ Fr dep V L0 ρ i r

def Closed (dep : Nat → List Nat) (D : Nat → Bool) : Prop := ∀ k, D k = true → ∀ i, i ∈ dep k → D i = true

/-- What must run behind an operation that has not run has not run. -/
theorem Closed.late {dep : Nat → List Nat} {D : Nat → Bool} (h : Closed dep D) {i : Nat} (k : Nat) (hi : D i = false) (hk : memB i (dep k) = true) : D k = false := by
  cases hD : D k with
  | false => rfl
  | true => have := h k hD i (memB_iff.1 hk); rw [hi] at this; cases this

theorem Fr.sub {dep : Nat → List Nat} {V : Plan} {L0 : Slots} {ρ : Nat → Value} {i : Nat} {D : Nat → Bool} (hn : nodupB (slotsOf V) = true) (hc : Closed dep D) (hi : D i = false) (hd : ∀ j, j ∈ dep i → D j = true) :
    ∀ {F : Slots}, Fr dep V L0 ρ i F → Sub F (ld D ρ 0 V ++ L0)
  | [], _ => trivial
  | (s, v) :: r, h => by
    refine ⟨?_, Fr.sub hn hc hi hd h.2⟩
    rw [look_append]
    rcases h.1 with ⟨j, u, hj, hV, rfl⟩ | ⟨h0, hO⟩
    · have := look_ran (i := 0) (j := j) (D := D) (ρ := ρ) hn hV (by rw [Nat.zero_add]; exact hd j (memB_iff.1 hj))
      rw [this]
      simp
    · have : look s (ld D ρ 0 V) = none := look_old (fun k w hk => by
        have := oldB_spec hO k w hk
        rw [Nat.zero_add] at this ⊢
        exact hc.late k hi (memB_iff.2 this))
      rw [this]
      exact h0

theorem Kn.over {N : Nat} {ds : List Deferred} {L F : Slots} {a : Act} (h : Kn N ds L a) (hs : Sub F L) : Kn N ds (F ++ L) a := by
  refine ⟨h.size, h.defers, fun k v hk => ?_⟩
  rw [look_append] at hk
  cases hF : look k F with
  | none => rw [hF] at hk; exact h.get k v hk
  | some u =>
    rw [hF] at hk
    simp at hk
    subst hk
    exact (h.sub hs).get k u hF

def setD (D : Nat → Bool) (i : Nat) : Nat → Bool := fun j => match Nat.beq j i with | true => true | false => D j
def setV (ρ : Nat → Value) (i : Nat) (v : Value) : Nat → Value := fun j => match Nat.beq j i with | true => v | false => ρ j

theorem ld_set {D : Nat → Bool} {ρ : Nat → Value} {i : Nat} {v : Value} {k : Nat} : ∀ {V : Plan} {m : Nat}, (∀ d u, V[i - m]? = some (some (d, u)) → m ≤ i → d ≠ k) →
    look k (ld (setD D i) (setV ρ i v) m V) = look k (ld D ρ m V)
  | [], m, _ => rfl
  | none :: r, m, h => by
    simp only [ld]
    exact ld_set (V := r) (m := m + 1) (fun d u hd hm => h d u (by rw [show i - m = (i - (m + 1)) + 1 from by omega]; simpa using hd) (by omega))
  | some (e, w) :: r, m, h => by
    have ih := ld_set (V := r) (m := m + 1) (D := D) (ρ := ρ) (i := i) (v := v) (k := k) (fun d u hd hm => h d u (by rw [show i - m = (i - (m + 1)) + 1 from by omega]; simpa using hd) (by omega))
    simp only [ld]
    by_cases hm : m = i
    · subst hm
      have hne : e ≠ k := h e w (by simp) (Nat.le_refl _)
      have hb : Nat.beq k e = false := by
        cases hbb : Nat.beq k e with
        | false => rfl
        | true => exact absurd (Nat.eq_of_beq_eq_true hbb).symm hne
      have h1 : setD D m m = true := by simp [setD, Nat.beq_refl]
      rw [h1]
      simp only [look, hb]
      cases D m with
      | true => simp only [look, hb]; exact ih
      | false => exact ih
    · have hb : Nat.beq m i = false := by
        cases hbb : Nat.beq m i with
        | false => rfl
        | true => exact absurd (Nat.eq_of_beq_eq_true hbb) hm
      have h1 : setD D i m = D m := by simp [setD, hb]
      have h2 : setV ρ i v m = ρ m := by simp [setV, hb]
      rw [h1, h2]
      cases D m with
      | true => simp only [look]; cases Nat.beq k e with
        | true => rfl
        | false => exact ih
      | false => exact ih

/-- What an operation of the region leaves. -/
def DQ (N : Nat) (ds : List Deferred) (V : Plan) (W : (Nat → Bool) → (Nat → Value) → World → Prop) (D : Nat → Bool) (ρ : Nat → Value) (i : Nat) (L : Slots) : Exit → Act → World → Prop := fun e a w =>
  e = .normal ∧ match V[i]? with
    | some (some (d, u)) => ∃ v, (∀ v', u = some v' → v = v') ∧ Kn N ds ((d, v) :: L) a ∧ W (setD D i) (setV ρ i v) w
    | _ => Kn N ds L a ∧ W (setD D i) ρ w

theorem Oper.wpIn_into {F : Fence} {m : Nat} {P : Program} {o : Oper} {a : Act} {w : World} {K K' : Act → World → Prop} {Q Q' : Exit → Act → World → Prop} (h : ∀ a w, K a w → K' a w) (hQ : ∀ e a w, Q e a w → e = .normal)
    (hh : o.wpIn F m P a w K Q) : o.wpIn F m P a w K' Q' := by
  unfold Oper.wpIn at *
  refine ⟨hh.1, ?_⟩
  have hh := hh.2
  generalize (o.semAt F.round a.eval).run P w = r at *
  cases r with
  | ok n w' =>
    cases n <;> simp only [Oper.uponIn] at hh ⊢ <;>
      first
        | exact h _ _ hh
        | exact ⟨hh.1, CallsIn.mono hh.2 (fun e w'' he => by cases e with
          | returned v => exact h _ _ he
          | panicked c => exact absurd (hQ _ _ _ he) (by simp)
          | outgrown => obtain ⟨x, y, hz⟩ := he; exact absurd (hQ _ _ _ hz) (by simp))⟩
        | exact ⟨hh.1, RoundIn.mono hh.2 (fun e w'' he => by cases e with
          | returned v => exact h _ _ he
          | panicked c => exact absurd (hQ _ _ _ he) (by simp)
          | outgrown => obtain ⟨x, y, hz⟩ := he; exact absurd (hQ _ _ _ hz) (by simp))⟩
        | exact ⟨hh.1, RowsIn.mono hh.2 (fun _ _ he => h _ _ he)⟩
  | halt x w' => cases x <;> simp only [Oper.uponIn] at hh ⊢ <;> first | exact hh | exact absurd (hQ _ _ _ hh) (by simp)

/-- No operation must run behind itself or a later one. -/
def acyclicB (ops : Array Oper) (n : Nat) : Bool := (List.range n).all fun i => (deps ops i).all fun j => Nat.blt j i

theorem c_draw {rd : Option Nat} {P : Program} {Q : Exit → Act → World → Prop} {N : Nat} {ds : List Deferred} {L0 : Slots} {w : World} {id : Nat} {l : List Oper} (hm : P.follows .mixedOrders = true) (n : Nat) (V : Plan)
    (W : (Nat → Bool) → (Nat → Value) → World → Prop) (ρ0 : Nat → Value)
    (hl : l.length = n) (hV : V.length = n) (hnd : nodupB (slotsOf V) = true) (hac : acyclicB l.toArray n = true)
    (h0 : W (fun j => Nat.ble n j) ρ0 w.drew)
    (step : ∀ i o, l[i]? = some o → ∀ D ρ w', Closed (deps l.toArray) D → D i = false → (∀ j, j ∈ deps l.toArray i → D j = true) → W D ρ w' →
      ∃ F, Fr (deps l.toArray) V L0 ρ i F ∧ ∀ Lr, WL rd P l.toArray (DQ N ds V W D ρ i (F ++ Lr)) N ds [o] (F ++ Lr) w')
    (done : ∀ ρ w', W (fun _ => true) ρ w' → QK (Q .normal) N ds (ld (fun _ => true) ρ 0 V ++ L0) w') : WC rd P Q N ds (.region id l.toArray true) L0 w := by
  intro a ha
  refine wpIn_region_any hm ?_
  have key : ∀ (fuel : Nat) (listed : Array Bool) (a : Act) (w : World) (ρ : Nat → Value), listed.size = n → Closed (deps l.toArray) (fun j => listed.getD j true) → Kn N ds (ld (fun j => listed.getD j true) ρ 0 V ++ L0) a →
      W (fun j => listed.getD j true) ρ w → (listed.toList.countP fun b => !b) ≤ fuel → wpAnyIn (rnd rd) 3 P .any l.toArray Q fuel listed a w := by
    intro fuel
    have ready0 : ∀ (listed : Array Bool) (a : Act) (w : World) (ρ : Nat → Value), listed.size = n → Kn N ds (ld (fun j => listed.getD j true) ρ 0 V ++ L0) a → W (fun j => listed.getD j true) ρ w →
        Region.ready .any l.toArray listed = [] → Q .normal a w := by
      intro listed a w ρ hs hk hW hr
      have hall : ∀ i, listed.getD i true = true := by
        intro i
        induction i using Nat.strongRecOn with
        | _ i ih =>
          cases hli : listed.getD i true with
          | true => rfl
          | false =>
            exfalso
            have hin : i < n := by
              rcases Nat.lt_or_ge i n with h | h
              · exact h
              · rw [Array.getD_eq_getD_getElem?, Array.getElem?_eq_none (by omega)] at hli; simp at hli
            have ho : l.toArray[i]? = some (l[i]'(by omega)) := by simp [show i < l.length by omega]
            have hmem : i ∈ Region.ready .any l.toArray listed := mem_ready.2 ⟨hli, _, ho, fun e he hb => by
              have hd : e.on ∈ deps l.toArray i := by
                unfold deps
                rw [ho]
                exact List.mem_map.2 ⟨e, List.mem_filter.2 ⟨Array.mem_toList_iff.2 he, hb⟩, rfl⟩
              have hlt : e.on < i := by
                have := List.all_eq_true.1 hac i (List.mem_range.2 hin)
                have := List.all_eq_true.1 this _ hd
                simpa using this
              have h1 := ih e.on hlt
              rw [Array.getD_eq_getD_getElem?] at h1 ⊢
              have : e.on < listed.size := by omega
              simpa [this] using h1⟩
            rw [hr] at hmem
            cases hmem
      have hD : (fun j => listed.getD j true) = (fun _ => true) := funext hall
      rw [hD] at hk hW
      exact done ρ w hW a hk
    induction fuel with
    | zero =>
      intro listed a w ρ hs hc hk hW hcnt
      have hr : Region.ready .any l.toArray listed = [] := by
        rw [List.eq_nil_iff_forall_not_mem]
        intro j hj
        have hj1 := (mem_ready.1 hj).1
        have : 0 < listed.toList.countP fun b => !b := by
          rw [List.countP_pos_iff]
          rw [Array.getD_eq_getD_getElem?] at hj1
          cases hq : listed[j]? with
          | none => rw [hq] at hj1; simp at hj1
          | some b => rw [hq] at hj1; simp at hj1; subst hj1; exact ⟨false, List.mem_of_getElem? (by simpa using hq), rfl⟩
        omega
      exact ⟨hr, ready0 listed a w ρ hs hk hW hr⟩
    | succ fuel ih =>
      intro listed a w ρ hs hc hk hW hcnt
      refine ⟨fun hr => ready0 listed a w ρ hs hk hW hr, fun i hi => ?_⟩
      obtain ⟨hi0, o, ho, hdep⟩ := mem_ready.1 hi
      have hin : i < n := by have := (Array.getElem?_eq_some_iff.1 ho).1; simpa [hl] using this
      have hoL : l[i]? = some o := by simpa using ho
      have hdeps : ∀ j, j ∈ deps l.toArray i → (fun j => listed.getD j true) j = true := by
        intro j hj
        unfold deps at hj
        rw [ho] at hj
        obtain ⟨e, he, rfl⟩ := List.mem_map.1 hj
        obtain ⟨he1, he2⟩ := List.mem_filter.1 he
        have := hdep e (Array.mem_toList_iff.1 he1) he2
        show listed.getD e.on true = true
        rw [Array.getD_eq_getD_getElem?] at this ⊢
        cases hq : listed[e.on]? with
        | none => rw [hq] at this; simp at this
        | some b => rw [hq] at this; simpa using this
      obtain ⟨F, hF, hstep⟩ := step i o hoL (fun j => listed.getD j true) ρ w hc hi0 hdeps hW
      have hsub := Fr.sub (D := fun j => listed.getD j true) hnd hc hi0 hdeps hF
      have hwl := hstep (ld (fun j => listed.getD j true) ρ 0 V ++ L0) a (hk.over hsub)
      have hset : (fun j => (listed.setIfInBounds i true).getD j true) = setD (fun j => listed.getD j true) i := by
        funext j
        simp only [setD]
        cases hb : Nat.beq j i with
        | true =>
          have e := Nat.eq_of_beq_eq_true hb
          subst e
          rw [Array.getD_eq_getD_getElem?]
          simp [hs, hin]
        | false =>
          have e : j ≠ i := fun e => by subst e; simp [Nat.beq_refl] at hb
          exact getD_set_ne true (fun h => e h.symm)
      have hcl : Closed (deps l.toArray) (fun j => (listed.setIfInBounds i true).getD j true) := by
        rw [hset]
        intro k hk' j hj
        simp only [setD] at hk' ⊢
        cases hbj : Nat.beq j i with
        | true => rfl
        | false =>
          cases hbk : Nat.beq k i with
          | true =>
            have e := Nat.eq_of_beq_eq_true hbk
            subst e
            exact hdeps j hj
          | false =>
            rw [hbk] at hk'
            exact hc k hk' j hj
      have hcnt' : ((listed.setIfInBounds i true).toList.countP fun b => !b) ≤ fuel := by
        have hlt : i < listed.toList.length := by simp [hs, hin]
        have hfalse : listed.toList[i] = false := by
          rw [Array.getD_eq_getD_getElem?] at hi0
          simp [hs, hin] at hi0
          simpa using hi0
        have h1 : (listed.setIfInBounds i true).toList = listed.toList.set i true := by simp
        rw [h1, List.countP_set hlt, hfalse]
        change (listed.toList.countP fun b => !b) - 1 + 0 ≤ fuel
        have : 0 < listed.toList.countP fun b => !b := by
          rw [List.countP_pos_iff]
          exact ⟨false, by rw [← hfalse]; exact List.getElem_mem hlt, rfl⟩
        omega
      have hstep' : ∀ a' w', DQ N ds V W (fun j => listed.getD j true) ρ i (F ++ (ld (fun j => listed.getD j true) ρ 0 V ++ L0)) .normal a' w' → wpAnyIn (rnd rd) 3 P .any l.toArray Q fuel (listed.setIfInBounds i true) a' w' := by
        intro a' w' hq
        obtain ⟨_, hq⟩ := hq
        have hagree : ∀ k u, look k F = some u → look k (ld (fun j => listed.getD j true) ρ 0 V ++ L0) = some u := by
          intro k u hu
          have : ∀ {F L : Slots}, Sub F L → ∀ k u, look k F = some u → look k L = some u := by
            intro F L hs
            induction F with
            | nil => intro k u h; simp [look] at h
            | cons p r ih =>
              obtain ⟨q, v⟩ := p
              intro k u h
              simp only [look] at h
              cases hb : Nat.beq k q with
              | true => have e := Nat.eq_of_beq_eq_true hb; rw [hb] at h; simp at h; subst e h; exact hs.1
              | false => rw [hb] at h; exact ih hs.2 k u h
          exact this hsub k u hu
        split at hq
        · rename_i d u hVi
          obtain ⟨v, hv, hk', hW'⟩ := hq
          refine ih _ a' w' (setV ρ i v) (by simp [hs]) hcl ?_ (by rw [hset]; exact hW') hcnt'
          rw [hset]
          refine ⟨hk'.size, hk'.defers, fun k x hx => ?_⟩
          refine hk'.get k x ?_
          simp only [look]
          cases hb : Nat.beq k d with
          | true =>
            have e := Nat.eq_of_beq_eq_true hb
            subst e
            have h1 := look_ran (V := V) (i := 0) (j := i) (D := setD (fun j => listed.getD j true) i) (ρ := setV ρ i v) hnd hVi (by simp [setD, Nat.beq_refl])
            rw [look_append, h1] at hx
            simp only [Nat.zero_add, setV, Nat.beq_refl] at hx
            cases u with
            | none => simpa using hx
            | some u0 => have := hv u0 rfl; subst this; simpa using hx
          | false =>
            rw [look_append] at hx
            rw [ld_set (m := 0) (fun d' u' hd' _ => by
              rw [Nat.sub_zero, hVi] at hd'
              simp at hd'
              intro e
              rw [← hd'.1] at e
              subst e
              simp [Nat.beq_refl] at hb)] at hx
            rw [look_append]
            cases hF' : look k F with
            | some y =>
              have := hagree k y hF'
              rw [look_append] at this
              rw [this] at hx
              exact hx
            | none => simp only []; rw [look_append]; exact hx
        · rename_i hVi
          obtain ⟨hk', hW'⟩ := hq
          refine ih _ a' w' ρ (by simp [hs]) hcl ?_ (by rw [hset]; exact hW') hcnt'
          rw [hset]
          refine ⟨hk'.size, hk'.defers, fun k x hx => ?_⟩
          refine hk'.get k x ?_
          have hρ : ∀ k, look k (ld (setD (fun j => listed.getD j true) i) ρ 0 V) = look k (ld (fun j => listed.getD j true) ρ 0 V) := by
            intro k
            have := ld_set (V := V) (m := 0) (D := fun j => listed.getD j true) (ρ := ρ) (i := i) (v := ρ i) (k := k) (fun d' u' hd' _ => by
              rw [Nat.sub_zero] at hd'
              exact absurd hd' (hVi d' u'))
            have e : setV ρ i (ρ i) = ρ := by
              funext j
              simp only [setV]
              cases hb : Nat.beq j i with
              | true => have e := Nat.eq_of_beq_eq_true hb; subst e; rfl
              | false => rfl
            rw [e] at this
            exact this
          rw [look_append, hρ] at hx
          rw [look_append]
          cases hF' : look k F with
          | some y =>
            have := hagree k y hF'
            rw [look_append] at this
            rw [this] at hx
            exact hx
          | none => simp only []; rw [look_append]; exact hx
      unfold wpOpIn
      rw [ho]
      simp only []
      unfold wpListIn at hwl
      by_cases hw : Region.wanted o (yielded l.toArray a.tmps) = true
      · rw [if_pos hw] at hwl ⊢
        exact Oper.wpIn_into (fun a' w' hK => hstep' a' w' hK) (fun e a w hq => hq.1) hwl
      · rw [if_neg hw] at hwl ⊢
        exact ⟨hwl.1, hstep' _ _ hwl.2⟩
  refine key l.toArray.size (Array.replicate l.toArray.size false) a _ ρ0 (by simp [hl]) ?_ ?_ ?_ ?_
  · intro k hk i hi
    have hk : (Array.replicate l.toArray.size false).getD k true = true := hk
    rw [Array.getD_eq_getD_getElem?] at hk
    exfalso
    have hkn : ¬ k < n := by
      intro h
      simp [hl, h] at hk
    unfold deps at hi
    have : l.toArray[k]? = none := by simp; omega
    rw [this] at hi
    cases hi
  · have hnone : ∀ (V : Plan) (m : Nat), m + V.length ≤ n → ld (fun j => (Array.replicate l.toArray.size false).getD j true) ρ0 m V = [] := by
      intro V
      induction V with
      | nil => intro m _; rfl
      | cons x r ih =>
        intro m hm'
        simp at hm'
        cases x with
        | none => exact ih (m + 1) (by omega)
        | some p =>
          obtain ⟨p1, p2⟩ := p
          simp only [ld]
          have : (Array.replicate l.toArray.size false).getD m true = false := by
            rw [Array.getD_eq_getD_getElem?]
            simp [hl, show m < n by omega]
          rw [this]
          exact ih (m + 1) (by omega)
    rw [hnone V 0 (by omega)]
    exact ha
  · have : (fun j => (Array.replicate l.toArray.size false).getD j true) = (fun j => Nat.ble n j) := by
      funext j
      rw [Array.getD_eq_getD_getElem?]
      by_cases h : j < n
      · have : Nat.ble n j = false := by
          cases hb : Nat.ble n j with
          | false => rfl
          | true => have := Nat.le_of_ble_eq_true hb; omega
        simp [hl, h, this]
      · have : Nat.ble n j = true := Nat.ble_eq_true_of_le (by omega)
        simp [hl, h, this]
    rw [this]
    exact h0
  · exact Nat.le_trans List.countP_le_length (by simp)

/-- Every operation but the last must run ahead of a later one, and from n1 on ahead of the next one. -/
def seqB (ops : Array Oper) (n1 n : Nat) : Bool := (List.range (n - 1)).all fun j => (List.range (max (j + 1) n1 + 1)).any fun k => memB j (deps ops k)

theorem acyclic_lt {ops : Array Oper} {n k j : Nat} (hac : acyclicB ops n = true) (hk : k < n) (hj : j ∈ deps ops k) : j < k := by
  have := List.all_eq_true.1 hac k (List.mem_range.2 hk)
  have := List.all_eq_true.1 this _ hj
  simpa using this

theorem all_before {ops : Array Oper} {n1 n : Nat} {D : Nat → Bool} (hac : acyclicB ops n = true) (hseq : seqB ops n1 n = true) (hc : Closed (deps ops) D) {k : Nat} (hk1 : n1 ≤ k) (hk : k < n) (hD : D k = true) : ∀ m j, j + m = k → D j = true := by
  intro m
  induction m using Nat.strongRecOn with
  | _ m ih =>
    intro j hj
    rcases Nat.eq_zero_or_pos m with h0 | h0
    · subst h0; rw [show j = k from by omega]; exact hD
    · have h1 := List.all_eq_true.1 hseq j (List.mem_range.2 (by omega))
      obtain ⟨k', hk', hm⟩ := List.any_eq_true.1 h1
      have hk' := List.mem_range.1 hk'
      have hlt := acyclic_lt hac (show k' < n by omega) (memB_iff.1 hm)
      have hD' : D k' = true := ih (k - k') (by omega) k' (by omega)
      exact hc k' hD' j (memB_iff.1 hm)

/-- The rest of a region, from an operation on which all that follows must run in turn. -/
theorem wpAnyIn_seq {rd : Option Nat} {P : Program} {Q : Exit → Act → World → Prop} {l : List Oper} {n n1 : Nat} (hl : l.length = n) (hac : acyclicB l.toArray n = true) (hseq : seqB l.toArray n1 n = true) : ∀ (fuel k : Nat) (listed : Array Bool) (a : Act) (w : World),
    n1 ≤ k → k ≤ n → listed.size = n → (∀ j, j < n → (listed.getD j true = true ↔ j < k)) → n - k ≤ fuel → wpListIn (rnd rd) 3 P l.toArray Q (l.drop k) a w → wpAnyIn (rnd rd) 3 P .any l.toArray Q fuel listed a w := by
  intro fuel
  have only : ∀ (k : Nat) (listed : Array Bool), n1 ≤ k → k ≤ n → listed.size = n → (∀ j, j < n → (listed.getD j true = true ↔ j < k)) → ∀ i ∈ Region.ready .any l.toArray listed, i = k ∧ k < n := by
    intro k listed h1 h2 hs hL i hi
    obtain ⟨hi0, o, ho, hdep⟩ := mem_ready.1 hi
    have hin : i < n := by have := (Array.getElem?_eq_some_iff.1 ho).1; simpa [hl] using this
    have hge : k ≤ i := by
      rcases Nat.lt_or_ge i k with h | h
      · rw [(hL i hin).2 h] at hi0; cases hi0
      · exact h
    have hdeps : ∀ j, j ∈ deps l.toArray i → j < k := by
      intro j hj
      have hlt := acyclic_lt hac hin hj
      unfold deps at hj
      rw [ho] at hj
      obtain ⟨e, he, rfl⟩ := List.mem_map.1 hj
      obtain ⟨he1, he2⟩ := List.mem_filter.1 he
      have := hdep e (Array.mem_toList_iff.1 he1) he2
      refine (hL e.on (by omega)).1 ?_
      rw [Array.getD_eq_getD_getElem?] at this ⊢
      cases hq : listed[e.on]? with
      | none => rfl
      | some b => rw [hq] at this; simpa using this
    have hcl : Closed (deps l.toArray) (fun j => Nat.blt j k || Nat.beq j i) := by
      intro m hm j hj
      have hm : m < k ∨ m = i := by
        simp only [Bool.or_eq_true] at hm
        exact hm.imp (fun h => by simpa using h) (fun h => Nat.eq_of_beq_eq_true h)
      show (Nat.blt j k || Nat.beq j i) = true
      have : j < k := by
        rcases hm with h | h
        · exact Nat.lt_trans (acyclic_lt hac (show m < n by omega) hj) h
        · subst h; exact hdeps j hj
      simp [this]
    have hall := all_before hac hseq hcl (Nat.le_trans h1 hge) hin (by simp) (i - k) k (by omega)
    have hall : k < k ∨ k = i := by
      simp only [Bool.or_eq_true] at hall
      exact hall.imp (fun h => absurd h (by simp)) (fun h => Nat.eq_of_beq_eq_true h)
    omega
  have none_ready : ∀ (listed : Array Bool) (a : Act) (w : World) (k : Nat), n1 ≤ k → k ≤ n → listed.size = n → (∀ j, j < n → (listed.getD j true = true ↔ j < k)) → Region.ready .any l.toArray listed = [] → k = n := by
    intro listed a w k h1 h2 hs hL hr
    rcases Nat.lt_or_ge k n with h | h
    · exfalso
      have ho : l.toArray[k]? = some (l[k]'(by omega)) := by simp [show k < l.length by omega]
      have hmem : k ∈ Region.ready .any l.toArray listed := mem_ready.2 ⟨by
        cases hq : listed.getD k true with
        | false => rfl
        | true => exact absurd ((hL k h).1 hq) (Nat.lt_irrefl _), _, ho, fun e he hb => by
          have hd : e.on ∈ deps l.toArray k := by
            unfold deps
            rw [ho]
            exact List.mem_map.2 ⟨e, List.mem_filter.2 ⟨Array.mem_toList_iff.2 he, hb⟩, rfl⟩
          have hlt := acyclic_lt hac h hd
          have h1 := (hL e.on (by omega)).2 hlt
          rw [Array.getD_eq_getD_getElem?] at h1 ⊢
          have : e.on < listed.size := by omega
          simpa [this] using h1⟩
      rw [hr] at hmem
      cases hmem
    · omega
  induction fuel with
  | zero =>
    intro k listed a w h1 h2 hs hL hf hw
    have hk : k = n := by omega
    subst hk
    rw [List.drop_eq_nil_of_le (by omega)] at hw
    refine ⟨?_, hw⟩
    rw [List.eq_nil_iff_forall_not_mem]
    intro j hj
    have := only k listed h1 h2 hs hL j hj
    omega
  | succ fuel ih =>
    intro k listed a w h1 h2 hs hL hf hw
    refine ⟨fun hr => ?_, fun i hi => ?_⟩
    · have hk := none_ready listed a w k h1 h2 hs hL hr
      subst hk
      rw [List.drop_eq_nil_of_le (by omega)] at hw
      exact hw
    · obtain ⟨rfl, hin⟩ := only k listed h1 h2 hs hL i hi
      have ho : l.toArray[i]? = some (l[i]'(by omega)) := by simp [show i < l.length by omega]
      rw [List.drop_eq_getElem_cons (by omega)] at hw
      unfold wpListIn at hw
      unfold wpOpIn
      rw [ho]
      simp only []
      have hL' : ∀ j, j < n → ((listed.setIfInBounds i true).getD j true = true ↔ j < i + 1) := by
        intro j hj
        by_cases e : j = i
        · subst e
          rw [Array.getD_eq_getD_getElem?]
          simp [hs, hin]
        · rw [getD_set_ne true (fun h => e h.symm), hL j hj]
          omega
      have hnext : ∀ a w, wpListIn (rnd rd) 3 P l.toArray Q (l.drop (i + 1)) a w → wpAnyIn (rnd rd) 3 P .any l.toArray Q fuel (listed.setIfInBounds i true) a w :=
        fun a w h => ih (i + 1) _ a w (by omega) (by omega) (by simp [hs]) hL' (by omega) h
      by_cases hwt : Region.wanted (l[i]'(by omega)) (yielded l.toArray a.tmps) = true
      · rw [if_pos hwt] at hw ⊢
        exact Oper.wpIn_mono hnext hw
      · rw [if_neg hwt] at hw ⊢
        exact ⟨hw.1, hnext _ _ hw.2⟩

theorem c_drawS {rd : Option Nat} {P : Program} {Q : Exit → Act → World → Prop} {N : Nat} {ds : List Deferred} {L0 : Slots} {w : World} {id : Nat} {l : List Oper} (hm : P.follows .mixedOrders = true) (n n1 : Nat) (hn1 : n1 ≤ n) (V : Plan)
    (W : (Nat → Bool) → (Nat → Value) → World → Prop) (ρ0 : Nat → Value)
    (hl : l.length = n) (hV : V.length = n1) (hnd : nodupB (slotsOf V) = true) (hac : acyclicB l.toArray n = true) (hseq : seqB l.toArray n1 n = true)
    (h0 : W (fun j => Nat.ble n j) ρ0 w.drew)
    (step : ∀ i o, i < n1 → l[i]? = some o → ∀ D ρ w', Closed (deps l.toArray) D → D i = false → (∀ j, j ∈ deps l.toArray i → D j = true) → W D ρ w' →
      ∃ F, Fr (deps l.toArray) V L0 ρ i F ∧ ∀ Lr, WL rd P l.toArray (DQ N ds V W D ρ i (F ++ Lr)) N ds [o] (F ++ Lr) w')
    (done : ∀ ρ w', W (fun j => Nat.blt j n1 || Nat.ble n j) ρ w' → WL rd P l.toArray Q N ds (l.drop n1) (ld (fun j => Nat.blt j n1 || Nat.ble n j) ρ 0 V ++ L0) w') : WC rd P Q N ds (.region id l.toArray true) L0 w := by
  intro a ha
  refine wpIn_region_any hm ?_
  have key : ∀ (fuel : Nat) (listed : Array Bool) (a : Act) (w : World) (ρ : Nat → Value), listed.size = n → Closed (deps l.toArray) (fun j => listed.getD j true) → Kn N ds (ld (fun j => listed.getD j true) ρ 0 V ++ L0) a →
      W (fun j => listed.getD j true) ρ w → (∀ j, n1 ≤ j → j < n → listed.getD j true = false) → (listed.toList.countP fun b => !b) ≤ fuel → wpAnyIn (rnd rd) 3 P .any l.toArray Q fuel listed a w := by
    intro fuel
    have full : ∀ (listed : Array Bool) (a : Act) (w : World) (ρ : Nat → Value) (fuel : Nat), listed.size = n → Kn N ds (ld (fun j => listed.getD j true) ρ 0 V ++ L0) a → W (fun j => listed.getD j true) ρ w →
        (∀ j, n1 ≤ j → j < n → listed.getD j true = false) → (listed.toList.countP fun b => !b) ≤ fuel → (∀ j, j < n1 → listed.getD j true = true) → wpAnyIn (rnd rd) 3 P .any l.toArray Q fuel listed a w := by
      intro listed a w ρ fuel hs hk hW hlate hcnt hall
      have hD : (fun j => listed.getD j true) = (fun j => Nat.blt j n1 || Nat.ble n j) := by
        funext j
        rcases Nat.lt_or_ge j n1 with h | h
        · rw [hall j h]; simp [h]
        · rcases Nat.lt_or_ge j n with h' | h'
          · rw [hlate j h h']
            have h1 : Nat.blt j n1 = false := by
              cases hb : Nat.blt j n1 with
              | false => rfl
              | true => have : j < n1 := by simpa using hb
                        omega
            have h2 : Nat.ble n j = false := by
              cases hb : Nat.ble n j with
              | false => rfl
              | true => have := Nat.le_of_ble_eq_true hb; omega
            rw [h1, h2]; rfl
          · rw [Array.getD_eq_getD_getElem?, Array.getElem?_eq_none (by omega), Nat.ble_eq_true_of_le h']
            simp
      rw [hD] at hk hW
      have hw := done ρ w hW a hk
      refine wpAnyIn_seq hl hac hseq fuel n1 listed a w (Nat.le_refl _) hn1 hs (fun j hj => ⟨fun h => ?_, fun h => hall j h⟩) ?_ hw
      · rcases Nat.lt_or_ge j n1 with h' | h'
        · exact h'
        · rw [hlate j h' hj] at h; cases h
      · -- as many are left as the rest is long
        refine Nat.le_trans ?_ hcnt
        have hsp : listed.toList = listed.toList.take n1 ++ listed.toList.drop n1 := (List.take_append_drop _ _).symm
        rw [hsp, List.countP_append]
        have : (listed.toList.drop n1).countP (fun b => !b) = (listed.toList.drop n1).length := by
          rw [List.countP_eq_length]
          intro b hb
          obtain ⟨q, hq⟩ := List.mem_iff_getElem?.1 hb
          rw [List.getElem?_drop] at hq
          have hqn : n1 + q < n := by
            have := (List.getElem?_eq_some_iff.1 hq).1
            simpa [hs] using this
          have := hlate (n1 + q) (by omega) hqn
          rw [Array.getD_eq_getD_getElem?] at this
          have e : listed[n1 + q]? = some b := by simpa using hq
          rw [e] at this
          simp at this
          simp [this]
        rw [this]
        simp [hs]
    have ready1 : ∀ (listed : Array Bool), listed.size = n → Region.ready .any l.toArray listed = [] → ∀ j, listed.getD j true = true := by
      intro listed hs hr
      intro i
      induction i using Nat.strongRecOn with
      | _ i ih =>
        cases hli : listed.getD i true with
        | true => rfl
        | false =>
          exfalso
          have hin : i < n := by
            rcases Nat.lt_or_ge i n with h | h
            · exact h
            · rw [Array.getD_eq_getD_getElem?, Array.getElem?_eq_none (by omega)] at hli; simp at hli
          have ho : l.toArray[i]? = some (l[i]'(by omega)) := by simp [show i < l.length by omega]
          have hmem : i ∈ Region.ready .any l.toArray listed := mem_ready.2 ⟨hli, _, ho, fun e he hb => by
            have hd : e.on ∈ deps l.toArray i := by
              unfold deps
              rw [ho]
              exact List.mem_map.2 ⟨e, List.mem_filter.2 ⟨Array.mem_toList_iff.2 he, hb⟩, rfl⟩
            have hlt := acyclic_lt hac hin hd
            have h1 := ih e.on hlt
            rw [Array.getD_eq_getD_getElem?] at h1 ⊢
            have : e.on < listed.size := by omega
            simpa [this] using h1⟩
          rw [hr] at hmem
          cases hmem
    induction fuel with
    | zero =>
      intro listed a w ρ hs hc hk hW hlate hcnt
      have hr : Region.ready .any l.toArray listed = [] := by
        rw [List.eq_nil_iff_forall_not_mem]
        intro j hj
        have hj1 := (mem_ready.1 hj).1
        have : 0 < listed.toList.countP fun b => !b := by
          rw [List.countP_pos_iff]
          rw [Array.getD_eq_getD_getElem?] at hj1
          cases hq : listed[j]? with
          | none => rw [hq] at hj1; simp at hj1
          | some b => rw [hq] at hj1; simp at hj1; subst hj1; exact ⟨false, List.mem_of_getElem? (by simpa using hq), rfl⟩
        omega
      exact full listed a w ρ 0 hs hk hW hlate hcnt (fun j _ => ready1 listed hs hr j)
    | succ fuel ih =>
      intro listed a w ρ hs hc hk hW hlate hcnt
      by_cases hfull : ∀ j, j < n1 → listed.getD j true = true
      · exact full listed a w ρ _ hs hk hW hlate hcnt hfull
      refine ⟨fun hr => absurd (fun j _ => ready1 listed hs hr j) hfull, fun i hi => ?_⟩
      obtain ⟨hi0, o, ho, hdep⟩ := mem_ready.1 hi
      have hin : i < n := by have := (Array.getElem?_eq_some_iff.1 ho).1; simpa [hl] using this
      have hoL : l[i]? = some o := by simpa using ho
      have hdeps : ∀ j, j ∈ deps l.toArray i → (fun j => listed.getD j true) j = true := by
        intro j hj
        unfold deps at hj
        rw [ho] at hj
        obtain ⟨e, he, rfl⟩ := List.mem_map.1 hj
        obtain ⟨he1, he2⟩ := List.mem_filter.1 he
        have := hdep e (Array.mem_toList_iff.1 he1) he2
        show listed.getD e.on true = true
        rw [Array.getD_eq_getD_getElem?] at this ⊢
        cases hq : listed[e.on]? with
        | none => rw [hq] at this; simp at this
        | some b => rw [hq] at this; simpa using this
      have hi1 : i < n1 := by
        rcases Nat.lt_or_ge i n1 with h | h
        · exact h
        · exfalso
          refine hfull (fun j hj => ?_)
          have hcl : Closed (deps l.toArray) (fun j => listed.getD j true || Nat.beq j i) := by
            intro m hm j hj
            show (listed.getD j true || Nat.beq j i) = true
            have hm : listed.getD m true = true ∨ m = i := by
              simp only [Bool.or_eq_true] at hm
              exact hm.imp (fun h => h) (fun h => Nat.eq_of_beq_eq_true h)
            have : listed.getD j true = true := by
              rcases hm with h | h
              · exact hc m h j hj
              · subst h; exact hdeps j hj
            simp [this]
          have := all_before hac hseq hcl h hin (by simp) (i - j) j (by omega)
          simp only [Bool.or_eq_true] at this
          rcases this with h | h
          · exact h
          · have := Nat.eq_of_beq_eq_true h
            omega
      have hlate' : ∀ j, n1 ≤ j → j < n → (listed.setIfInBounds i true).getD j true = false := fun j h1 h2 => by
        rw [getD_set_ne true (by omega)]
        exact hlate j h1 h2
      obtain ⟨F, hF, hstep⟩ := step i o hi1 hoL (fun j => listed.getD j true) ρ w hc hi0 hdeps hW
      have hsub := Fr.sub (D := fun j => listed.getD j true) hnd hc hi0 hdeps hF
      have hwl := hstep (ld (fun j => listed.getD j true) ρ 0 V ++ L0) a (hk.over hsub)
      have hset : (fun j => (listed.setIfInBounds i true).getD j true) = setD (fun j => listed.getD j true) i := by
        funext j
        simp only [setD]
        cases hb : Nat.beq j i with
        | true =>
          have e := Nat.eq_of_beq_eq_true hb
          subst e
          rw [Array.getD_eq_getD_getElem?]
          simp [hs, hin]
        | false =>
          have e : j ≠ i := fun e => by subst e; simp [Nat.beq_refl] at hb
          exact getD_set_ne true (fun h => e h.symm)
      have hcl : Closed (deps l.toArray) (fun j => (listed.setIfInBounds i true).getD j true) := by
        rw [hset]
        intro k hk' j hj
        simp only [setD] at hk' ⊢
        cases hbj : Nat.beq j i with
        | true => rfl
        | false =>
          cases hbk : Nat.beq k i with
          | true =>
            have e := Nat.eq_of_beq_eq_true hbk
            subst e
            exact hdeps j hj
          | false =>
            rw [hbk] at hk'
            exact hc k hk' j hj
      have hcnt' : ((listed.setIfInBounds i true).toList.countP fun b => !b) ≤ fuel := by
        have hlt : i < listed.toList.length := by simp [hs, hin]
        have hfalse : listed.toList[i] = false := by
          rw [Array.getD_eq_getD_getElem?] at hi0
          simp [hs, hin] at hi0
          simpa using hi0
        have h1 : (listed.setIfInBounds i true).toList = listed.toList.set i true := by simp
        rw [h1, List.countP_set hlt, hfalse]
        change (listed.toList.countP fun b => !b) - 1 + 0 ≤ fuel
        have : 0 < listed.toList.countP fun b => !b := by
          rw [List.countP_pos_iff]
          exact ⟨false, by rw [← hfalse]; exact List.getElem_mem hlt, rfl⟩
        omega
      have hstep' : ∀ a' w', DQ N ds V W (fun j => listed.getD j true) ρ i (F ++ (ld (fun j => listed.getD j true) ρ 0 V ++ L0)) .normal a' w' → wpAnyIn (rnd rd) 3 P .any l.toArray Q fuel (listed.setIfInBounds i true) a' w' := by
        intro a' w' hq
        obtain ⟨_, hq⟩ := hq
        have hagree : ∀ k u, look k F = some u → look k (ld (fun j => listed.getD j true) ρ 0 V ++ L0) = some u := by
          intro k u hu
          have : ∀ {F L : Slots}, Sub F L → ∀ k u, look k F = some u → look k L = some u := by
            intro F L hs
            induction F with
            | nil => intro k u h; simp [look] at h
            | cons p r ih =>
              obtain ⟨q, v⟩ := p
              intro k u h
              simp only [look] at h
              cases hb : Nat.beq k q with
              | true => have e := Nat.eq_of_beq_eq_true hb; rw [hb] at h; simp at h; subst e h; exact hs.1
              | false => rw [hb] at h; exact ih hs.2 k u h
          exact this hsub k u hu
        split at hq
        · rename_i d u hVi
          obtain ⟨v, hv, hk', hW'⟩ := hq
          refine ih _ a' w' (setV ρ i v) (by simp [hs]) hcl ?_ (by rw [hset]; exact hW') hlate' hcnt'
          rw [hset]
          refine ⟨hk'.size, hk'.defers, fun k x hx => ?_⟩
          refine hk'.get k x ?_
          simp only [look]
          cases hb : Nat.beq k d with
          | true =>
            have e := Nat.eq_of_beq_eq_true hb
            subst e
            have h1 := look_ran (V := V) (i := 0) (j := i) (D := setD (fun j => listed.getD j true) i) (ρ := setV ρ i v) hnd hVi (by simp [setD, Nat.beq_refl])
            rw [look_append, h1] at hx
            simp only [Nat.zero_add, setV, Nat.beq_refl] at hx
            cases u with
            | none => simpa using hx
            | some u0 => have := hv u0 rfl; subst this; simpa using hx
          | false =>
            rw [look_append] at hx
            rw [ld_set (m := 0) (fun d' u' hd' _ => by
              rw [Nat.sub_zero, hVi] at hd'
              simp at hd'
              intro e
              rw [← hd'.1] at e
              subst e
              simp [Nat.beq_refl] at hb)] at hx
            rw [look_append]
            cases hF' : look k F with
            | some y =>
              have := hagree k y hF'
              rw [look_append] at this
              rw [this] at hx
              exact hx
            | none => simp only []; rw [look_append]; exact hx
        · rename_i hVi
          obtain ⟨hk', hW'⟩ := hq
          refine ih _ a' w' ρ (by simp [hs]) hcl ?_ (by rw [hset]; exact hW') hlate' hcnt'
          rw [hset]
          refine ⟨hk'.size, hk'.defers, fun k x hx => ?_⟩
          refine hk'.get k x ?_
          have hρ : ∀ k, look k (ld (setD (fun j => listed.getD j true) i) ρ 0 V) = look k (ld (fun j => listed.getD j true) ρ 0 V) := by
            intro k
            have := ld_set (V := V) (m := 0) (D := fun j => listed.getD j true) (ρ := ρ) (i := i) (v := ρ i) (k := k) (fun d' u' hd' _ => by
              rw [Nat.sub_zero] at hd'
              exact absurd hd' (hVi d' u'))
            have e : setV ρ i (ρ i) = ρ := by
              funext j
              simp only [setV]
              cases hb : Nat.beq j i with
              | true => have e := Nat.eq_of_beq_eq_true hb; subst e; rfl
              | false => rfl
            rw [e] at this
            exact this
          rw [look_append, hρ] at hx
          rw [look_append]
          cases hF' : look k F with
          | some y =>
            have := hagree k y hF'
            rw [look_append] at this
            rw [this] at hx
            exact hx
          | none => simp only []; rw [look_append]; exact hx
      unfold wpOpIn
      rw [ho]
      simp only []
      unfold wpListIn at hwl
      by_cases hw : Region.wanted o (yielded l.toArray a.tmps) = true
      · rw [if_pos hw] at hwl ⊢
        exact Oper.wpIn_into (fun a' w' hK => hstep' a' w' hK) (fun e a w hq => hq.1) hwl
      · rw [if_neg hw] at hwl ⊢
        exact ⟨hwl.1, hstep' _ _ hwl.2⟩
  refine key l.toArray.size (Array.replicate l.toArray.size false) a _ ρ0 (by simp [hl]) ?_ ?_ ?_ ?_ ?_
  · intro k hk i hi
    have hk : (Array.replicate l.toArray.size false).getD k true = true := hk
    rw [Array.getD_eq_getD_getElem?] at hk
    exfalso
    have hkn : ¬ k < n := by
      intro h
      simp [hl, h] at hk
    unfold deps at hi
    have : l.toArray[k]? = none := by simp; omega
    rw [this] at hi
    cases hi
  · have hnone : ∀ (V : Plan) (m : Nat), m + V.length ≤ n → ld (fun j => (Array.replicate l.toArray.size false).getD j true) ρ0 m V = [] := by
      intro V
      induction V with
      | nil => intro m _; rfl
      | cons x r ih =>
        intro m hm'
        simp at hm'
        cases x with
        | none => exact ih (m + 1) (by omega)
        | some p =>
          obtain ⟨p1, p2⟩ := p
          simp only [ld]
          have : (Array.replicate l.toArray.size false).getD m true = false := by
            rw [Array.getD_eq_getD_getElem?]
            simp [hl, show m < n by omega]
          rw [this]
          exact ih (m + 1) (by omega)
    rw [hnone V 0 (by omega)]
    exact ha
  · have : (fun j => (Array.replicate l.toArray.size false).getD j true) = (fun j => Nat.ble n j) := by
      funext j
      rw [Array.getD_eq_getD_getElem?]
      by_cases h : j < n
      · have : Nat.ble n j = false := by
          cases hb : Nat.ble n j with
          | false => rfl
          | true => have := Nat.le_of_ble_eq_true hb; omega
        simp [hl, h, this]
      · have : Nat.ble n j = true := Nat.ble_eq_true_of_le (by omega)
        simp [hl, h, this]
    rw [this]
    exact h0
  · intro j h1 h2
    rw [Array.getD_eq_getD_getElem?]
    simp [hl, h2]
  · exact Nat.le_trans List.countP_le_length (by simp)

def dg (dt : List (List Nat)) (i : Nat) : List Nat := dt.getD i []

/-- One obligation an operation. -/
def Each (rd : Option Nat) (P : Program) (N : Nat) (ds : List Deferred) (L0 : Slots) (ops : Array Oper) (dt : List (List Nat)) (V : Plan) (W : (Nat → Bool) → (Nat → Value) → World → Prop) : Nat → List Oper → Prop
  | _, [] => True
  | i, o :: r => (∀ D ρ w', Closed (dg dt) D → D i = false → (∀ j, memB j (dg dt i) = true → D j = true) → W D ρ w' →
      ∃ F, Fr (dg dt) V L0 ρ i F ∧ ∀ Lr, WL rd P ops (DQ N ds V W D ρ i (F ++ Lr)) N ds [o] (F ++ Lr) w') ∧ Each rd P N ds L0 ops dt V W (i + 1) r

theorem Each.at {rd : Option Nat} {P : Program} {N : Nat} {ds : List Deferred} {L0 : Slots} {ops : Array Oper} {dt : List (List Nat)} {V : Plan} {W : (Nat → Bool) → (Nat → Value) → World → Prop} : ∀ {l : List Oper} {m i : Nat} {o : Oper}, Each rd P N ds L0 ops dt V W m l → l[i]? = some o →
    ∀ D ρ w', Closed (dg dt) D → D (m + i) = false → (∀ j, j ∈ dg dt (m + i) → D j = true) → W D ρ w' →
      ∃ F, Fr (dg dt) V L0 ρ (m + i) F ∧ ∀ Lr, WL rd P ops (DQ N ds V W D ρ (m + i) (F ++ Lr)) N ds [o] (F ++ Lr) w'
  | [], m, i, o, _, h => by simp at h
  | x :: r, m, 0, o, hE, h => by
    simp at h
    subst h
    intro D ρ w' h1 h2 h3 h4
    exact hE.1 D ρ w' h1 h2 (fun j hj => h3 j (memB_iff.1 hj)) h4
  | x :: r, m, i + 1, o, hE, h => by
    have := Each.at (l := r) (m := m + 1) (i := i) hE.2 (by simpa using h)
    rwa [show m + 1 + i = m + (i + 1) from by omega] at this

theorem t_samehd {rd : Option Nat} {P : Program} {ops : Array Oper} {Q : Exit → Act → World → Prop} {N : Nat} {ds : List Deferred} {rest : List Oper} {L : Slots} {w : World} {s : Nat} {u v : Value} (e : u = v) (h : WL rd P ops Q N ds rest ((s, v) :: L) w) : WL rd P ops Q N ds rest ((s, u) :: L) w := by subst e; exact h

theorem WC.weak {rd : Option Nat} {P : Program} {Q : Exit → Act → World → Prop} {c : Code} {N : Nat} {ds : List Deferred} {L : Slots} {w : World} (L' : Slots) (hs : Sub L' L) (h : WC rd P Q N ds c L' w) : WC rd P Q N ds c L w := fun a ha => h a (ha.sub hs)

theorem QK.weak {K : Act → World → Prop} {N : Nat} {ds : List Deferred} {L : Slots} {w : World} (L' : Slots) (hs : Sub L' L) (h : QK K N ds L' w) : QK K N ds L w := fun a ha => h a (ha.sub hs)

/-! ### Short words for what every drawn region says -/
section
variable {rd : Option Nat} {P : Program} {ops : Array Oper} {N : Nat} {ds : List Deferred} {V : Plan} {W : (Nat → Bool) → (Nat → Value) → World → Prop} {D : Nat → Bool} {ρ : Nat → Value} {i d : Nat} {v : Value} {L : Slots} {w : World}
theorem dz (hV : V[i]? = some (some (d, some v))) (hW : W (setD D i) (setV ρ i v) w) : WL rd P ops (DQ N ds V W D ρ i L) N ds [] ((d, v) :: L) w :=
  t_nil' fun a ha => ⟨rfl, by rw [hV]; exact ⟨v, fun v' h => by cases h; rfl, ha, hW⟩⟩
end
/-! ### Operations that neither read nor turn memory, computed -/
section
variable {rd : Option Nat} {P : Program} {ops : Array Oper} {N : Nat} {ds : List Deferred} {V : Plan} {L0 : Slots} {dt : List (List Nat)} {W : (Nat → Bool) → (Nat → Value) → World → Prop} {i d : Nat} {v : Value}
end
end Go.Proofs.Ytagmodjadmecdaa
