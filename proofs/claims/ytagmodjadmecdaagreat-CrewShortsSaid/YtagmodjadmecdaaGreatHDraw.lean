/-
  A region whose operations may run in several orders: what is known behind it, whatever the order. Conditions: none; it holds over any program.
-/
import Derived.Test.YtagmodjadmecdaaGreatHMem
import Derived.Orders
namespace Go.Proofs.YtagmodjadmecdaaGreat
open Go Go.RowKit

abbrev Plan := List (Option (Nat × Option Value))

def deps (ops : Array Oper) (i : Nat) : List Nat := match ops[i]? with
  | none => []
  | some o => (o.after.toList.filter fun e => Region.binds .any e).map (·.on)

def ld (D : Nat → Bool) (ρ : Nat → Value) : Nat → Plan → Slots
  | _, [] => []
  | i, none :: r => ld D ρ (i + 1) r
  | i, some (d, v) :: r => match D i with
    | true => (d, v.getD (ρ i)) :: ld D ρ (i + 1) r
    | false => ld D ρ (i + 1) r

def slotsOf : Plan → List Nat
  | [] => []
  | none :: r => slotsOf r
  | some (d, _) :: r => d :: slotsOf r

def memB (k : Nat) : List Nat → Bool
  | [] => false
  | j :: r => match Nat.beq k j with
    | true => true
    | false => memB k r

def nodupB : List Nat → Bool
  | [] => true
  | j :: r => !memB j r && nodupB r

theorem memB_iff {k : Nat} : ∀ {l : List Nat}, memB k l = true ↔ k ∈ l
  | [] => by simp [memB]
  | j :: r => by
    simp only [memB, List.mem_cons]
    cases hb : Nat.beq k j with
    | true => have := Nat.eq_of_beq_eq_true hb; simp [this]
    | false =>
      have : k ≠ j := fun e => by subst e; simp [Nat.beq_refl] at hb
      simp [this, memB_iff (l := r)]

theorem look_append {k : Nat} : ∀ {L M : Slots}, look k (L ++ M) = match look k L with | some v => some v | none => look k M
  | [], M => by simp [look]
  | (j, v) :: r, M => by
    simp only [List.cons_append, look]
    cases hb : Nat.beq k j with
    | true => rfl
    | false => exact look_append (L := r)

theorem look_ran {D : Nat → Bool} {ρ : Nat → Value} : ∀ {V : Plan} {i j d : Nat} {v : Option Value}, nodupB (slotsOf V) = true → V[j]? = some (some (d, v)) → D (i + j) = true →
    look d (ld D ρ i V) = some (v.getD (ρ (i + j)))
  | [], _, _, _, _, _, h, _ => by simp at h
  | none :: r, i, 0, d, v, _, h, _ => by simp at h
  | none :: r, i, j + 1, d, v, hn, h, hD => by
    have := look_ran (V := r) (i := i + 1) (j := j) (d := d) (v := v) (D := D) (ρ := ρ) hn (by simpa using h) (by rwa [show i + 1 + j = i + (j + 1) from by omega])
    rwa [show i + 1 + j = i + (j + 1) from by omega] at this
  | some (e, u) :: r, i, 0, d, v, hn, h, hD => by
    simp at h
    obtain ⟨rfl, rfl⟩ := h
    simp only [ld, Nat.add_zero] at hD ⊢
    rw [hD]
    simp [look, Nat.beq_refl]
  | some (e, u) :: r, i, j + 1, d, v, hn, h, hD => by
    simp only [slotsOf, nodupB, Bool.and_eq_true, Bool.not_eq_true'] at hn
    have hd : d ≠ e := by
      intro e'
      subst e'
      have hm : ∀ (W : Plan) (q : Nat), W[q]? = some (some (d, v)) → memB d (slotsOf W) = true := by
        intro W
        induction W with
        | nil => intro q hq; simp at hq
        | cons x W ih =>
          intro q hq
          cases q with
          | zero => simp at hq; subst hq; simp [slotsOf, memB, Nat.beq_refl]
          | succ q =>
            have := ih q (by simpa using hq)
            cases x with
            | none => exact this
            | some p => obtain ⟨p1, p2⟩ := p; simp only [slotsOf, memB]; cases Nat.beq d p1 <;> simp [this]
      have := hm r j (by simpa using h)
      simp [this] at hn
    have hb : Nat.beq d e = false := by
      cases hbb : Nat.beq d e with
      | false => rfl
      | true => exact absurd (Nat.eq_of_beq_eq_true hbb) hd
    have := look_ran (V := r) (i := i + 1) (j := j) (d := d) (v := v) (D := D) (ρ := ρ) hn.2 (by simpa using h) (by rwa [show i + 1 + j = i + (j + 1) from by omega])
    rw [show i + 1 + j = i + (j + 1) from by omega] at this
    simp only [ld]
    cases D i with
    | true => simp only [look, hb]; exact this
    | false => exact this

theorem look_old {D : Nat → Bool} {ρ : Nat → Value} {s : Nat} : ∀ {V : Plan} {i : Nat}, (∀ k v, V[k]? = some (some (s, v)) → D (i + k) = false) → look s (ld D ρ i V) = none
  | [], _, _ => rfl
  | none :: r, i, h => look_old (V := r) (fun k v hk => by have := h (k + 1) v (by simpa using hk); rwa [show i + (k + 1) = i + 1 + k from by omega] at this)
  | some (e, u) :: r, i, h => by
    have hr := look_old (V := r) (i := i + 1) (D := D) (ρ := ρ) (s := s) (fun k v hk => by have := h (k + 1) v (by simpa using hk); rwa [show i + (k + 1) = i + 1 + k from by omega] at this)
    simp only [ld]
    cases hD : D i with
    | false => exact hr
    | true =>
      simp only [look]
      cases hb : Nat.beq s e with
      | false => exact hr
      | true =>
        have e' := Nat.eq_of_beq_eq_true hb
        subst e'
        have := h 0 u rfl
        rw [Nat.add_zero, hD] at this
        cases this

def oldB (dep : Nat → List Nat) (i s : Nat) : Nat → Plan → Bool
  | _, [] => true
  | k, none :: r => oldB dep i s (k + 1) r
  | k, some (d, _) :: r => (match Nat.beq s d with | true => memB i (dep k) | false => true) && oldB dep i s (k + 1) r

theorem oldB_spec {dep : Nat → List Nat} {i s : Nat} : ∀ {V : Plan} {k : Nat}, oldB dep i s k V = true → ∀ j v, V[j]? = some (some (s, v)) → i ∈ dep (k + j)
  | [], _, _, j, v, h => by simp at h
  | none :: r, k, hB, j, v, h => by
    cases j with
    | zero => simp at h
    | succ j => have := oldB_spec (V := r) (k := k + 1) hB j v (by simpa using h); rwa [show k + 1 + j = k + (j + 1) from by omega] at this
  | some (d, u) :: r, k, hB, j, v, h => by
    simp only [oldB, Bool.and_eq_true] at hB
    cases j with
    | zero =>
      simp at h
      obtain ⟨rfl, _⟩ := h
      have := hB.1
      rw [Nat.beq_refl] at this
      exact memB_iff.1 this
    | succ j => have := oldB_spec (V := r) (k := k + 1) hB.2 j v (by simpa using h); rwa [show k + 1 + j = k + (j + 1) from by omega] at this

def Fr (dep : Nat → List Nat) (V : Plan) (L0 : Slots) (ρ : Nat → Value) (i : Nat) : Slots → Prop
  | [] => True
  | (s, v) :: r => ((∃ j u, memB j (dep i) = true ∧ V[j]? = some (some (s, u)) ∧ v = u.getD (ρ j)) ∨ (look s L0 = some v ∧ oldB dep i s 0 V = true)) ∧ Fr dep V L0 ρ i r

def Closed (dep : Nat → List Nat) (D : Nat → Bool) : Prop := ∀ k, D k = true → ∀ i, i ∈ dep k → D i = true

theorem Closed.late {dep : Nat → List Nat} {D : Nat → Bool} (h : Closed dep D) {i : Nat} (k : Nat) (hi : D i = false) (hk : memB i (dep k) = true) : D k = false := by
  cases hD : D k with
  | false => rfl
  | true => have := h k hD i (memB_iff.1 hk); rw [hi] at this; cases this

theorem Fr.sub {dep : Nat → List Nat} {V : Plan} {L0 : Slots} {ρ : Nat → Value} {i : Nat} {D : Nat → Bool} (hn : nodupB (slotsOf V) = true) (hc : Closed dep D) (hi : D i = false) (hd : ∀ j, j ∈ dep i → D j = true) :
    ∀ {F : Slots}, Fr dep V L0 ρ i F → Sub F (ld D ρ 0 V ++ L0)
  | [], _ => trivial
  | (s, v) :: r, h => by
    refine ⟨?_, Fr.sub hn hc hi hd h.2⟩
    rw [look_append]
    rcases h.1 with ⟨j, u, hj, hV, rfl⟩ | ⟨h0, hO⟩
    · have := look_ran (i := 0) (j := j) (D := D) (ρ := ρ) hn hV (by rw [Nat.zero_add]; exact hd j (memB_iff.1 hj))
      rw [this]
      simp
    · have : look s (ld D ρ 0 V) = none := look_old (fun k w hk => by
        have := oldB_spec hO k w hk
        rw [Nat.zero_add] at this ⊢
        exact hc.late k hi (memB_iff.2 this))
      rw [this]
      exact h0

theorem Kn.over {N : Nat} {ds : List Deferred} {L F : Slots} {a : Act} (h : Kn N ds L a) (hs : Sub F L) : Kn N ds (F ++ L) a := by
  refine ⟨h.size, h.defers, fun k v hk => ?_⟩
  rw [look_append] at hk
  cases hF : look k F with
  | none => rw [hF] at hk; exact h.get k v hk
  | some u =>
    rw [hF] at hk
    simp at hk
    subst hk
    exact (h.sub hs).get k u hF

def setD (D : Nat → Bool) (i : Nat) : Nat → Bool := fun j => match Nat.beq j i with | true => true | false => D j
def setV (ρ : Nat → Value) (i : Nat) (v : Value) : Nat → Value := fun j => match Nat.beq j i with | true => v | false => ρ j

def DQ (N : Nat) (ds : List Deferred) (V : Plan) (W : (Nat → Bool) → (Nat → Value) → World → Prop) (D : Nat → Bool) (ρ : Nat → Value) (i : Nat) (L : Slots) : Exit → Act → World → Prop := fun e a w =>
  e = .normal ∧ match V[i]? with
    | some (some (d, u)) => ∃ v, (∀ v', u = some v' → v = v') ∧ Kn N ds ((d, v) :: L) a ∧ W (setD D i) (setV ρ i v) w
    | _ => Kn N ds L a ∧ W (setD D i) ρ w

theorem Oper.wpIn_into {F : Fence} {m : Nat} {P : Program} {o : Oper} {a : Act} {w : World} {K K' : Act → World → Prop} {Q Q' : Exit → Act → World → Prop} (h : ∀ a w, K a w → K' a w) (hQ : ∀ e a w, Q e a w → e = .normal)
    (hh : o.wpIn F m P a w K Q) : o.wpIn F m P a w K' Q' := by
  unfold Oper.wpIn at *
  refine ⟨hh.1, ?_⟩
  have hh := hh.2
  generalize (o.semAt F.round a.eval).run P w = r at *
  cases r with
  | ok n w' =>
    cases n <;> simp only [Oper.uponIn] at hh ⊢ <;>
      first
        | exact h _ _ hh
        | exact ⟨hh.1, CallsIn.mono hh.2 (fun e w'' he => by cases e with
          | returned v => exact h _ _ he
          | panicked c => exact absurd (hQ _ _ _ he) (by simp)
          | outgrown => obtain ⟨x, y, hz⟩ := he; exact absurd (hQ _ _ _ hz) (by simp))⟩
        | exact ⟨hh.1, RoundIn.mono hh.2 (fun e w'' he => by cases e with
          | returned v => exact h _ _ he
          | panicked c => exact absurd (hQ _ _ _ he) (by simp)
          | outgrown => obtain ⟨x, y, hz⟩ := he; exact absurd (hQ _ _ _ hz) (by simp))⟩
        | exact ⟨hh.1, RowsIn.mono hh.2 (fun _ _ he => h _ _ he)⟩
  | halt x w' => cases x <;> simp only [Oper.uponIn] at hh ⊢ <;> first | exact hh | exact absurd (hQ _ _ _ hh) (by simp)

def dg (dt : List (List Nat)) (i : Nat) : List Nat := dt.getD i []

def Each (rd : Option Nat) (P : Program) (N : Nat) (ds : List Deferred) (L0 : Slots) (ops : Array Oper) (dt : List (List Nat)) (V : Plan) (W : (Nat → Bool) → (Nat → Value) → World → Prop) : Nat → List Oper → Prop
  | _, [] => True
  | i, o :: r => (∀ D ρ w', Closed (dg dt) D → D i = false → (∀ j, memB j (dg dt i) = true → D j = true) → W D ρ w' →
      ∃ F, Fr (dg dt) V L0 ρ i F ∧ ∀ Lr, WL rd P ops (DQ N ds V W D ρ i (F ++ Lr)) N ds [o] (F ++ Lr) w') ∧ Each rd P N ds L0 ops dt V W (i + 1) r

theorem Each.at {rd : Option Nat} {P : Program} {N : Nat} {ds : List Deferred} {L0 : Slots} {ops : Array Oper} {dt : List (List Nat)} {V : Plan} {W : (Nat → Bool) → (Nat → Value) → World → Prop} : ∀ {l : List Oper} {m i : Nat} {o : Oper}, Each rd P N ds L0 ops dt V W m l → l[i]? = some o →
    ∀ D ρ w', Closed (dg dt) D → D (m + i) = false → (∀ j, j ∈ dg dt (m + i) → D j = true) → W D ρ w' →
      ∃ F, Fr (dg dt) V L0 ρ (m + i) F ∧ ∀ Lr, WL rd P ops (DQ N ds V W D ρ (m + i) (F ++ Lr)) N ds [o] (F ++ Lr) w'
  | [], m, i, o, _, h => by simp at h
  | x :: r, m, 0, o, hE, h => by
    simp at h
    subst h
    intro D ρ w' h1 h2 h3 h4
    exact hE.1 D ρ w' h1 h2 (fun j hj => h3 j (memB_iff.1 hj)) h4
  | x :: r, m, i + 1, o, hE, h => by
    have := Each.at (l := r) (m := m + 1) (i := i) hE.2 (by simpa using h)
    rwa [show m + 1 + i = m + (i + 1) from by omega] at this

theorem t_samehd {rd : Option Nat} {P : Program} {ops : Array Oper} {Q : Exit → Act → World → Prop} {N : Nat} {ds : List Deferred} {rest : List Oper} {L : Slots} {w : World} {s : Nat} {u v : Value} (e : u = v) (h : WL rd P ops Q N ds rest ((s, v) :: L) w) : WL rd P ops Q N ds rest ((s, u) :: L) w := by subst e; exact h

theorem WC.weak {rd : Option Nat} {P : Program} {Q : Exit → Act → World → Prop} {c : Code} {N : Nat} {ds : List Deferred} {L : Slots} {w : World} (L' : Slots) (hs : Sub L' L) (h : WC rd P Q N ds c L' w) : WC rd P Q N ds c L w := fun a ha => h a (ha.sub hs)

theorem QK.weak {K : Act → World → Prop} {N : Nat} {ds : List Deferred} {L : Slots} {w : World} (L' : Slots) (hs : Sub L' L) (h : QK K N ds L' w) : QK K N ds L w := fun a ha => h a (ha.sub hs)

/-! ### Short words for what every drawn region says -/
section
variable {rd : Option Nat} {P : Program} {ops : Array Oper} {N : Nat} {ds : List Deferred} {V : Plan} {W : (Nat → Bool) → (Nat → Value) → World → Prop} {D : Nat → Bool} {ρ : Nat → Value} {i d : Nat} {v : Value} {L : Slots} {w : World}
end
/-! ### Operations that neither read nor turn memory, computed -/
section
variable {rd : Option Nat} {P : Program} {ops : Array Oper} {N : Nat} {ds : List Deferred} {V : Plan} {L0 : Slots} {dt : List (List Nat)} {W : (Nat → Bool) → (Nat → Value) → World → Prop} {i d : Nat} {v : Value}
end
end Go.Proofs.YtagmodjadmecdaaGreat
