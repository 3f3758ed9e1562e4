/-
  Part 1 of the proof: contracts and plain laws. Conditions: none.
-/
import Derived.Orders
import Derived.Deep.AppendLies
import Derived.Defers
import Derived.Laws.MakeOwn
import Derived.Laws.StructEq
import Derived.Test.YtagmkfbbhfaceaaGreatDoorCK0
namespace Go.Proofs.YtagmkfbbhfaceaaGreatDoor
open Go Go.RowKit

abbrev Plan := List (Option (Nat × Option Value))

def deps (ops : Array Oper) (i : Nat) : List Nat := match ops[i]? with
  | none => []
  | some o => (o.after.toList.filter fun e => Region.binds .any e).map (·.on)

def ld (D : Nat → Bool) (ρ : Nat → Value) : Nat → Plan → Slots
  | _, [] => []
  | i, none :: r => ld D ρ (i + 1) r
  | i, some (d, v) :: r => match D i with
    | true => (d, v.getD (ρ i)) :: ld D ρ (i + 1) r
    | false => ld D ρ (i + 1) r

def slotsOf : Plan → List Nat
  | [] => []
  | none :: r => slotsOf r
  | some (d, _) :: r => d :: slotsOf r

def memB (k : Nat) : List Nat → Bool
  | [] => false
  | j :: r => match Nat.beq k j with
    | true => true
    | false => memB k r

def nodupB : List Nat → Bool
  | [] => true
  | j :: r => !memB j r && nodupB r

theorem memB_iff {k : Nat} : ∀ {l : List Nat}, memB k l = true ↔ k ∈ l
  | [] => by simp [memB]
  | j :: r => by
    simp only [memB, List.mem_cons]
    cases hb : Nat.beq k j with
    | true => have := Nat.eq_of_beq_eq_true hb; simp [this]
    | false =>
      have : k ≠ j := fun e => by subst e; simp [Nat.beq_refl] at hb
      simp [this, memB_iff (l := r)]

theorem look_append {k : Nat} : ∀ {L M : Slots}, look k (L ++ M) = match look k L with | some v => some v | none => look k M
  | [], M => by simp [look]
  | (j, v) :: r, M => by
    simp only [List.cons_append, look]
    cases hb : Nat.beq k j with
    | true => rfl
    | false => exact look_append (L := r)

theorem look_ran {D : Nat → Bool} {ρ : Nat → Value} : ∀ {V : Plan} {i j d : Nat} {v : Option Value}, nodupB (slotsOf V) = true → V[j]? = some (some (d, v)) → D (i + j) = true →
    look d (ld D ρ i V) = some (v.getD (ρ (i + j)))
  | [], _, _, _, _, _, h, _ => by simp at h
  | none :: r, i, 0, d, v, _, h, _ => by simp at h
  | none :: r, i, j + 1, d, v, hn, h, hD => by
    have := look_ran (V := r) (i := i + 1) (j := j) (d := d) (v := v) (D := D) (ρ := ρ) hn (by simpa using h) (by rwa [show i + 1 + j = i + (j + 1) from by omega])
    rwa [show i + 1 + j = i + (j + 1) from by omega] at this
  | some (e, u) :: r, i, 0, d, v, hn, h, hD => by
    simp at h
    obtain ⟨rfl, rfl⟩ := h
    simp only [ld, Nat.add_zero] at hD ⊢
    rw [hD]
    simp [look, Nat.beq_refl]
  | some (e, u) :: r, i, j + 1, d, v, hn, h, hD => by
    simp only [slotsOf, nodupB, Bool.and_eq_true, Bool.not_eq_true'] at hn
    have hd : d ≠ e := by
      intro e'
      subst e'
      have hm : ∀ (W : Plan) (q : Nat), W[q]? = some (some (d, v)) → memB d (slotsOf W) = true := by
        intro W
        induction W with
        | nil => intro q hq; simp at hq
        | cons x W ih =>
          intro q hq
          cases q with
          | zero => simp at hq; subst hq; simp [slotsOf, memB, Nat.beq_refl]
          | succ q =>
            have := ih q (by simpa using hq)
            cases x with
            | none => exact this
            | some p => obtain ⟨p1, p2⟩ := p; simp only [slotsOf, memB]; cases Nat.beq d p1 <;> simp [this]
      have := hm r j (by simpa using h)
      simp [this] at hn
    have hb : Nat.beq d e = false := by
      cases hbb : Nat.beq d e with
      | false => rfl
      | true => exact absurd (Nat.eq_of_beq_eq_true hbb) hd
    have := look_ran (V := r) (i := i + 1) (j := j) (d := d) (v := v) (D := D) (ρ := ρ) hn.2 (by simpa using h) (by rwa [show i + 1 + j = i + (j + 1) from by omega])
    rw [show i + 1 + j = i + (j + 1) from by omega] at this
    simp only [ld]
    cases D i with
    | true => simp only [look, hb]; exact this
    | false => exact this

theorem look_old {D : Nat → Bool} {ρ : Nat → Value} {s : Nat} : ∀ {V : Plan} {i : Nat}, (∀ k v, V[k]? = some (some (s, v)) → D (i + k) = false) → look s (ld D ρ i V) = none
  | [], _, _ => rfl
  | none :: r, i, h => look_old (V := r) (fun k v hk => by have := h (k + 1) v (by simpa using hk); rwa [show i + (k + 1) = i + 1 + k from by omega] at this)
  | some (e, u) :: r, i, h => by
    have hr := look_old (V := r) (i := i + 1) (D := D) (ρ := ρ) (s := s) (fun k v hk => by have := h (k + 1) v (by simpa using hk); rwa [show i + (k + 1) = i + 1 + k from by omega] at this)
    simp only [ld]
    cases hD : D i with
    | false => exact hr
    | true =>
      simp only [look]
      cases hb : Nat.beq s e with
      | false => exact hr
      | true =>
        have e' := Nat.eq_of_beq_eq_true hb
        subst e'
        have := h 0 u rfl
        rw [Nat.add_zero, hD] at this
        cases this

def oldB (dep : Nat → List Nat) (i s : Nat) : Nat → Plan → Bool
  | _, [] => true
  | k, none :: r => oldB dep i s (k + 1) r
  | k, some (d, _) :: r => (match Nat.beq s d with | true => memB i (dep k) | false => true) && oldB dep i s (k + 1) r

theorem oldB_spec {dep : Nat → List Nat} {i s : Nat} : ∀ {V : Plan} {k : Nat}, oldB dep i s k V = true → ∀ j v, V[j]? = some (some (s, v)) → i ∈ dep (k + j)
  | [], _, _, j, v, h => by simp at h
  | none :: r, k, hB, j, v, h => by
    cases j with
    | zero => simp at h
    | succ j => have := oldB_spec (V := r) (k := k + 1) hB j v (by simpa using h); rwa [show k + 1 + j = k + (j + 1) from by omega] at this
  | some (d, u) :: r, k, hB, j, v, h => by
    simp only [oldB, Bool.and_eq_true] at hB
    cases j with
    | zero =>
      simp at h
      obtain ⟨rfl, _⟩ := h
      have := hB.1
      rw [Nat.beq_refl] at this
      exact memB_iff.1 this
    | succ j => have := oldB_spec (V := r) (k := k + 1) hB.2 j v (by simpa using h); rwa [show k + 1 + j = k + (j + 1) from by omega] at this

def Fr (dep : Nat → List Nat) (V : Plan) (L0 : Slots) (ρ : Nat → Value) (i : Nat) : Slots → Prop
  | [] => True
  | (s, v) :: r => ((∃ j u, memB j (dep i) = true ∧ V[j]? = some (some (s, u)) ∧ v = u.getD (ρ j)) ∨ (look s L0 = some v ∧ oldB dep i s 0 V = true)) ∧ Fr dep V L0 ρ i r

def Closed (dep : Nat → List Nat) (D : Nat → Bool) : Prop := ∀ k, D k = true → ∀ i, i ∈ dep k → D i = true

theorem Closed.late {dep : Nat → List Nat} {D : Nat → Bool} (h : Closed dep D) {i : Nat} (k : Nat) (hi : D i = false) (hk : memB i (dep k) = true) : D k = false := by
  cases hD : D k with
  | false => rfl
  | true => have := h k hD i (memB_iff.1 hk); rw [hi] at this; cases this

theorem Fr.sub {dep : Nat → List Nat} {V : Plan} {L0 : Slots} {ρ : Nat → Value} {i : Nat} {D : Nat → Bool} (hn : nodupB (slotsOf V) = true) (hc : Closed dep D) (hi : D i = false) (hd : ∀ j, j ∈ dep i → D j = true) :
    ∀ {F : Slots}, Fr dep V L0 ρ i F → Sub F (ld D ρ 0 V ++ L0)
  | [], _ => trivial
  | (s, v) :: r, h => by
    refine ⟨?_, Fr.sub hn hc hi hd h.2⟩
    rw [look_append]
    rcases h.1 with ⟨j, u, hj, hV, rfl⟩ | ⟨h0, hO⟩
    · have := look_ran (i := 0) (j := j) (D := D) (ρ := ρ) hn hV (by rw [Nat.zero_add]; exact hd j (memB_iff.1 hj))
      rw [this]
      simp
    · have : look s (ld D ρ 0 V) = none := look_old (fun k w hk => by
        have := oldB_spec hO k w hk
        rw [Nat.zero_add] at this ⊢
        exact hc.late k hi (memB_iff.2 this))
      rw [this]
      exact h0

theorem Kn.over {N : Nat} {ds : List Deferred} {L F : Slots} {a : Act} (h : Kn N ds L a) (hs : Sub F L) : Kn N ds (F ++ L) a := by
  refine ⟨h.size, h.defers, fun k v hk => ?_⟩
  rw [look_append] at hk
  cases hF : look k F with
  | none => rw [hF] at hk; exact h.get k v hk
  | some u =>
    rw [hF] at hk
    simp at hk
    subst hk
    exact (h.sub hs).get k u hF

def setD (D : Nat → Bool) (i : Nat) : Nat → Bool := fun j => match Nat.beq j i with | true => true | false => D j
def setV (ρ : Nat → Value) (i : Nat) (v : Value) : Nat → Value := fun j => match Nat.beq j i with | true => v | false => ρ j

def DQ (N : Nat) (ds : List Deferred) (V : Plan) (W : (Nat → Bool) → (Nat → Value) → World → Prop) (D : Nat → Bool) (ρ : Nat → Value) (i : Nat) (L : Slots) : Exit → Act → World → Prop := fun e a w =>
  e = .normal ∧ match V[i]? with
    | some (some (d, u)) => ∃ v, (∀ v', u = some v' → v = v') ∧ Kn N ds ((d, v) :: L) a ∧ W (setD D i) (setV ρ i v) w
    | _ => Kn N ds L a ∧ W (setD D i) ρ w

theorem Oper.wpIn_into {F : Fence} {m : Nat} {P : Program} {o : Oper} {a : Act} {w : World} {K K' : Act → World → Prop} {Q Q' : Exit → Act → World → Prop} (h : ∀ a w, K a w → K' a w) (hQ : ∀ e a w, Q e a w → e = .normal)
    (hh : o.wpIn F m P a w K Q) : o.wpIn F m P a w K' Q' := by
  unfold Oper.wpIn at *
  refine ⟨hh.1, ?_⟩
  have hh := hh.2
  generalize (o.semAt F.round a.eval).run P w = r at *
  cases r with
  | ok n w' =>
    cases n <;> simp only [Oper.uponIn] at hh ⊢ <;>
      first
        | exact h _ _ hh
        | exact ⟨hh.1, CallsIn.mono hh.2 (fun e w'' he => by cases e with
          | returned v => exact h _ _ he
          | panicked c => exact absurd (hQ _ _ _ he) (by simp)
          | outgrown => obtain ⟨x, y, hz⟩ := he; exact absurd (hQ _ _ _ hz) (by simp))⟩
        | exact ⟨hh.1, RoundIn.mono hh.2 (fun e w'' he => by cases e with
          | returned v => exact h _ _ he
          | panicked c => exact absurd (hQ _ _ _ he) (by simp)
          | outgrown => obtain ⟨x, y, hz⟩ := he; exact absurd (hQ _ _ _ hz) (by simp))⟩
        | exact ⟨hh.1, RowsIn.mono hh.2 (fun _ _ he => h _ _ he)⟩
  | halt x w' => cases x <;> simp only [Oper.uponIn] at hh ⊢ <;> first | exact hh | exact absurd (hQ _ _ _ hh) (by simp)

def dg (dt : List (List Nat)) (i : Nat) : List Nat := dt.getD i []

def Each (rd : Option Nat) (P : Program) (N : Nat) (ds : List Deferred) (L0 : Slots) (ops : Array Oper) (dt : List (List Nat)) (V : Plan) (W : (Nat → Bool) → (Nat → Value) → World → Prop) : Nat → List Oper → Prop
  | _, [] => True
  | i, o :: r => (∀ D ρ w', Closed (dg dt) D → D i = false → (∀ j, memB j (dg dt i) = true → D j = true) → W D ρ w' →
      ∃ F, Fr (dg dt) V L0 ρ i F ∧ ∀ Lr, WL rd P ops (DQ N ds V W D ρ i (F ++ Lr)) N ds [o] (F ++ Lr) w') ∧ Each rd P N ds L0 ops dt V W (i + 1) r

theorem Each.at {rd : Option Nat} {P : Program} {N : Nat} {ds : List Deferred} {L0 : Slots} {ops : Array Oper} {dt : List (List Nat)} {V : Plan} {W : (Nat → Bool) → (Nat → Value) → World → Prop} : ∀ {l : List Oper} {m i : Nat} {o : Oper}, Each rd P N ds L0 ops dt V W m l → l[i]? = some o →
    ∀ D ρ w', Closed (dg dt) D → D (m + i) = false → (∀ j, j ∈ dg dt (m + i) → D j = true) → W D ρ w' →
      ∃ F, Fr (dg dt) V L0 ρ (m + i) F ∧ ∀ Lr, WL rd P ops (DQ N ds V W D ρ (m + i) (F ++ Lr)) N ds [o] (F ++ Lr) w'
  | [], m, i, o, _, h => by simp at h
  | x :: r, m, 0, o, hE, h => by
    simp at h
    subst h
    intro D ρ w' h1 h2 h3 h4
    exact hE.1 D ρ w' h1 h2 (fun j hj => h3 j (memB_iff.1 hj)) h4
  | x :: r, m, i + 1, o, hE, h => by
    have := Each.at (l := r) (m := m + 1) (i := i) hE.2 (by simpa using h)
    rwa [show m + 1 + i = m + (i + 1) from by omega] at this

theorem t_samehd {rd : Option Nat} {P : Program} {ops : Array Oper} {Q : Exit → Act → World → Prop} {N : Nat} {ds : List Deferred} {rest : List Oper} {L : Slots} {w : World} {s : Nat} {u v : Value} (e : u = v) (h : WL rd P ops Q N ds rest ((s, v) :: L) w) : WL rd P ops Q N ds rest ((s, u) :: L) w := by subst e; exact h

theorem WC.weak {rd : Option Nat} {P : Program} {Q : Exit → Act → World → Prop} {c : Code} {N : Nat} {ds : List Deferred} {L : Slots} {w : World} (L' : Slots) (hs : Sub L' L) (h : WC rd P Q N ds c L' w) : WC rd P Q N ds c L w := ⟨fun a ha => h a (ha.sub hs)⟩

theorem QK.weak {K : Act → World → Prop} {N : Nat} {ds : List Deferred} {L : Slots} {w : World} (L' : Slots) (hs : Sub L' L) (h : QK K N ds L' w) : QK K N ds L w := ⟨fun a ha => h a (ha.sub hs)⟩

/-! ### Short words for what every drawn region says -/
section
variable {rd : Option Nat} {P : Program} {ops : Array Oper} {N : Nat} {ds : List Deferred} {V : Plan} {W : (Nat → Bool) → (Nat → Value) → World → Prop} {D : Nat → Bool} {ρ : Nat → Value} {i d : Nat} {v : Value} {L : Slots} {w : World}
end
/-! ### Operations that neither read nor turn memory, computed -/
section
variable {rd : Option Nat} {P : Program} {ops : Array Oper} {N : Nat} {ds : List Deferred} {V : Plan} {L0 : Slots} {dt : List (List Nat)} {W : (Nat → Bool) → (Nat → Value) → World → Prop} {i d : Nat} {v : Value}
end
end Go.Proofs.YtagmkfbbhfaceaaGreatDoor
namespace Go.Proofs.YtagmkfbbhfaceaaGreatDoor
open Go Go.RowKit

/-! ### Slices that the call itself gathers -/
/-- The slice (ao, xs.length, cap) holds xs in a block g of the call's own (from 'base' on); nil: g is no such block. -/
structure Acc {α : Type} (enc : α → List Value) (k : Nat) (e : TypeId) (base : Nat) (w : World) (ao : Option Addr) (g cap : Nat) (xs : List α) : Prop where
  lt : g < w.heap.size
  at_ : (ao = none ∧ xs = [] ∧ cap = 0 ∧ g < base) ∨ (ao = some ⟨g, 0, none⟩ ∧ base ≤ g ∧ ∃ cur : Array Value, w.heap[g]? = some (.cells cur e (0, 0)) ∧ xs.length ≤ cap ∧ cap ≤ maxLen ∧ cur.size = cap * k ∧ cur.toList.take (xs.length * k) = xs.flatMap enc)

theorem Acc.nil {α : Type} (enc : α → List Value) (k : Nat) (e : TypeId) (base : Nat) (w : World) (h0 : 0 < base) (h1 : base ≤ w.heap.size) : Acc enc k e base w none 0 0 [] := ⟨by omega, .inl ⟨rfl, rfl, rfl, h0⟩⟩

theorem Acc.keep {α : Type} {enc : α → List Value} {k : Nat} {e : TypeId} {base : Nat} {w w' : World} {S : Nat → Prop} {ao : Option Addr} {g cap : Nat} {xs : List α} (h : Acc enc k e base w ao g cap xs) (u : Upd S w w') (hn : base ≤ g → ¬ S g) : Acc enc k e base w' ao g cap xs := by
  refine ⟨Nat.lt_of_lt_of_le h.lt u.size, ?_⟩
  rcases h.at_ with h1 | ⟨h1, h2, cur, h3, h4⟩
  · exact .inl h1
  · exact .inr ⟨h1, h2, cur, (u.block g h.lt (hn h2)).trans h3, h4⟩

theorem flatMap_len {α : Type} {enc : α → List Value} {k : Nat} (hk : ∀ x, (enc x).length = k) : ∀ xs : List α, (xs.flatMap enc).length = xs.length * k
  | [] => by simp
  | x :: xs => by simp [flatMap_len hk xs, hk, Nat.add_mul, Nat.add_comm]

theorem flatMap_at {α : Type} [Inhabited α] {enc : α → List Value} {k : Nat} (hk : ∀ x, (enc x).length = k) : ∀ (xs : List α) (i j : Nat) (v : Value), i < xs.length → (enc (nth xs i))[j]? = some v → (xs.flatMap enc)[i * k + j]? = some v
  | [], i, j, v, h, _ => by simp at h
  | x :: xs, 0, j, v, _, hv => by
    have hj : j < (enc x).length := by
      rcases Nat.lt_or_ge j (enc x).length with h | h
      · exact h
      · simp [nth, List.getElem?_eq_none h] at hv
    simp only [Nat.zero_mul, Nat.zero_add, List.flatMap_cons]
    rw [List.getElem?_append_left hj]
    simpa [nth] using hv
  | x :: xs, i + 1, j, v, h, hv => by
    have := flatMap_at hk xs i j v (by simpa using h) (by simpa [nth] using hv)
    rw [List.flatMap_cons, List.getElem?_append_right (by rw [hk, Nat.add_mul]; omega), hk, show (i + 1) * k + j - k = i * k + j from by rw [Nat.add_mul]; omega]
    exact this

theorem Acc.sl {α : Type} [Inhabited α] {enc : α → List Value} {k : Nat} {e : TypeId} {base : Nat} {w : World} {ao : Option Addr} {g cap : Nat} {xs : List α} (h : Acc enc k e base w ao g cap xs) (hk : ∀ x, (enc x).length = k) : Sl enc k w ao g 0 xs := by
  rcases h.at_ with ⟨_, h1, _⟩ | ⟨h1, h2, cur, h3, h4, _, h5, h6⟩
  · subst h1; exact Sl.nil _ _ _ _ _ _
  · refine ⟨fun _ => h1, fun _ => h.lt, fun i hi j v hv => ?_⟩
    have h7 := flatMap_at hk xs i j v hi hv
    rw [← h6] at h7
    have h8 : cur.toList[i * k + j]? = some v := by
      rw [List.getElem?_take] at h7
      split at h7
      · exact h7
      · cases h7
    simp only [World.cell?, h3, Nat.zero_add]
    simpa using h8

theorem Acc.cap_le {α : Type} {enc : α → List Value} {k : Nat} {e : TypeId} {base : Nat} {w : World} {ao : Option Addr} {g cap : Nat} {xs : List α} (h : Acc enc k e base w ao g cap xs) : xs.length ≤ cap := by
  rcases h.at_ with ⟨_, h1, _⟩ | ⟨_, _, _, _, h4, _⟩
  · subst h1; simp
  · exact h4

theorem Acc.owns {α : Type} {enc : α → List Value} {k : Nat} {e : TypeId} {base : Nat} {w : World} {ao : Option Addr} {g cap : Nat} {xs : List α} (h : Acc enc k e base w ao g cap xs) (hk : ∀ x, (enc x).length = k) :
    w.ownsRow base e k (.slice ao xs.length cap) xs.length (xs.flatMap enc) := by
  refine ⟨flatMap_len hk xs, ?_⟩
  rcases h.at_ with ⟨h1, h2, h3, _⟩ | ⟨h1, h2, cur, h3, h4, h5, h6, h7⟩
  · subst h1 h2 h3; exact .inl ⟨rfl, rfl⟩
  · subst h1; exact .inr ⟨g, cap, cur, rfl, h2, h3, h4, h5, h6, h7⟩

theorem info_parts' {P : Program} {e : TypeId} {z : Value} {size bytes : Nat} (h : (P.info? e).map (fun i => (i.zero, i.size, i.bytes)) = some (some z, size, bytes)) : ∃ i, P.info? e = some i ∧ i.zero = some z ∧ i.size = size ∧ i.bytes = bytes := by
  cases hi : P.info? e with
  | none => simp [hi] at h
  | some i => simp [hi] at h; exact ⟨i, rfl, h.1, h.2.1, h.2.2⟩

/-! ### A map from pairs of integers -/
def key2 (a b : Int) : Value := .agg #[.int .i64 a, .int .i64 b]

/-- Block r is a map whose keys are pairs, whose values are as F says. -/
def Memo (F : Int → Int → Value → Prop) (w : World) (r : Nat) : Prop := ∃ es clock, w.heap[r]? = some (.map es clock) ∧ ∀ e ∈ es.toList, ∃ a b, e.key = key2 a b ∧ F a b e.val

theorem Memo.lt {w : World} {F : Int → Int → Value → Prop} {r : Nat} (h : Memo F w r) : r < w.heap.size := by obtain ⟨es, c, h, _⟩ := h; exact lt_of_block h
theorem Memo.keep {w : World} {F : Int → Int → Value → Prop} {r : Nat} {w' : World} {S : Nat → Prop} (h : Memo F w r) (u : Upd S w w') (hn : ¬ S r) : Memo F w' r := by
  obtain ⟨es, c, h1, h2⟩ := h
  exact ⟨es, c, (u.block r (lt_of_block h1) hn).trans h1, h2⟩

section steps
variable {rd : Option Nat} {P : Program} {ops : Array Oper} {Q : Exit → Act → World → Prop} {N : Nat} {ds : List Deferred} {rest : List Oper} {L : Slots} {w : World}
variable {d : Nat} {ty : TypeId} {pos : String} {aft : Array Edge} {g : Option (Nat × Bool)}

theorem t_append {α : Type} {enc : α → List Value} {k : Nat} {t e : TypeId} {z : Value} {bytes base : Nat} {s x : Operand} {ao : Option Addr} {gb cap b c : Nat} {xs : List α} (y : α)
    (hu : P.underlying t = some (.slice e)) (hi : (P.info? e).map (fun i => (i.zero, i.size, i.bytes)) = some (some z, k, bytes)) (hz : z.cells.size = k) (hk0 : 0 < k) (hk : ∀ x, (enc x).length = k) (h1 : ∀ x, ∀ u ∈ enc x, u.oneCell' = true)
    (hg : grd ops L g = true) (hN : Nat.blt d N = true) (hs : ev L s = some (.slice ao xs.length cap)) (hx : ev L x = some (.slice (some ⟨b, 0, none⟩) 1 c))
    (ha : Acc enc k e base w ao gb cap xs) (hb : Blk w b e (enc y)) (hbase : base ≤ w.heap.size) (hlen : xs.length ≤ 1000000) (hbytes : bytes ≤ 1000)
    (h : ∀ ao' g' cap' w', Acc enc k e base w' ao' g' cap' (xs ++ [y]) → Upd (fun i => i = gb ∧ base ≤ i) w w' → (g' = gb ∨ w.heap.size ≤ g') → (xs ++ [y]).length = xs.length + 1 → WL rd P ops Q N ds rest ((d, .slice ao' (xs ++ [y]).length cap') :: L) w') :
    WL rd P ops Q N ds (⟨some d, .call ⟨.builtin .append, #[s, x], #[t, t]⟩, ty, pos, aft, g⟩ :: rest) L w := by
  obtain ⟨i, hi0, hi1, hi2, hi3⟩ := info_parts' hi
  obtain ⟨gg, cc, w', hr, hown, hgrow, hgeq⟩ := run_append_lies (P := P) (w := w) t ty base e i z k bytes hu hi0 hi1 hi2 hi3 hz hk0 (.slice ao xs.length cap) xs.length (xs.flatMap enc) (ha.owns hk)
    ⟨b, 0, none⟩ 1 c (enc y) (by rw [hk, Nat.one_mul]) (fun j u hj => by rw [addr_add, Nat.zero_add]; exact hb.get hj) (h1 y) (by decide) (by unfold maxLen; omega) (by
      have : (xs.length + 1) * bytes ≤ 1000001 * 1000 := Nat.mul_le_mul (by omega) hbytes
      omega) hbase _ rfl
  have hlen' : (xs ++ [y]).length = xs.length + 1 := by simp
  have hacc : Acc enc k e base w' (some ⟨gg, 0, none⟩) gg cc (xs ++ [y]) := by
    obtain ⟨hl, hown⟩ := hown
    rcases hown with ⟨h0, _⟩ | ⟨g2, cap2, cur, he, hbg, hh, hc1, hc2, hc3, hc4⟩
    · cases h0
    · cases he
      refine ⟨?_, .inr ⟨rfl, hbg, cur, hh, by rw [hlen']; exact hc1, hc2, hc3, ?_⟩⟩
      · rcases Nat.lt_or_ge gg w'.heap.size with h | h
        · exact h
        · rw [Array.getElem?_eq_none h] at hh; cases hh
      · rw [hlen']; simpa using hc4
  have hupd : Upd (fun i => i = gb ∧ base ≤ i) w w' := ⟨hgrow.os, hgrow.tape, hgrow.output, hgrow.size, fun q hq hn => hgrow.block q hq (fun he => by
    rcases ha.at_ with ⟨h1, _, _, _⟩ | ⟨h1, h2, _⟩
    · subst h1; cases he
    · subst h1; simp [Value.ownBlock] at he; exact hn ⟨he, by omega⟩)⟩
  have hge : gg = gb ∨ w.heap.size ≤ gg := by
    rcases hgeq with h | h
    · left
      rcases ha.at_ with ⟨h1, _, _, _⟩ | ⟨h1, h2, _⟩
      · subst h1; simp [Value.ownBlock] at h
      · subst h1; simp [Value.ownBlock] at h; omega
    · right; omega
  have := h _ _ _ w' hacc hupd hge hlen'
  refine WL.value hg rfl hN (fun a hk' => ?_) this
  simp only [execOp, resolve, invoke, builtin]
  simp [hk'.ev hs, hk'.ev hx, hr]

def subAddr (ao : Option Addr) (cap l k : Nat) : Option Addr := if cap = l then ao else ao.map (·.add (l * k))

/-- x[l:h] of a slice. -/
theorem t_slice {t e : TypeId} {x lo hi : Operand} {ao : Option Addr} {n cap k : Nat} {kl kh : IntKind} {ml mh : Int} (l h' : Nat) (hu : P.underlying t = some (.slice e)) (hsz : ∀ w, (sizeOf e).run P w = .ok k w)
    (hg : grd ops L g = true) (hN : Nat.blt d N = true) (hx : ev L x = some (.slice ao n cap)) (hlo : ev L lo = some (.int kl ml)) (hhi : ev L hi = some (.int kh mh)) (e1 : ml = l) (e2 : mh = h') (b1 : l ≤ h') (b2 : h' ≤ cap)
    (h : WL rd P ops Q N ds rest ((d, .slice (subAddr ao cap l k) (h' - l) (cap - l)) :: L) w) : WL rd P ops Q N ds (⟨some d, .slice t x (some lo) (some hi) none, ty, pos, aft, g⟩ :: rest) L w :=
  WL.value hg rfl hN (fun a hk => by
    subst e1 e2
    have q1 : (0 : Int) ≤ (h' : Int) ∧ (h' : Int) ≤ (cap : Int) := by omega
    have q2 : (0 : Int) ≤ (l : Int) ∧ (l : Int) ≤ (h' : Int) := by omega
    simp [execOp, Instr.sliceAt, run_underlying hu, Instr.slice, Instr.sliceBounds, Instr.sliceBound, hk.ev hx, hk.ev hlo, hk.ev hhi, asIntOf, b1, b2, hsz, subAddr]) h

/-- x[:h] of a slice. -/
theorem t_sliceTo {t e : TypeId} {x hi : Operand} {ao : Option Addr} {n cap k : Nat} {kh : IntKind} {mh : Int} (m : Nat) (hu : P.underlying t = some (.slice e)) (hsz : ∀ w, (sizeOf e).run P w = .ok k w)
    (hg : grd ops L g = true) (hN : Nat.blt d N = true) (hx : ev L x = some (.slice ao n cap)) (hhi : ev L hi = some (.int kh mh)) (e2 : mh = (m : Int)) (b2 : m ≤ cap)
    (h : WL rd P ops Q N ds rest ((d, .slice (subAddr ao cap 0 k) m cap) :: L) w) : WL rd P ops Q N ds (⟨some d, .slice t x none (some hi) none, ty, pos, aft, g⟩ :: rest) L w :=
  WL.value hg rfl hN (fun a hk => by
    subst e2
    have q1 : (0 : Int) ≤ (m : Int) ∧ (m : Int) ≤ (cap : Int) := by omega
    simp [execOp, Instr.sliceAt, run_underlying hu, Instr.slice, Instr.sliceBounds, Instr.sliceBound, hk.ev hx, hk.ev hhi, asIntOf, b2, hsz, subAddr]) h

theorem t_makemap {t : TypeId} (hg : grd ops L g = true) (hN : Nat.blt d N = true)
    (h : ∀ r w', r = w.heap.size → w'.heap.size = w.heap.size + 1 → (∀ F, Memo F w' r) → Ext w w' → WL rd P ops Q N ds rest ((d, .map (some r)) :: L) w') : WL rd P ops Q N ds (⟨some d, .makeMap t none, ty, pos, aft, g⟩ :: rest) L w :=
  WL.value (w' := w.alloc (.map #[] 0)) hg rfl hN (fun a hk => by simp [execOp, Instr.makeMap, newObj, Sem.run]) (h _ _ rfl (by simp) (fun F => ⟨#[], 0, by show (w.heap.push _)[w.heap.size]? = _; simp, by simp⟩) (Upd.alloc _ _))

/-- x[l:] of a slice. -/
theorem t_sliceFrom {t e : TypeId} {x lo : Operand} {ao : Option Addr} {n cap k : Nat} {kl : IntKind} {ml : Int} (l : Nat) (hu : P.underlying t = some (.slice e)) (hsz : ∀ w, (sizeOf e).run P w = .ok k w)
    (hg : grd ops L g = true) (hN : Nat.blt d N = true) (hx : ev L x = some (.slice ao n cap)) (hlo : ev L lo = some (.int kl ml)) (e1 : ml = l) (b1 : l ≤ n) (_b2 : n ≤ cap)
    (h : WL rd P ops Q N ds rest ((d, .slice (subAddr ao cap l k) (n - l) (cap - l)) :: L) w) : WL rd P ops Q N ds (⟨some d, .slice t x (some lo) none none, ty, pos, aft, g⟩ :: rest) L w :=
  WL.value hg rfl hN (fun a hk => by
    subst e1
    simp [execOp, Instr.sliceAt, run_underlying hu, Instr.slice, Instr.sliceBounds, Instr.sliceBound, hk.ev hx, hk.ev hlo, asIntOf, b1, hsz, subAddr]) h

theorem nth_drop {α : Type} [Inhabited α] (xs : List α) (l i : Nat) : nth (xs.drop l) i = nth xs (l + i) := by simp [nth, List.getD_eq_getElem?_getD]
theorem nth_take {α : Type} [Inhabited α] {xs : List α} {n i : Nat} (h : i < n) : nth (xs.take n) i = nth xs i := by simp [nth, List.getD_eq_getElem?_getD, h]

theorem Sl.sub {α : Type} [Inhabited α] {enc : α → List Value} {k : Nat} {w : World} {ao : Option Addr} {b o : Nat} {xs : List α} (h : Sl enc k w ao b o xs) (cap l n : Nat) (hc : xs.length ≤ cap) : Sl enc k w (subAddr ao cap l k) b (o + l * k) ((xs.drop l).take n) := by
  refine ⟨fun hp => ?_, fun hp => ?_, fun i hi => ?_⟩
  · simp at hp
    have := h.addr (by omega)
    subst this
    unfold subAddr
    rw [if_neg (by omega)]
    simp [addr_add]
  · simp at hp; exact h.lt (by omega)
  · simp at hi
    rw [nth_take (by omega), nth_drop]
    have := h.at_ (l + i) (by omega)
    rwa [Nat.add_mul, ← Nat.add_assoc] at this

/-! ### Deferred calls -/
variable {R : Value → World → Prop} {c : Code}

structure Key2 (P : Program) (K E : TypeId) : Prop where
  und : P.underlying K = some (.array 2 E)
  elt : P.underlying E = some (.int .i64)
  agg : ∀ w, (isAgg E).run P w = .ok false w
  siz : ∀ w, (sizeOf E).run P w = .ok 1 w

theorem range2 : List.range' 0 2 = [0, 1] := rfl

theorem equal_i64 {E : TypeId} (h : P.underlying E = some (.int .i64)) (n : Nat) (a c : Int) (w : World) : (Op.equalIn (n + 1) E (.int .i64 a) (.int .i64 c)).run P w = .ok (decide (a = c)) w := by
  simp [Op.equalIn, run_underlying h, Bool.beq_eq_decide_eq]

theorem Key2.equalIn {K E : TypeId} (h : Key2 P K E) (n : Nat) (a b c d : Int) (w : World) : (Op.equalIn (n + 2) K (key2 a b) (key2 c d)).run P w = .ok (decide (a = c) && decide (b = d)) w := by
  have h1 := h.und
  have e1 := equal_i64 h.elt n
  have p1 : ∀ x y : Int, (part E #[.int .i64 x, .int .i64 y] 0).run P w = .ok (.int .i64 x) w := fun x y => by simp [part, h.agg]
  have p2 : ∀ x y : Int, (part E #[.int .i64 x, .int .i64 y] 1).run P w = .ok (.int .i64 y) w := fun x y => by simp [part, h.agg]
  rw [Op.equalIn]
  simp only [key2, Sem.run_bind, run_underlying h1, Result.andThen_ok, h.siz, Std.Legacy.Range.forIn_eq_forIn_range', Std.Legacy.Range.size, Nat.sub_zero, Nat.add_one_sub_one, Nat.div_one, range2, List.forIn_cons, List.forIn_nil, Nat.zero_mul, Nat.one_mul, p1, e1]
  by_cases q1 : a = c <;> by_cases q2 : b = d <;> simp [q1, q2, p2, e1]

theorem Key2.equal {K E : TypeId} (h : Key2 P K E) (a b c d : Int) (w : World) : (Op.equal K (key2 a b) (key2 c d)).run P w = .ok (decide (a = c) && decide (b = d)) w :=
  h.equalIn 9998 a b c d w

theorem Key2.checkIn {K E : TypeId} (h : Key2 P K E) (em : Bool) (n : Nat) (a b : Int) (w : World) : (Instr.checkKey em (n + 2) K (key2 a b)).run P w = .ok () w := by
  have h1 := h.und
  have p1 : ∀ x y : Int, (part E #[.int .i64 x, .int .i64 y] 0).run P w = .ok (.int .i64 x) w := fun x y => by simp [part, h.agg]
  have p2 : ∀ x y : Int, (part E #[.int .i64 x, .int .i64 y] 1).run P w = .ok (.int .i64 y) w := fun x y => by simp [part, h.agg]
  have e : ∀ x : Int, (Instr.checkKey em (n + 1) E (.int .i64 x)).run P w = .ok () w := fun x => by simp [Instr.checkKey, run_underlying h.elt]
  rw [Instr.checkKey]
  simp only [key2, Sem.run_bind, run_underlying h1, Result.andThen_ok, Std.Legacy.Range.forIn_eq_forIn_range', Std.Legacy.Range.size, Nat.sub_zero, Nat.add_one_sub_one, Nat.div_one, range2, List.forIn_cons, List.forIn_nil]
  simp [h.siz, p1, p2, e]

theorem Key2.check {K E : TypeId} (h : Key2 P K E) (em : Bool) (a b : Int) (w : World) : (Instr.checkKey em 10000 K (key2 a b)).run P w = .ok () w :=
  h.checkIn em 9998 a b w

theorem Key2.find {K E : TypeId} {F : Int → Int → Value → Prop} (h : Key2 P K E) (a b : Int) : ∀ (es : List MapEntry) (i : Nat), (∀ e ∈ es, ∃ a b, e.key = key2 a b ∧ F a b e.val) →
    ∃ r, (∀ w, (Instr.findAsking K (key2 a b) es i).run P w = .ok r w) ∧ match r with
      | none => True
      | some (j, v) => F a b v ∧ i ≤ j ∧ (es[j - i]?).map (·.key) = some (key2 a b)
  | [], i, _ => ⟨none, by simp [Instr.findAsking], trivial⟩
  | e :: es, i, hes => by
    obtain ⟨c, d, hk, hF⟩ := hes e (by simp)
    have he := h.equal a b c d
    by_cases hq : a = c ∧ b = d
    · obtain ⟨rfl, rfl⟩ := hq
      refine ⟨some (i, e.val), fun w => ?_, hF, Nat.le_refl _, ?_⟩
      · simp only [Instr.findAsking, Sem.run_bind, hk, he]
        simp
      · simp [hk]
    · obtain ⟨r, hr, hm⟩ := Key2.find h a b es (i + 1) (fun e he => hes e (by simp [he]))
      refine ⟨r, fun w => ?_, ?_⟩
      · have : (decide (a = c) && decide (b = d)) = false := by simpa using hq
        simp only [Instr.findAsking, Sem.run_bind, hk, he, this]
        simpa using hr w
      · cases r with
        | none => trivial
        | some p =>
          obtain ⟨j, v⟩ := p
          obtain ⟨q1, q2, q3⟩ := hm
          refine ⟨q1, by omega, ?_⟩
          rw [show j - i = (j - (i + 1)) + 1 from by omega]
          simpa using q3

theorem Key2.findKey {K E : TypeId} {F : Int → Int → Value → Prop} (h : Key2 P K E) (a b : Int) (es : List MapEntry) (hes : ∀ e ∈ es, ∃ a b, e.key = key2 a b ∧ F a b e.val) :
    ∃ r, (∀ w, (Instr.findKey K (key2 a b) es).run P w = .ok r w) ∧ match r with
      | none => True
      | some (j, v) => F a b v ∧ (es[j]?).map (·.key) = some (key2 a b) := by
  have h1 := h.und
  cases es with
  | nil => exact ⟨none, fun w => by simp [Instr.findKey, run_underlying h1, Instr.findNow], trivial⟩
  | cons e es =>
    obtain ⟨c, d, hk, hF⟩ := hes e (by simp)
    obtain ⟨r, hr, hm⟩ := h.find (F := F) a b (e :: es) 0 hes
    refine ⟨r, fun w => ?_, ?_⟩
    · simp only [Instr.findKey, Sem.run_bind, run_underlying h1, Result.andThen_ok, Instr.findNow, hk, key2, Instr.sameNow]
      exact hr w
    · cases r with
      | none => trivial
      | some p => obtain ⟨j, v⟩ := p; obtain ⟨q1, _, q3⟩ := hm; exact ⟨q1, by simpa using q3⟩

/-- What x[key] yields of the map in block r. -/
def Found (P : Program) (K : TypeId) (z : Value) (w : World) (r : Nat) (a b : Int) (v : Value) (ok : Bool) : Prop :=
  ∃ es c, w.heap[r]? = some (.map es c) ∧ ((ok = true ∧ ∃ j, ∀ w, (Instr.findKey K (key2 a b) es.toList).run P w = .ok (some (j, v)) w) ∨ (ok = false ∧ v = z ∧ ∀ w, (Instr.findKey K (key2 a b) es.toList).run P w = .ok none w))

theorem Found.keep {K : TypeId} {z : Value} {r : Nat} {a b : Int} {v : Value} {ok : Bool} {w w' : World} {S : Nat → Prop} (h : Found P K z w r a b v ok) (u : Upd S w w') (hn : ¬ S r) : Found P K z w' r a b v ok := by
  obtain ⟨es, c, h1, h2⟩ := h
  exact ⟨es, c, (u.block r (lt_of_block h1) hn).trans h1, h2⟩

theorem Memo.found {K E : TypeId} {F : Int → Int → Value → Prop} {r : Nat} (hk2 : Key2 P K E) (hm : Memo F w r) (a b : Int) (z : Value) : ∃ v ok, Found P K z w r a b v ok ∧ (ok = true → F a b v) ∧ (ok = false → v = z) := by
  obtain ⟨es, c, h1, h2⟩ := hm
  obtain ⟨q, hq, hm⟩ := hk2.findKey (F := F) a b es.toList h2
  cases q with
  | none => exact ⟨z, false, ⟨es, c, h1, .inr ⟨rfl, rfl, hq⟩⟩, by simp, fun _ => rfl⟩
  | some p => obtain ⟨j, v⟩ := p; exact ⟨v, true, ⟨es, c, h1, .inl ⟨rfl, j, hq⟩⟩, fun _ => hm.1, by simp⟩

end steps
end Go.Proofs.YtagmkfbbhfaceaaGreatDoor
namespace Go.Proofs.YtagmkfbbhfaceaaGreatDoor
open Go Go.RowKit
section
variable {rd : Option Nat} {P : Program} {ops : Array Oper} {Q : Exit → Act → World → Prop} {N : Nat} {ds : List Deferred} {rest : List Oper} {L : Slots} {w : World}
variable {d : Nat} {ty : TypeId} {pos : String} {aft : Array Edge} {g : Option (Nat × Bool)}
theorem t_eqS {t yt : TypeId} {x y : Operand} {xs ys : List Value} {b : Bool} (hm : P.eqGuardType P.depth t = false) (he : ∀ w, (Op.equalIn 10000 t (.agg xs.toArray) (.agg ys.toArray)).run P w = .ok b w)
    (hg : grd ops L g = true) (hN : Nat.blt d N = true) (hx : ev L x = some (.agg xs.toArray)) (hy : ev L y = some (.agg ys.toArray))
    (h : WL rd P ops Q N ds rest ((d, .bool b) :: L) w) : WL rd P ops Q N ds (⟨some d, .binOp .eql t x y yt, ty, pos, aft, g⟩ :: rest) L w :=
  WL.value hg rfl hN (fun a hk => by
    simp only [execOp, hk.ev hx, hk.ev hy, Sem.run_bind, run_eqGuard_agg w .eql t x y _ _ hm, Result.andThen_ok]
    simp [run_eql_struct, he]) h
theorem t_neS {t yt : TypeId} {x y : Operand} {xs ys : List Value} {b : Bool} (hm : P.eqGuardType P.depth t = false) (he : ∀ w, (Op.equalIn 10000 t (.agg xs.toArray) (.agg ys.toArray)).run P w = .ok b w)
    (hg : grd ops L g = true) (hN : Nat.blt d N = true) (hx : ev L x = some (.agg xs.toArray)) (hy : ev L y = some (.agg ys.toArray))
    (h : WL rd P ops Q N ds rest ((d, .bool (!b)) :: L) w) : WL rd P ops Q N ds (⟨some d, .binOp .neq t x y yt, ty, pos, aft, g⟩ :: rest) L w :=
  WL.value hg rfl hN (fun a hk => by
    simp only [execOp, hk.ev hx, hk.ev hy, Sem.run_bind, run_eqGuard_agg w .neq t x y _ _ hm, Result.andThen_ok]
    simp [run_neq_struct, he]) h
end
end Go.Proofs.YtagmkfbbhfaceaaGreatDoor
namespace Go.Proofs.YtagmkfbbhfaceaaGreatDoor
open Go Go.RowKit
section
variable {rd : Option Nat} {P : Program} {ops : Array Oper} {Q : Exit → Act → World → Prop} {N : Nat} {ds : List Deferred} {rest : List Oper} {L : Slots} {w : World}
variable {d : Nat} {ty : TypeId} {pos : String} {aft : Array Edge} {g : Option (Nat × Bool)}
end
end Go.Proofs.YtagmkfbbhfaceaaGreatDoor
