/-
  Plans: what assign finds. Conditions: none.
-/
import Derived.Test.YtagmodjadmecdaaGreatHA14
namespace Go.Proofs.YtagmodjadmecdaaGreat
open Go Go.RowKit

def AscN : Nat → Nat → List Nat → Prop
  | _, _, [] => True
  | i, n, k :: l => i ≤ k ∧ k < n ∧ AscN (k + 1) n l
theorem AscN.mem {n : Nat} : ∀ {l : List Nat} {i : Nat}, AscN i n l → ∀ {j}, j ∈ l → i ≤ j ∧ j < n
  | k :: l, i, h, j, hj => by
    rcases List.mem_cons.1 hj with e | hj
    · rw [e]; exact ⟨h.1, h.2.1⟩
    · have := AscN.mem h.2.2 hj; have h1 : i ≤ k := h.1; omega
theorem AscN.nodup {n : Nat} : ∀ {l : List Nat} {i : Nat}, AscN i n l → l.Nodup
  | [], _, _ => List.nodup_nil
  | k :: l, i, h => List.nodup_cons.2 ⟨fun hk => by have := AscN.mem h.2.2 hk; omega, AscN.nodup h.2.2⟩
theorem AscN.lt {n : Nat} : ∀ {l : List Nat} {i a : Nat}, AscN i n l → 0 < a → a < l.length → nth l (a - 1) < nth l a
  | [], _, a, _, _, h => absurd h (Nat.not_lt_zero _)
  | k :: l, i, a, h, h0, ha => by
    match a, h0, ha with
    | 1, _, ha =>
      have : nth l 0 ∈ l := nth_mem (by simpa using ha)
      have := AscN.mem h.2.2 this
      show k < nth l 0
      omega
    | a + 2, _, ha =>
      have := AscN.lt (a := a + 1) h.2.2 (by omega) (by simp at ha; omega)
      exact this
def aftN (x : Leg) : List Nat → List Mb → List Mb
  | [], ms => ms
  | k :: l, ms => aftN x l (ms.set k (aftM x (nth ms k)))
def pltN (x : Leg) (ms : List Mb) : List Nat → Int
  | [] => 0
  | k :: l => pltI (nth ms k) x + pltN x ms l
theorem pltN_rng (x : Leg) (ms : List Mb) : ∀ l, 0 ≤ pltN x ms l ∧ pltN x ms l ≤ (l.length : Int)
  | [] => ⟨Int.le_refl _, Int.le_refl _⟩
  | k :: l => by have := pltN_rng x ms l; have := pltI_rng (nth ms k) x; simp only [pltN, List.length_cons]; omega
theorem pltN_set {x : Leg} {ms : List Mb} {k : Nat} {a : Mb} (hk : k < ms.length) : ∀ {l : List Nat}, k ∉ l → pltN x (ms.set k a) l = pltN x ms l
  | [], _ => rfl
  | j :: l, h => by
    simp only [List.mem_cons, not_or] at h
    rw [pltN, pltN, pltN_set hk h.2, nth_set' hk, if_neg (fun e => h.1 e.symm)]
theorem aftN_len {x : Leg} : ∀ {l : List Nat} {ms : List Mb}, (aftN x l ms).length = ms.length
  | [], _ => rfl
  | k :: l, ms => by rw [aftN, aftN_len, List.length_set]
theorem aftN_at {x : Leg} : ∀ {l : List Nat} {ms : List Mb} {j : Nat}, l.Nodup → (∀ k ∈ l, k < ms.length) → nth (aftN x l ms) j = if j ∈ l then aftM x (nth ms j) else nth ms j
  | [], ms, j, _, _ => by simp [aftN]
  | k :: l, ms, j, hn, hl => by
    have hk := hl k (by simp)
    have hn2 := List.nodup_cons.1 hn
    rw [aftN, aftN_at hn2.2 (fun i hi => by rw [List.length_set]; exact hl i (by simp [hi])), nth_set' hk]
    by_cases e : j = k
    · subst e
      rw [if_neg hn2.1, if_pos rfl, if_pos (by simp)]
    · rw [if_neg e]
      by_cases h : j ∈ l
      · rw [if_pos h, if_pos (by simp [h])]
      · rw [if_neg h, if_neg (by simp [h, e])]
theorem ext_nth {α : Type} [Inhabited α] {a b : List α} (hl : a.length = b.length) (h : ∀ i, i < a.length → nth a i = nth b i) : a = b := by
  refine List.ext_getElem hl fun i h1 h2 => ?_
  have := h i h1
  rwa [nth_eq h1, nth_eq h2] at this
abbrev castL (ns : List Nat) : List Int := ns.map fun (j : Nat) => (j : Int)
structure TeamN (r : Rul) (x : Leg) (ms : List Mb) (k i : Nat) (pl : Int) (ns : List Nat) : Prop where
  len : ns.length = k
  asc : AscN i ms.length ns
  can : ∀ j ∈ ns, canM r x (nth ms j) = true
  plt : x.p ≤ pl + pltN x ms ns
theorem mem_teams {r : Rul} {x : Leg} : ∀ {k i : Nat} {nums : List Int} {pl : Int} {ms : List Mb} {t : Tm}, t ∈ teamsP r x k i nums pl ms ↔ ∃ ns, TeamN r x ms k i pl ns ∧ t = ⟨nums ++ castL ns, pl + pltN x ms ns, aftN x ns ms⟩
  | 0, i, nums, pl, ms, t => by
    unfold teamsP
    constructor
    · intro h
      split at h
      · rename_i hp
        rw [List.mem_singleton.1 h]
        exact ⟨[], ⟨rfl, trivial, by simp, by simpa [pltN] using hp⟩, by simp [castL, pltN, aftN]⟩
      · cases h
    · rintro ⟨ns, h, e⟩
      obtain rfl := List.length_eq_zero_iff.1 h.len
      have hp := h.plt
      rw [show pl + pltN x ms [] = pl from Int.add_zero pl] at hp
      rw [if_pos hp, e]
      simp [castL, pltN, aftN]
  | k + 1, i, nums, pl, ms, t => by
    unfold teamsP
    rw [List.mem_flatMap]
    constructor
    · rintro ⟨j, hj, h⟩
      rw [List.mem_range'_1] at hj
      split at h
      · rename_i hc
        obtain ⟨ns, h1, e⟩ := mem_teams.1 h
        have hjl : j < ms.length := by omega
        have hasc := h1.asc; rw [List.length_set] at hasc
        have hnj : j ∉ ns := fun q => by have := hasc.mem q; omega
        refine ⟨j :: ns, ⟨by simp [h1.len], ⟨by omega, hjl, hasc⟩, fun a ha => ?_, ?_⟩, ?_⟩
        · rcases List.mem_cons.1 ha with q | q
          · rw [q]; exact hc
          · have h2 := h1.can a q
            rwa [nth_set' hjl, if_neg (fun e : a = j => hnj (e ▸ q))] at h2
        · have h2 := h1.plt
          rw [pltN_set hjl hnj] at h2
          simp only [pltN]; omega
        · rw [e, pltN_set hjl hnj]
          simp only [castL, List.map_cons, pltN, aftN, List.append_assoc, List.cons_append, List.nil_append]
          rw [Int.add_assoc]
      · cases h
    · rintro ⟨ns, h1, e⟩
      match ns, h1 with
      | j :: ns, h1 =>
        obtain ⟨a1, a2, a3⟩ := h1.asc
        have hnj : j ∉ ns := fun q => by have := a3.mem q; omega
        refine ⟨j, List.mem_range'_1.2 ⟨a1, by omega⟩, ?_⟩
        rw [if_pos (h1.can j (by simp))]
        refine mem_teams.2 ⟨ns, ⟨by have := h1.len; simpa using this, by rw [List.length_set]; exact a3, fun a ha => ?_, ?_⟩, ?_⟩
        · rw [nth_set' a2, if_neg (fun e : a = j => hnj (e ▸ ha))]; exact h1.can a (by simp [ha])
        · have h2 := h1.plt
          rw [pltN_set a2 hnj]
          simp only [pltN] at h2; omega
        · rw [e, pltN_set a2 hnj]
          simp only [castL, List.map_cons, pltN, aftN, List.append_assoc, List.cons_append, List.nil_append]
          rw [Int.add_assoc]
def planOk (r : Rul) : List Leg → List Mb → List (List Nat) → Prop
  | [], _, p => p = []
  | x :: xs, ms, p => ∃ ns p', p = ns :: p' ∧ TeamN r x ms x.h.toNat 0 0 ns ∧ planOk r xs (aftN x ns ms) p'
def Fe (r : Rul) (xs : List Leg) (ms : List Mb) : Prop := ∃ p, planOk r xs ms p
theorem Fe_cons {r : Rul} {x : Leg} {xs : List Leg} {ms : List Mb} : Fe r (x :: xs) ms ↔ ∃ t ∈ teamsP r x x.h.toNat 0 [] 0 ms, Fe r xs t.ms := by
  constructor
  · rintro ⟨p, ns, p', _, h1, h2⟩
    exact ⟨_, mem_teams.2 ⟨ns, h1, rfl⟩, p', h2⟩
  · rintro ⟨t, ht, p', h2⟩
    obtain ⟨ns, h1, e⟩ := mem_teams.1 ht
    subst e
    exact ⟨ns :: p', ns, p', rfl, h1, h2⟩
theorem Fe_nil {r : Rul} {ms : List Mb} : Fe r [] ms := ⟨[], rfl⟩
theorem tryF_some {f : Tm → Nat → Option (List (List Int)) × Nat} : ∀ {ts : List Tm} {u : Nat} {q : List (List Int)}, (tryF f ts u).1 = some q → ∃ t ∈ ts, ∃ u p, (f t u).1 = some p ∧ q = t.nums :: p
  | [], _, _, h => by cases h
  | t :: ts, u, q, h => by
    rw [tryF] at h
    rcases hf : f t u with ⟨_ | p, u'⟩ <;> rw [hf] at h
    · obtain ⟨t', ht, r⟩ := tryF_some h
      exact ⟨t', by simp [ht], r⟩
    · exact ⟨t, by simp, u, p, by rw [hf], by simpa using h.symm⟩
theorem tryF_none {f : Tm → Nat → Option (List (List Int)) × Nat} : ∀ {ts : List Tm} {u : Nat}, (tryF f ts u).1 = none → ∀ t ∈ ts, ∃ u, (f t u).1 = none
  | t :: ts, u, h, t', ht => by
    rw [tryF] at h
    rcases hf : f t u with ⟨_ | p, u'⟩ <;> rw [hf] at h
    · rcases List.mem_cons.1 ht with e | ht
      · exact ⟨u, by rw [e, hf]⟩
      · exact tryF_none h t' ht
    · cases h
theorem asg_some {r : Rul} : ∀ {xs : List Leg} {ms : List Mb} {k u : Nat} {q : List (List Int)}, (asgP r xs ms k u).1 = some q → ∃ p, planOk r xs ms p ∧ q = p.map castL
  | [], _, _, _, q, h => ⟨[], rfl, by have : some [] = some q := h; injection this with e; exact e.symm⟩
  | x :: xs, ms, k, u, q, h => by
    obtain ⟨t, ht, u1, p, h1, rfl⟩ := tryF_some h
    obtain ⟨ns, h2, rfl⟩ := mem_teams.1 ht
    obtain ⟨p', h3, rfl⟩ := asg_some h1
    exact ⟨ns :: p', ⟨ns, p', rfl, h2, h3⟩, rfl⟩
theorem asg_iff {r : Rul} : ∀ {xs : List Leg} {ms : List Mb} {k u : Nat}, (asgP r xs ms k u).1 = none ↔ ¬ Fe r xs ms
  | [], _, _, _ => ⟨fun h => (by cases h), fun h => absurd Fe_nil h⟩
  | x :: xs, ms, k, u => by
    constructor
    · rintro h hf
      obtain ⟨t, ht, h1⟩ := Fe_cons.1 hf
      obtain ⟨u1, h2⟩ := tryF_none h t ht
      exact asg_iff.1 h2 h1
    · intro h
      cases hq : (asgP r (x :: xs) ms k u).1 with
      | none => rfl
      | some q => obtain ⟨p, hp, _⟩ := asg_some hq; exact absurd ⟨p, hp⟩ h
theorem sf_iff {r : Rul} {xs : List Leg} {ms : List Mb} : sfP r xs ms = true ↔ Fe r xs ms := by
  unfold sfP
  cases hq : (asgP r xs ms 0 0).1 with
  | none => exact ⟨fun h => (by cases h), fun h => absurd h (asg_iff.1 hq)⟩
  | some q => exact ⟨fun _ => (by obtain ⟨p, hp, _⟩ := asg_some hq; exact ⟨p, hp⟩), fun _ => rfl⟩
def dep (r : Rul) : List Leg → List Mb → Nat
  | [], _ => 0
  | x :: xs, ms => (teamsP r x x.h.toNat 0 [] 0 ms).foldl (fun d t => max d (1 + dep r xs t.ms)) 0
-- verifying
theorem nth_map2 {α β : Type} [Inhabited α] [Inhabited β] (f : α → β) {l : List α} {i : Nat} (h : i < l.length) : nth (l.map f) i = f (nth l i) := nth_map' f h

end Go.Proofs.YtagmodjadmecdaaGreat
