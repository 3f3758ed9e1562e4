/-
  Part 17 of the proof: contracts and plain laws. Conditions: none.
-/
import Derived.Test.YtgoajalaomakpaaGreatIK16
namespace Go.Proofs.YtgoajalaomakpaaGreat
open Go Go.RowKit

/-- Messages that have the same members as the reports of calls. -/
def Cov (X : Nat → Cll) (S : Nat → List T2) (n : Nat) (p : Nat → Bool) (l : List Msg) : Prop := ∃ cor, ∀ y, y ∈ l ↔ ∃ j : Nat, j < n ∧ p j = true ∧ y ∈ rpP (j : Int) cor (X j) (S j)
def OkXS (X : Nat → Cll) (S : Nat → List T2) (n : Nat) : Prop := ∀ j : Nat, j < n → okCll (X j) ∧ ∀ y ∈ S j, okU2 y
theorem Cov.same {X : Nat → Cll} {S : Nat → List T2} {n : Nat} {p : Nat → Bool} {l l2 : List Msg} (h : Cov X S n p l) (he : ∀ y, y ∈ l2 ↔ y ∈ l) : Cov X S n p l2 := h.elim fun cor h => ⟨cor, fun y => (he y).trans (h y)⟩
theorem Cov.ok {X : Nat → Cll} {S : Nat → List T2} {n : Nat} {p : Nat → Bool} {l : List Msg} (h : Cov X S n p l) (hx : OkXS X S n) (hn : n ≤ 10) {y : Msg} (hy : y ∈ l) : okMsg y = true ∧ ∃ j : Nat, j < n ∧ p j = true ∧ y.c = (j : Int) := by
  obtain ⟨cor, h⟩ := h
  obtain ⟨j, hj, hp, hm⟩ := (h y).1 hy
  have := rpP_ok (hx j hj).1 (hx j hj).2 (c := (j : Int)) (by omega) hm
  exact ⟨this.1, j, hj, hp, this.2⟩
theorem Cov.rd {X : Nat → Cll} {S : Nat → List T2} {n : Nat} {p : Nat → Bool} {l : List Msg} (h : Cov X S n p l) (hx : OkXS X S n) (hn : n ≤ 10) (hl : l.length ≤ 100) : rdE l = 0 := by
  unfold rdE
  rw [if_neg (by omega), if_neg]
  intro q
  obtain ⟨y, hy, e⟩ := List.any_eq_true.1 q
  simp [(h.ok hx hn hy).1] at e
theorem Cov.noEd {X : Nat → Cll} {S : Nat → List T2} {n : Nat} {p : Nat → Bool} {l : List Msg} (h : Cov X S n p l) (hx : OkXS X S n) (hn : n ≤ 10) : NoEd l := by
  obtain ⟨cor, h⟩ := h
  intro a ha b hb e
  obtain ⟨i, hi, _, ha⟩ := (h a).1 ha
  obtain ⟨j, hj, _, hb⟩ := (h b).1 hb
  have h1 := (rpP_ok (hx i hi).1 (hx i hi).2 (c := (i : Int)) (by omega) ha).2
  have h2 := (rpP_ok (hx j hj).1 (hx j hj).2 (c := (j : Int)) (by omega) hb).2
  have h3 : a.c = b.c := congrArg Prod.fst e
  obtain rfl : i = j := by omega
  exact rpP_noEd a ha b hb e
theorem Cov.last {X : Nat → Cll} {S : Nat → List T2} {n : Nat} {p : Nat → Bool} {l : List Msg} (h : Cov X S n p l) (hx : OkXS X S n) (hn : n ≤ 10) {y : Msg} : LastIn l y ↔ ∃ j : Nat, j < n ∧ p j = true ∧ fcP (j : Int) (X j) (S j) y := by
  obtain ⟨cor, h⟩ := h
  constructor
  · rintro ⟨h1, h2, h3⟩
    obtain ⟨j, hj, hp, hm⟩ := (h y).1 h1
    exact ⟨j, hj, hp, rpP_last.1 ⟨hm, h2, fun m hm2 => h3 m ((h m).2 ⟨j, hj, hp, hm2⟩)⟩⟩
  · rintro ⟨j, hj, hp, hf⟩
    obtain ⟨h1, h2, h3⟩ := rpP_last (cor := cor).2 hf
    refine ⟨(h y).2 ⟨j, hj, hp, h1⟩, h2, fun m hm e1 e2 => ?_⟩
    obtain ⟨i, hi, _, hm⟩ := (h m).1 hm
    have q1 := (rpP_ok (hx i hi).1 (hx i hi).2 (c := (i : Int)) (by omega) hm).2
    have q2 := (rpP_ok (hx j hj).1 (hx j hj).2 (c := (j : Int)) (by omega) h1).2
    obtain rfl : i = j := by omega
    exact h3 m hm e1 e2
theorem Cov.err {X : Nat → Cll} {S : Nat → List T2} {n : Nat} {p : Nat → Bool} {l o : List Msg} {e : Int} (h : Cov X S n p l) (hx : OkXS X S n) (hn : n ≤ 10) (hl : l.length ≤ 100) (hR : RdR l o e) : e = 0 := by
  rcases hR.err with ⟨q, _⟩ | ⟨_, q, _⟩ | ⟨_, _, q⟩
  · exact absurd (h.rd hx hn hl) q
  · exact absurd (h.noEd hx hn) q
  · exact q
theorem Cov.rpo {X : Nat → Cll} {S : Nat → List T2} {n : Nat} {p : Nat → Bool} {l out : List Msg} (h : Cov X S n p l) (hx : OkXS X S n) (hn : n ≤ 10) (hR : RdR l out 0) {k : Nat} (hk : k < n) (hp : p k = true) : RpO (k : Int) (X k) (S k) (ofC out k) := by
  obtain ⟨_, _, h3, h4⟩ := hR.spec
  refine ⟨List.Pairwise.filter _ h3, fun y => ?_⟩
  unfold ofC
  rw [List.mem_filter, h4, h.last hx hn, Bool.not_not, decide_eq_true_eq]
  have key : ∀ j : Nat, j < n → fcP (j : Int) (X j) (S j) y → y.c = (j : Int) := fun j hj hf => (rpP_ok (cor := false) (hx j hj).1 (hx j hj).2 (c := (j : Int)) (by omega) (mem_rpP.2 (.inl hf))).2
  constructor
  · rintro ⟨⟨j, hj, _, hf⟩, e⟩
    have := key j hj hf
    obtain rfl : j = k := by omega
    exact hf
  · exact fun hf => ⟨⟨k, hk, hp, hf⟩, key k hk hf⟩
theorem Cov.has {X : Nat → Cll} {S : Nat → List T2} {n : Nat} {p : Nat → Bool} {l : List Msg} (h : Cov X S n p l) (hx : OkXS X S n) (hn : n ≤ 10) {k : Nat} (hk : k < n) : hasC l k = p k := by
  rw [Bool.eq_iff_iff]
  unfold hasC
  rw [List.any_eq_true]
  constructor
  · rintro ⟨y, hy, e⟩
    obtain ⟨_, j, _, hp, e2⟩ := h.ok hx hn hy
    rw [decide_eq_true_eq] at e
    obtain rfl : j = k := by omega
    exact hp
  · intro hp
    obtain ⟨cor, h⟩ := h
    exact ⟨noM (k : Int) ((X k).n % 1000), (h _).2 ⟨k, hk, hp, mem_rpP.2 (.inl (fcP_cases.2 (.inl rfl)))⟩, decide_eq_true rfl⟩
/-- A call's bill. -/
def blC (x : Cll) (ss : List T2) (fr : List Fre) : Bl := blP (tmC x) (tmW x) x.v0 (x.v1 % 400) (ltP x ss fr)
theorem RpO.bill {c : Int} {x : Cll} {ss : List T2} {out : List Msg} {fr : List Fre} {b : Bl} {e : Int} (h : RpO c x ss out) (hx : okCll x) (hs : ∀ y ∈ ss, okU2 y) (hb : BlF (tmC x) (tmW x) fr out b e) : e = 0 ∧ b = blC x ss fr := by
  obtain ⟨o1, o2⟩ := h.open hx hs fr
  have k1 : gtG (onS out out.length) 1 = some (noM c (x.n % 1000)) := h.get (fcP_cases.2 (.inl rfl)) (by show ¬ ((1 : Int) = 2 ∨ (1 : Int) = 3); decide)
  have k4 : gtG (onS out out.length) 4 = some (enM c (x.n % 1000) x ss) := h.get (fcP_cases.2 (.inr (.inr (.inl rfl)))) (by show ¬ ((4 : Int) = 2 ∨ (4 : Int) = 3); decide)
  have k5 : gtG (onS out out.length) 5 = some (toM c x) := h.get (fcP_cases.2 (.inr (.inr (.inr (.inl rfl))))) (by show ¬ ((5 : Int) = 2 ∨ (5 : Int) = 3); decide)
  have k6 : gtG (onS out out.length) 6 = some (leM c x) := h.get (fcP_cases.2 (.inr (.inr (.inr (.inr rfl))))) (by show ¬ ((6 : Int) = 2 ∨ (6 : Int) = 3); decide)
  obtain ⟨n1, en, g1, g4, hb⟩ := hb
  rw [k1] at g1
  rw [k4] at g4
  simp only [Option.some.injEq] at g1 g4
  subst g1 g4
  rcases hb with ⟨_, _, q | ⟨q, _⟩⟩ | ⟨e0, t5, g5, _, hb⟩
  · rw [k5] at q; cases q
  · rw [k6] at q; cases q
  · rw [k5] at g5
    simp only [Option.some.injEq] at g5
    subst g5
    refine ⟨e0, ?_⟩
    have e6 : lvP (onS out out.length) = x.v1 % 400 := by unfold lvP; rw [k6]; rfl
    rw [hb, o2, e6]
    rfl
/-- What a bill keeps. -/
structure BlOk (x : Cll) (ss : List T2) (fr : List Fre) : Prop where
  t : (blC x ss fr).t = (blC x ss fr).f + (blC x ss fr).o + (blC x ss fr).d - (blC x ss fr).e
  b : (0 ≤ (blC x ss fr).f ∧ (blC x ss fr).f ≤ 10000000000000) ∧ (0 ≤ (blC x ss fr).o ∧ (blC x ss fr).o ≤ 100000000000001) ∧ (0 ≤ (blC x ss fr).d ∧ (blC x ss fr).d ≤ 10000000000000) ∧ (0 ≤ (blC x ss fr).e ∧ (blC x ss fr).e ≤ 10000000000000)
  c : 0 ≤ (blC x ss fr).c ∧ (blC x ss fr).c ≤ (blC x ss fr).f + (blC x ss fr).o
  d : (ltP x ss fr).o = 0 → (blC x ss fr).d = 0
  e : (ltP x ss fr).s = 0 → (blC x ss fr).e = 0
  f : (tmC x).r * (tmC x).n ≤ (blC x ss fr).f
  r : 0 ≤ (tmC x).r * (tmC x).n
  l : ¬ (0 < (ltP x ss fr).o ∧ 0 < (ltP x ss fr).s)
theorem ltP_bd {x : Cll} {ss : List T2} {fr : List Fre} (hx : okCll x) (hs : ∀ y ∈ ss, okU2 y) : (0 ≤ (ltP x ss fr).o ∧ (ltP x ss fr).o ≤ 100000) ∧ (0 ≤ (ltP x ss fr).s ∧ (ltP x ss fr).s ≤ 100000) ∧ ¬ (0 < (ltP x ss fr).o ∧ 0 < (ltP x ss fr).s) := by
  obtain ⟨h1, h2, h3, h4, h5⟩ := ltP_ok (ss := ss) (fr := fr) hx
  have he := rpA_bd (a := x.n % 1000) (ss := ss) (by unfold okCll at hx; omega) hs (k := min ss.length 8) (by omega)
  have hen : enT x ss = rpA (x.n % 1000) ss (min ss.length 8) + x.e % 2500 := rfl
  have hsv : 0 < (ltP x ss fr).o ∨ (ltP x ss fr).o = 0 := by omega
  rcases hsv with q | q
  · have := (h3.2 q)
    unfold okCll at hx
    omega
  · have := h4 q
    unfold okCll at hx
    omega
theorem blC_ok {x : Cll} {ss : List T2} {fr : List Fre} (hx : okCll x) (hs : ∀ y ∈ ss, okU2 y) : BlOk x ss fr := by
  have hcr := okCh_rng (tmC_ok hx)
  obtain ⟨l1, l2, l3⟩ := ltP_bd (fr := fr) hx hs
  have hv : 0 ≤ x.v0 ∧ x.v0 ≤ 65535 := by unfold okCll at hx; omega
  have hmx : 0 ≤ max x.v0 (tmC x).n ∧ max x.v0 (tmC x).n ≤ 1000000 := by omega
  have hfr := mul_bd hcr.2.2.1 hmx
  have hb1 := mul_bd hfr (pctP_bd (tmC_ok hx) (x.v1 % 400))
  have hb2 := rnd2_h hb1
  have hd2 := rnd2_d (mul_bd l1 hcr.2.2.2.2.2.1.1)
  have he2 := rnd2_d (mul_bd l2 hcr.2.2.2.2.2.1.2)
  have hm : 0 ≤ (tmC x).m ∧ (tmC x).m ≤ 100 := by unfold okCll at hx; simp only [tmC]; omega
  have h0 : 0 ≤ (tmC x).r * max x.v0 (tmC x).n + rnd2 ((tmC x).r * max x.v0 (tmC x).n * pctP (tmW x) (x.v1 % 400)) 100 := by omega
  have hc := Int.mul_le_mul_of_nonneg_left hm.2 h0
  have hc0 := Int.mul_nonneg h0 hm.1
  have hf := Int.mul_le_mul_of_nonneg_left (show (tmC x).n ≤ max x.v0 (tmC x).n by omega) hcr.2.2.1.1
  refine ⟨rfl, ⟨by simp only [blC, blP]; omega, by simp only [blC, blP]; omega, by simp only [blC, blP]; omega, by simp only [blC, blP]; omega⟩, ?_, fun q => ?_, fun q => ?_, hf, Int.mul_nonneg hcr.2.2.1.1 (by omega), l3⟩
  · simp only [blC, blP]
    unfold rnd2 at *
    omega
  · simp only [blC, blP]
    rw [q, Int.zero_mul]
    decide
  · simp only [blC, blP]
    rw [q, Int.zero_mul]
    decide
theorem nth_setC {α : Type} [Inhabited α] {xs : List α} {i j : Nat} {v : α} (h : j < xs.length) : nth (xs.set i v) j = if i = j then v else nth xs j := by
  rw [nth_eq (by rw [List.length_set]; exact h), nth_eq h, List.getElem_set]
/-- The parties' balances. -/
def baP (p : Nat → Bool) (X : Nat → Cll) (S : Nat → List T2) (fr : List Fre) : Nat → List Int
  | 0 => List.replicate 100 0
  | k + 1 => if p k = true then balN (baP p X S fr k) (tmC (X k)) (blC (X k) (S k) fr) else baP p X S fr k
def dlt (c : Chr) (x : Bl) (j : Nat) : Int := (if c.s.toNat = j then -x.t else 0) + (if c.c.toNat = j then x.t - x.c else 0) + (if c.k.toNat = j then x.c else 0)
theorem balN_len {b : List Int} {c : Chr} {x : Bl} : (balN b c x).length = b.length := by
  unfold balN
  rw [List.length_set, List.length_set, List.length_set]
theorem set_add {b : List Int} {i j : Nat} {v : Int} (hj : j < b.length) : nth (b.set i (nth b i + v)) j = nth b j + if i = j then v else 0 := by
  rw [nth_setC hj]
  by_cases q : i = j
  · subst q; rw [if_pos rfl, if_pos rfl]
  · rw [if_neg q, if_neg q, Int.add_zero]
theorem balN_nth {b : List Int} {c : Chr} {x : Bl} {j : Nat} (hj : j < b.length) : nth (balN b c x) j = nth b j + dlt c x j := by
  unfold balN dlt
  rw [Int.sub_eq_add_neg (a := nth b c.s.toNat), set_add (by rw [List.length_set, List.length_set]; exact hj), set_add (by rw [List.length_set]; exact hj), set_add hj]
  omega
theorem baP_len {p : Nat → Bool} {X : Nat → Cll} {S : Nat → List T2} {fr : List Fre} : ∀ k, (baP p X S fr k).length = 100
  | 0 => List.length_replicate ..
  | k + 1 => by
    unfold baP
    split
    · rw [balN_len, baP_len k]
    · exact baP_len k
theorem nth_zero {j : Nat} : nth (List.replicate 100 (0 : Int)) j = 0 := by
  rcases Nat.lt_or_ge j 100 with q | q
  · rw [nth_eq (by rw [List.length_replicate]; exact q), List.getElem_replicate]
  · show (List.replicate 100 (0 : Int)).getD j 0 = 0
    rw [List.getD_eq_getElem?_getD, List.getElem?_eq_none (by rw [List.length_replicate]; exact q)]
    rfl
theorem ext_nth {xs ys : List Int} (h : xs.length = ys.length) (h2 : ∀ j, j < xs.length → nth xs j = nth ys j) : xs = ys := List.ext_getElem h fun j h3 h4 => by rw [← nth_eq h3, ← nth_eq h4]; exact h2 j h3
/-- One charter settled alone. -/
theorem baP_one {X : Nat → Cll} {S : Nat → List T2} {fr : List Fre} {i : Nat} : ∀ k, baP (fun j => decide (j = i)) X S fr k = if i < k then balN (List.replicate 100 0) (tmC (X i)) (blC (X i) (S i) fr) else List.replicate 100 0
  | 0 => rfl
  | k + 1 => by
    unfold baP
    rw [baP_one k]
    by_cases q : k = i
    · subst q
      rw [if_pos (decide_eq_true rfl), if_neg (Nat.lt_irrefl _), if_pos (Nat.lt_succ_self _)]
    · rw [decide_eq_false q, if_neg Bool.false_ne_true]
      by_cases q2 : i < k
      · rw [if_pos q2, if_pos (by omega)]
      · rw [if_neg q2, if_neg (by omega)]
/-- Another's balances added, party by party. -/
def adK (b y : List Int) : Nat → List Int
  | 0 => b
  | k + 1 => (adK b y k).set k (nth (adK b y k) k + nth y k)
theorem adK_at {b y : List Int} : ∀ {k : Nat}, k ≤ b.length → (adK b y k).length = b.length ∧ ∀ j, j < b.length → nth (adK b y k) j = nth b j + if j < k then nth y j else 0
  | 0, _ => ⟨rfl, fun j _ => by rw [if_neg (Nat.not_lt_zero j), Int.add_zero]; rfl⟩
  | k + 1, h => by
    obtain ⟨h1, h2⟩ := adK_at (b := b) (y := y) (k := k) (by omega)
    refine ⟨by rw [adK, List.length_set, h1], fun j hj => ?_⟩
    rw [adK, nth_setC (by rw [h1]; exact hj)]
    by_cases q : k = j
    · subst q
      rw [if_pos rfl, h2 k hj, if_neg (Nat.lt_irrefl _), if_pos (Nat.lt_succ_self _)]; omega
    · rw [if_neg q, h2 j hj]
      by_cases q2 : j < k
      · rw [if_pos q2, if_pos (by omega)]
      · rw [if_neg q2, if_neg (by omega)]
theorem baP_add {X : Nat → Cll} {S : Nat → List T2} {fr : List Fre} {i n : Nat} (hi : i < n) : adK (baP (fun _ => true) X S fr i) (baP (fun j => decide (j = i)) X S fr n) 100 = baP (fun _ => true) X S fr (i + 1) := by
  obtain ⟨h1, h2⟩ := adK_at (b := baP (fun _ => true) X S fr i) (y := baP (fun j => decide (j = i)) X S fr n) (k := 100) (by rw [baP_len]; omega)
  rw [baP_len] at h1 h2
  refine ext_nth (by rw [h1, baP_len]) fun j hj => ?_
  rw [h1] at hj
  rw [h2 j hj, if_pos hj, baP_one, if_pos hi, balN_nth (by rw [List.length_replicate]; exact hj), nth_zero]
  have e : baP (fun _ => true) X S fr (i + 1) = balN (baP (fun _ => true) X S fr i) (tmC (X i)) (blC (X i) (S i) fr) := by rw [baP, if_pos rfl]
  rw [e, balN_nth (by rw [baP_len]; exact hj)]
  omega
/-- The sum of all balances. -/
def smK (b : List Int) : Nat → Int
  | 0 => 0
  | k + 1 => smK b k + nth b k
def smF (f : Nat → Int) : Nat → Int
  | 0 => 0
  | k + 1 => smF f k + f k
theorem smF_one {i : Nat} {v : Int} : ∀ k, smF (fun j => if i = j then v else 0) k = if i < k then v else 0
  | 0 => rfl
  | k + 1 => by
    rw [smF, smF_one k]
    by_cases q : i = k
    · rw [if_pos q, if_neg (by omega), if_pos (by omega)]; omega
    · rw [if_neg q]
      by_cases q2 : i < k
      · rw [if_pos q2, if_pos (by omega)]; omega
      · rw [if_neg q2, if_neg (by omega)]; omega
theorem smF_add {f g : Nat → Int} : ∀ k, smF (fun j => f j + g j) k = smF f k + smF g k
  | 0 => rfl
  | k + 1 => by rw [smF, smF, smF, smF_add k]; omega
theorem smK_up {b : List Int} {c : Chr} {x : Bl} (hb : b.length = 100) : ∀ k, k ≤ 100 → smK (balN b c x) k = smK b k + smF (dlt c x) k
  | 0, _ => rfl
  | k + 1, h => by
    rw [smK, smK, smF, smK_up hb k (by omega), balN_nth (by omega)]; omega
theorem dlt_sum {c : Chr} {x : Bl} (h : c.s.toNat < 100 ∧ c.c.toNat < 100 ∧ c.k.toNat < 100) : smF (dlt c x) 100 = 0 := by
  have e : dlt c x = fun j => ((if c.s.toNat = j then -x.t else 0) + (if c.c.toNat = j then x.t - x.c else 0)) + (if c.k.toNat = j then x.c else 0) := rfl
  rw [e, smF_add, smF_add, smF_one, smF_one, smF_one, if_pos h.1, if_pos h.2.1, if_pos h.2.2]
  omega
theorem smK_zero : ∀ k, smK (List.replicate 100 0) k = 0
  | 0 => rfl
  | k + 1 => by rw [smK, smK_zero k, nth_zero]; rfl
theorem baP_sum {p : Nat → Bool} {X : Nat → Cll} {S : Nat → List T2} {fr : List Fre} : ∀ {k}, OkXS X S k → smK (baP p X S fr k) 100 = 0
  | 0, _ => smK_zero 100
  | k + 1, h => by
    have ih := baP_sum (p := p) (fr := fr) (k := k) fun j hj => h j (by omega)
    unfold baP
    split
    · rw [smK_up (baP_len k) 100 (Nat.le_refl _), ih, dlt_sum]
      · rfl
      · have := (h k (by omega)).1
        unfold okCll at this
        simp only [tmC]
        omega
    · exact ih
theorem dlt_bd {c : Chr} {x : Bl} {j : Nat} {B : Int} (ht : -B ≤ x.t ∧ x.t ≤ B) (hc : 0 ≤ x.c ∧ x.c ≤ B) : -(4 * B) ≤ dlt c x j ∧ dlt c x j ≤ 4 * B := by
  unfold dlt
  split <;> split <;> split <;> omega
theorem blC_bd {x : Cll} {ss : List T2} {fr : List Fre} (hx : okCll x) (hs : ∀ y ∈ ss, okU2 y) : (-100000000000000 ≤ (blC x ss fr).t ∧ (blC x ss fr).t ≤ 100000000000000) ∧ (0 ≤ (blC x ss fr).c ∧ (blC x ss fr).c ≤ 100000000000000) := by
  obtain ⟨l1, l2, _⟩ := ltP_bd (fr := fr) hx hs
  exact blP_bd (tmC_ok hx) (by unfold okCll at hx; omega) l1 l2
theorem baP_bd {p : Nat → Bool} {X : Nat → Cll} {S : Nat → List T2} {fr : List Fre} {j : Nat} (hj : j < 100) : ∀ {k}, OkXS X S k → -(400000000000000 * (k : Int)) ≤ nth (baP p X S fr k) j ∧ nth (baP p X S fr k) j ≤ 400000000000000 * (k : Int)
  | 0, _ => by
    unfold baP
    rw [nth_zero]; omega
  | k + 1, h => by
    have ih := baP_bd (p := p) (fr := fr) hj (k := k) fun j hj => h j (by omega)
    unfold baP
    split
    · obtain ⟨b1, b2⟩ := blC_bd (fr := fr) (h k (by omega)).1 (h k (by omega)).2
      have := dlt_bd (c := tmC (X k)) (j := j) b1 b2
      rw [balN_nth (by rw [baP_len]; exact hj)]
      omega
    · omega
theorem smK_bd {b : List Int} {B : Int} (hb : ∀ j, j < 100 → -B ≤ nth b j ∧ nth b j ≤ B) : ∀ {k : Nat}, k ≤ 100 → -(B * (k : Int)) ≤ smK b k ∧ smK b k ≤ B * (k : Int)
  | 0, _ => by unfold smK; omega
  | k + 1, h => by
    have h1 := smK_bd hb (k := k) (by omega)
    have h2 := hb k (by omega)
    rw [smK, show B * ((k + 1 : Nat) : Int) = B * (k : Int) + B by rw [Int.natCast_add, Int.mul_add]; simp]
    omega
/-- One charter's messages. -/
theorem Cov.rpo1 {X : Nat → Cll} {S : Nat → List T2} {n i : Nat} {l out : List Msg} (h : Cov X S n (fun j => decide (j = i)) l) (hx : OkXS X S n) (hn : n ≤ 10) (hi : i < n) (hR : RdR l out 0) : RpO (i : Int) (X i) (S i) out := by
  obtain ⟨_, _, h3, h4⟩ := hR.spec
  refine ⟨h3, fun y => ?_⟩
  rw [h4, h.last hx hn]
  constructor
  · rintro ⟨j, hj, hp, hf⟩
    obtain rfl : j = i := of_decide_eq_true hp
    exact hf
  · exact fun hf => ⟨i, hi, decide_eq_true rfl, hf⟩
theorem Cov.one {X : Nat → Cll} {S : Nat → List T2} {n i : Nat} {l : List Msg} (h : Cov X S n (fun j => decide (j = i)) l) (hx : OkXS X S n) (hn : n ≤ 10) : oneC l = true := by
  have key : ∀ y ∈ l, y.c = (i : Int) := fun y hy => by
    obtain ⟨_, j, _, hp, e⟩ := h.ok hx hn hy
    obtain rfl : j = i := of_decide_eq_true hp
    exact e
  unfold oneC
  rw [Bool.not_eq_true', List.any_eq_false]
  intro y hy
  rw [decide_eq_true_eq, key y hy, key _ (nth_mem (List.length_pos_of_mem hy))]
  exact fun q => q rfl
theorem Cov.lt {X : Nat → Cll} {S : Nat → List T2} {n i : Nat} {l : List Msg} {fr : List Fre} {lc : Lc} {e : Int} (h : Cov X S n (fun j => decide (j = i)) l) (hx : OkXS X S n) (hn : n ≤ 10) (hi : i < n) (hl : l.length ≤ 100) (hf : chkFr fr = 0) (hL : LtR (tmC (X i)) (tmW (X i)) fr l lc e) : e = 0 ∧ lc = ltP (X i) (S i) fr := by
  obtain ⟨out, hR, he, hL⟩ := hL.ok (tmC_ok (hx i hi).1) hf (h.rd hx hn hl) (h.noEd hx hn) (h.one hx hn)
  have hO := h.rpo1 hx hn hi hR
  obtain ⟨o1, o2⟩ := hO.open (hx i hi).1 (hx i hi).2 fr
  have e0 : e = 0 := he.trans o1.eq
  rcases hL with ⟨q, _⟩ | ⟨_, n1, en, g1, g4, rfl⟩
  · exact absurd e0 q
  · have k1 : gtG (onS out out.length) 1 = some (noM (i : Int) ((X i).n % 1000)) := hO.get (fcP_cases.2 (.inl rfl)) (by show ¬ ((1 : Int) = 2 ∨ (1 : Int) = 3); decide)
    have k4 : gtG (onS out out.length) 4 = some (enM (i : Int) ((X i).n % 1000) (X i) (S i)) := hO.get (fcP_cases.2 (.inr (.inr (.inl rfl)))) (by show ¬ ((4 : Int) = 2 ∨ (4 : Int) = 3); decide)
    rw [k1] at g1
    rw [k4] at g4
    simp only [Option.some.injEq] at g1 g4
    subst g1 g4
    refine ⟨e0, ?_⟩
    rw [o2]
    rfl
theorem Cov.bi {X : Nat → Cll} {S : Nat → List T2} {n i : Nat} {l : List Msg} {fr : List Fre} {b : Bl} {e : Int} (h : Cov X S n (fun j => decide (j = i)) l) (hx : OkXS X S n) (hn : n ≤ 10) (hi : i < n) (hl : l.length ≤ 100) (hf : chkFr fr = 0) (hB : BiR (tmC (X i)) (tmW (X i)) fr l b e) : e = 0 ∧ b = blC (X i) (S i) fr := by
  obtain ⟨out, hR, hB⟩ := hB.ok (tmC_ok (hx i hi).1) hf (h.rd hx hn hl) (h.noEd hx hn) (h.one hx hn)
  have hO := h.rpo1 hx hn hi hR
  obtain ⟨o1, _⟩ := hO.open (hx i hi).1 (hx i hi).2 fr
  rcases hB with ⟨q, he, _⟩ | ⟨_, hB⟩
  · exact absurd (he.trans o1.eq) q
  · exact hO.bill (hx i hi).1 (hx i hi).2 hB
/-- The reports of the first calls. -/
def rpC (cor : Bool) (X : Nat → Cll) (S : Nat → List T2) : Nat → List Msg
  | 0 => []
  | k + 1 => rpC cor X S k ++ rpP (k : Int) cor (X k) (S k)
theorem mem_rpC {cor : Bool} {X : Nat → Cll} {S : Nat → List T2} {y : Msg} : ∀ {k : Nat}, y ∈ rpC cor X S k ↔ ∃ j : Nat, j < k ∧ y ∈ rpP (j : Int) cor (X j) (S j)
  | 0 => ⟨fun h => (by cases h), fun ⟨_, h, _⟩ => absurd h (Nat.not_lt_zero _)⟩
  | k + 1 => by
    rw [rpC, List.mem_append, mem_rpC (k := k)]
    constructor
    · rintro (⟨j, hj, h⟩ | h)
      · exact ⟨j, by omega, h⟩
      · exact ⟨k, by omega, h⟩
    · rintro ⟨j, hj, h⟩
      rcases Nat.lt_succ_iff_lt_or_eq.1 hj with q | rfl
      · exact .inl ⟨j, q, h⟩
      · exact .inr h
theorem rpC_len {cor : Bool} {X : Nat → Cll} {S : Nat → List T2} : ∀ k, (rpC cor X S k).length ≤ 30 * k
  | 0 => Nat.le_refl _
  | k + 1 => by
    have := rpC_len (cor := cor) (X := X) (S := S) k
    have := rpP_len (c := (k : Int)) (cor := cor) (x := X k) (ss := S k)
    rw [rpC, List.length_append]
    omega
theorem rpC_cov {cor : Bool} {X : Nat → Cll} {S : Nat → List T2} {n : Nat} : Cov X S n (fun _ => true) (rpC cor X S n) := ⟨cor, fun y => by
  rw [mem_rpC]
  exact ⟨fun ⟨j, h1, h2⟩ => ⟨j, h1, rfl, h2⟩, fun ⟨j, h1, _, h2⟩ => ⟨j, h1, h2⟩⟩⟩
theorem rpP_cov {cor : Bool} {X : Nat → Cll} {S : Nat → List T2} {n i : Nat} (hi : i < n) : Cov X S n (fun j => decide (j = i)) (rpP (i : Int) cor (X i) (S i)) := ⟨cor, fun y => ⟨fun h => ⟨i, hi, decide_eq_true rfl, h⟩, fun ⟨j, _, h1, h2⟩ => by
  obtain rfl : j = i := of_decide_eq_true h1
  exact h2⟩⟩
theorem ChB.val {cs : List HC} {fr : List Fre} {out : List Msg} {k : Nat} {b : Bl} {e : Int} {x : Cll} {ss : List T2} (h : ChB cs fr out k b e) (hR : RpO (k : Int) x ss (ofC out k)) (hv : (nth cs k).v = tmC x ∧ (nth cs k).ws = tmW x) (hx : okCll x) (hs : ∀ y ∈ ss, okU2 y) : e = 0 ∧ b = blC x ss fr := by
  obtain ⟨ex, n1, en, hO, g1, g4, hB⟩ := h
  rw [hv.1, hv.2] at hB
  exact hR.bill hx hs (hB.toF (okCh_rng (tmC_ok hx)).2.2.2.2.1.1.1 hO g1 g4)
theorem BaK.val {cs : List HC} {fr : List Fre} {l out : List Msg} {X : Nat → Cll} {S : Nat → List T2} {n : Nat} {p : Nat → Bool} (hc : Cov X S n p l) (hx : OkXS X S n) (hn : n ≤ 10) (hR : RdR l out 0) (hv : ∀ k, k < n → (nth cs k).v = tmC (X k) ∧ (nth cs k).ws = tmW (X k)) : ∀ {k : Nat} {b : List Int}, k ≤ n → BaK cs fr l out k b → b = baP p X S fr k
  | 0, _, _, h => h
  | k + 1, b, hk, h => by
    obtain ⟨b0, h0, h⟩ := h
    have ih := BaK.val hc hx hn hR hv (k := k) (by omega) h0
    have hh := hc.has hx hn (k := k) (by omega)
    unfold baP
    rcases h with ⟨q, rfl⟩ | ⟨q, x, hB, rfl⟩
    · rw [if_neg (by rw [← hh, q]; exact Bool.false_ne_true), ih]
    · rw [if_pos (by rw [← hh, q]), ((hB.val (hc.rpo hx hn hR (by omega) (by rw [← hh, q])) (hv k (by omega)) (hx k (by omega)).1 (hx k (by omega)).2)).2, ih, (hv k (by omega)).1]
theorem BalR.val {cs : List HC} {fr : List Fre} {l : List Msg} {b : List Int} {e : Int} (h : BalR cs fr l b e) {X : Nat → Cll} {S : Nat → List T2} {n : Nat} {p : Nat → Bool} (hc : Cov X S n p l) (hl : l.length ≤ 100) (hx : OkXS X S n) (hn : n ≤ 10) (hcs : cs.length = n) (hv : ∀ k, k < n → (nth cs k).v = tmC (X k) ∧ (nth cs k).ws = tmW (X k)) (hf : chkFr fr = 0) : e = 0 ∧ b = baP p X S fr n := by
  rcases h with ⟨q, _⟩ | ⟨_, q, _⟩ | ⟨_, _, ⟨q, _⟩ | ⟨_, ⟨he, _, o, hR⟩ | ⟨out, hR, ⟨q, _⟩ | ⟨_, ⟨he, _, k, b0, hk, _, hh, q⟩ | ⟨he, hB⟩⟩⟩⟩⟩
  · omega
  · obtain ⟨h, hm, q⟩ := List.any_eq_true.1 q
    obtain ⟨i, hi, rfl⟩ := List.mem_iff_getElem.1 hm
    rw [decide_eq_true_eq, ← nth_eq hi, (hv i (by omega)).1, (hv i (by omega)).2] at q
    exact absurd (tmC_ok (hx i (by omega)).1) q
  · exact absurd hf q
  · exact absurd (hc.err hx hn hl hR) he
  · obtain ⟨y, hy, q⟩ := List.any_eq_true.1 q
    rw [decide_eq_true_eq] at q
    obtain ⟨_, j, hj, _, e⟩ := hc.ok hx hn hy
    omega
  · have hp : p k = true := by rw [← hc.has hx hn (k := k) (by omega)]; exact hh
    have hO := hc.rpo hx hn hR (k := k) (by omega) hp
    rcases q with q | ⟨x, q⟩
    · have := q.eq
      rw [(hO.open (hx k (by omega)).1 (hx k (by omega)).2 fr).1.eq] at this
      exact absurd this.1 this.2
    · exact absurd (q.val hO (hv k (by omega)) (hx k (by omega)).1 (hx k (by omega)).2).1 he
  · rw [hcs] at hB
    exact ⟨he, BaK.val hc hx hn hR hv (Nat.le_refl _) hB⟩

end Go.Proofs.YtgoajalaomakpaaGreat
namespace Go.Proofs.YtgoajalaomakpaaGreat
open Go Go.RowKit

theorem mem_nth {α : Type} [Inhabited α] {xs : List α} {y : α} : y ∈ xs ↔ ∃ i, i < xs.length ∧ nth xs i = y := by
  rw [List.mem_iff_getElem]
  exact ⟨fun ⟨i, hi, e⟩ => ⟨i, hi, (nth_eq hi).trans e⟩, fun ⟨i, hi, e⟩ => ⟨i, hi, (nth_eq hi).symm.trans e⟩⟩
theorem nodup_le {α : Type} : ∀ {xs ys : List α}, xs.Nodup → (∀ x ∈ xs, x ∈ ys) → xs.length ≤ ys.length
  | [], _, _, _ => Nat.zero_le _
  | x :: xs, ys, hn, h => by
    obtain ⟨s, t, rfl⟩ := List.append_of_mem (h x (by simp))
    rw [List.nodup_cons] at hn
    have := nodup_le (xs := xs) (ys := s ++ t) hn.2 fun z hz => by
      have h1 := h z (List.mem_cons_of_mem _ hz)
      rw [List.mem_append, List.mem_cons] at h1
      rw [List.mem_append]
      rcases h1 with q | q | q
      · exact .inl q
      · rw [q] at hz; exact absurd hz hn.1
      · exact .inr q
    rw [List.length_append] at this
    rw [List.length_append, List.length_cons, List.length_cons]
    omega
theorem pw_nodup {l : List Msg} (h : l.Pairwise FLt) : l.Nodup := h.imp fun {a b} q e => by
  subst e
  exact FLt.asym _ _ q q
theorem rpP_nodup {c : Int} {x : Cll} {ss : List T2} (hx : okCll x) (hs : ∀ y ∈ ss, okU2 y) : (rpP c false x ss).Nodup := by
  obtain ⟨h1, h2⟩ := mnL_pw (c := c) hx hs
  have e : rpP c false x ss = mnL c x ss ++ [toM c x, leM c x] := by
    unfold rpP mnL
    rw [if_neg Bool.false_ne_true, List.append_nil, List.append_assoc]
    rfl
  rw [e]
  refine List.pairwise_append.2 ⟨pw_nodup h1, ?_, fun a ha b hb q => ?_⟩
  · refine List.pairwise_pair.2 fun q => ?_
    have := congrArg Msg.n q
    exact absurd this (by show ¬ (600 : Int) = 601; decide)
  · have h3 := h2 a ha
    rw [q] at h3
    rcases List.mem_cons.1 hb with rfl | hb
    · exact absurd h3 (by show ¬ (5 : Int) ≤ 4; decide)
    · rw [List.mem_singleton.1 hb] at h3
      exact absurd h3 (by show ¬ (6 : Int) ≤ 4; decide)
theorem rpC_nodup {X : Nat → Cll} {S : Nat → List T2} : ∀ {n : Nat}, OkXS X S n → n ≤ 10 → (rpC false X S n).Nodup
  | 0, _, _ => List.nodup_nil
  | n + 1, hx, hn => by
    refine List.pairwise_append.2 ⟨rpC_nodup (fun j hj => hx j (by omega)) (by omega), rpP_nodup (hx n (by omega)).1 (hx n (by omega)).2, fun a ha b hb q => ?_⟩
    obtain ⟨j, hj, ha⟩ := mem_rpC.1 ha
    have h1 := (rpP_ok (hx j (by omega)).1 (hx j (by omega)).2 (c := (j : Int)) (by omega) ha).2
    have h2 := (rpP_ok (hx n (by omega)).1 (hx n (by omega)).2 (c := (n : Int)) (by omega) hb).2
    rw [q] at h1
    omega
/-- All facts are in the messages that nothing corrects, and no other ones. -/
theorem Cov.facts {X : Nat → Cll} {S : Nat → List T2} {n : Nat} {l out : List Msg} (h : Cov X S n (fun _ => true) l) (hx : OkXS X S n) (hn : n ≤ 10) (hR : RdR l out 0) : (∀ y, y ∈ out ↔ y ∈ rpC false X S n) ∧ out.length = (rpC false X S n).length := by
  obtain ⟨_, _, h3, h4⟩ := hR.spec
  have hm : ∀ y, y ∈ out ↔ y ∈ rpC false X S n := fun y => by
    rw [h4, h.last hx hn, mem_rpC]
    constructor
    · rintro ⟨j, hj, _, hf⟩
      exact ⟨j, hj, mem_rpP.2 (.inl hf)⟩
    · rintro ⟨j, hj, hf⟩
      exact ⟨j, hj, rfl, (mem_rpP.1 hf).resolve_right fun q => absurd q.1 Bool.false_ne_true⟩
  exact ⟨hm, Nat.le_antisymm (nodup_le (pw_nodup h3) fun x q => (hm x).1 q) (nodup_le (rpC_nodup hx hn) fun x q => (hm x).2 q)⟩

end Go.Proofs.YtgoajalaomakpaaGreat
namespace Go.Proofs.YtgoajalaomakpaaGreat
open Go Go.RowKit Go.Proofs.Tryz

/-- A call in memory. -/
structure HCl where
  v : Cll
  ss : List T2
  ao : Option Addr
  g : Nat
  o : Nat
  cp : Nat
instance : Inhabited HCl := ⟨⟨default, [], none, 0, 0, 0⟩⟩
def encHCl (h : HCl) : List Value := [.int .u8 h.v.p0, .int .u8 h.v.p1, .int .u8 h.v.p2, .int .u16 h.v.t0, .int .u16 h.v.t1, .int .u16 h.v.t2, .int .u16 h.v.t3, .int .u16 h.v.t4, .int .u16 h.v.t5, .int .u16 h.v.n, .slice h.ao h.ss.length h.cp, .int .u16 h.v.e, .int .u16 h.v.v0, .int .u16 h.v.v1]
def clX (cls : List HCl) (j : Nat) : Cll := (nth cls j).v
def clS (cls : List HCl) (j : Nat) : List T2 := (nth cls j).ss
/-- Charters made of calls. -/
def MadeC (w : World) (cls : List HCl) (hs : List HC) (k : Nat) : Prop := hs.length = k ∧ ∀ i, i < k → (nth hs i).v = tmC (nth cls i).v ∧ (nth hs i).ws = tmW (nth cls i).v ∧ Sl encLow 2 w (nth hs i).ao (nth hs i).g (nth hs i).o (nth hs i).ws
theorem MadeC.next {w w' : World} {S : Nat → Prop} {cls : List HCl} {hs : List HC} {k : Nat} (h : MadeC w cls hs k) (u : Upd S w w') (hn : ∀ i, i < k → 0 < (nth hs i).ws.length → ¬ S (nth hs i).g) {x : HC} (hx : x.v = tmC (nth cls k).v ∧ x.ws = tmW (nth cls k).v) (h2 : Sl encLow 2 w' x.ao x.g x.o x.ws) : MadeC w' cls (hs ++ [x]) (k + 1) := by
  obtain ⟨h0, h1⟩ := h
  refine ⟨by rw [List.length_append, h0]; rfl, fun i hi => ?_⟩
  rcases Nat.lt_succ_iff_lt_or_eq.1 hi with q | rfl
  · rw [nth_snoc1 (by omega)]; exact ⟨(h1 i q).1, (h1 i q).2.1, (h1 i q).2.2.keep u (hn i q)⟩
  · rw [show nth (hs ++ [x]) i = x by rw [← h0]; exact nth_snoc2]; exact ⟨hx.1, hx.2, h2⟩
theorem MadeC.keep {w w' : World} {S : Nat → Prop} {cls : List HCl} {hs : List HC} {k : Nat} (h : MadeC w cls hs k) (u : Upd S w w') (hn : ∀ i, i < k → 0 < (nth hs i).ws.length → ¬ S (nth hs i).g) : MadeC w' cls hs k := ⟨h.1, fun i hi => ⟨(h.2 i hi).1, (h.2 i hi).2.1, (h.2 i hi).2.2.keep u (hn i hi)⟩⟩
theorem MadeC.copy {w w' : World} {cls : List HCl} {hs hs2 : List HC} {k : Nat} (h : MadeC w cls hs k) (hc : CopyC w' hs hs2 hs.length) : MadeC w' cls hs2 k := by
  obtain ⟨h0, h1⟩ := h
  obtain ⟨c0, c1⟩ := hc
  refine ⟨by omega, fun i hi => ?_⟩
  obtain ⟨a1, a2, a3⟩ := c1 i (by omega)
  obtain ⟨b1, b2, _⟩ := h1 i hi
  exact ⟨a1.trans b1, a2.trans b2, a3⟩
theorem MadeC.rows {w : World} {cls : List HCl} {hs : List HC} {k : Nat} (h : MadeC w cls hs k) : ∀ x ∈ hs, Sl encLow 2 w x.ao x.g x.o x.ws ∧ x.ws.length ≤ 1000000 := fun x hx => by
  obtain ⟨i, hi, rfl⟩ := mem_nth.1 hx
  have h1 := h.2 i (by rw [← h.1]; exact hi)
  exact ⟨h1.2.2, by rw [h1.2.1]; show 2 ≤ 1000000; decide⟩
theorem tmW_len (x : Cll) : (tmW x).length = 2 := rfl
set_option maxHeartbeats 4000000 in
theorem calls_c (cls : List HCl) (al : Option Addr) (bl ol cl : Nat) (cor : Bool) (w0 : World) (hc : Sl encHCl 14 w0 al bl ol cls) (hcl : cls.length ≤ 9223372036854775807) (hclw : ∀ h ∈ cls, Sl encU2 2 w0 h.ao h.g h.o h.ss ∧ h.ss.length ≤ 9223372036854775807 ∧ okCll h.v ∧ ∀ y ∈ h.ss, okU2 y) :
    CallsV Tryz.prog 20 [.slice al cls.length cl, .int .i64 3, .bool cor] w0 (fun v w' => (∃ hs ao g cp a2 g2 c2, v = .tuple #[.slice ao (List.length hs) cp, .slice a2 (List.length (rpC cor (clX cls) (clS cls) (min cls.length 3))) c2] ∧ Acc encHC 11 78 w0.heap.size w' ao g cp hs ∧ Acc encMsg 6 111 w0.heap.size w' a2 g2 c2 (rpC cor (clX cls) (clS cls) (min cls.length 3)) ∧ MadeC w' cls hs (min cls.length 3) ∧ (∀ i, i < min cls.length 3 → 0 < (nth hs i).ws.length → w0.heap.size ≤ (nth hs i).g ∧ (nth hs i).g ≠ g ∧ (nth hs i).g ≠ g2) ∧ g ≠ g2 ∧ w0.heap.size < w'.heap.size) ∧ Ext w0 w') := by
 refine f_n func20 ?_
 refine go ?_
 refine x_l fun bk3 w4 ebk3 sbk3 B5 u6 => ?_
 refine x_l fun bk8 w9 ebk8 sbk8 B10 u11 => ?_
 refine go ?_
 have B15 := (B5.kx u11)
 refine q_loop (γ := Nat × List HC × Option Addr × Nat × Nat × Option Addr × Nat × Nat) (fun gg => [(0, .slice al cls.length cl), (1, .int .i64 3), (2, .bool cor), (8, .slice gg.2.2.1 gg.2.1.length gg.2.2.2.2.1), (9, .slice gg.2.2.2.2.2.1 ((rpC cor (clX cls) (clS cls) gg.1).length) gg.2.2.2.2.2.2.2), (10, .int .i64 (gg.1 : Int))]) (fun gg w => Upd (fun i => w0.heap.size ≤ i) w9 w ∧ (gg.1 ≤ cls.length ∧ gg.1 ≤ 3) ∧ (Acc encHC 11 78 w0.heap.size w gg.2.2.1 gg.2.2.2.1 gg.2.2.2.2.1 gg.2.1) ∧ (Acc encMsg 6 111 w0.heap.size w gg.2.2.2.2.2.1 gg.2.2.2.2.2.2.1 gg.2.2.2.2.2.2.2 (rpC cor (clX cls) (clS cls) gg.1)) ∧ (MadeC w cls gg.2.1 gg.1) ∧ (∀ i, i < gg.1 → 0 < (nth gg.2.1 i).ws.length → w0.heap.size ≤ (nth gg.2.1 i).g ∧ (nth gg.2.1 i).g ≠ gg.2.2.2.1 ∧ (nth gg.2.1 i).g ≠ gg.2.2.2.2.2.2.1) ∧ (gg.2.2.2.1 ≠ gg.2.2.2.2.2.2.1)) (fun gg => 3 - gg.1) (0, [], some ⟨bk3, 0, none⟩, bk3, 0, some ⟨bk8, 0, none⟩, bk8, 0) ⟨rfl, rfl, rfl, rfl, rfl, rfl, trivial⟩ ⟨Upd.refl _ _, (by omega), (Acc.ofBlk (xs := ([] : List HC)) encHC 11 (fun _ => rfl) B15 (by omega) (by decide)), (Acc.ofBlk (xs := ([] : List Msg)) encMsg 6 (fun _ => rfl) B10 (by omega) (by decide)), ⟨rfl, fun i h => absurd h (Nat.not_lt_zero i)⟩, (fun i h => absurd h (Nat.not_lt_zero i)), (by show bk3 ≠ bk8; omega)⟩ ?_
 intro gg w17 hW K16 hK16
 obtain ⟨k, hs, ao, gq, cq, a2, g2, c2⟩ := gg
 change WC _ _ _ _ _ _ [(0, .slice al cls.length cl), (1, .int .i64 3), (2, .bool cor), (8, .slice ao hs.length cq), (9, .slice a2 ((rpC cor (clX cls) (clS cls) k).length) c2), (10, .int .i64 (k : Int))] _
 change Upd (fun i => w0.heap.size ≤ i) w9 w17 ∧ (k ≤ cls.length ∧ k ≤ 3) ∧ (Acc encHC 11 78 w0.heap.size w17 ao gq cq hs) ∧ (Acc encMsg 6 111 w0.heap.size w17 a2 g2 c2 (rpC cor (clX cls) (clS cls) k)) ∧ (MadeC w17 cls hs k) ∧ (∀ i, i < k → 0 < (nth hs i).ws.length → w0.heap.size ≤ (nth hs i).g ∧ (nth hs i).g ≠ gq ∧ (nth hs i).g ≠ g2) ∧ (gq ≠ g2) at hW
 obtain ⟨u18, I19, I20, I21, I22, I23, I24⟩ := hW
 have zu18 := u18.size
 have hk := I19; clear I19
 have hac := I20; clear I20
 have ham := I21; clear I21
 have hmd := I22; clear I22
 have hgo := I23; clear I23
 have hgg := I24; clear I24
 have lt_gq := hac.lt
 have lt_g2 := ham.lt
 have hcl9 := hmd.1
 have hrl := rpC_len (cor := cor) (X := (clX cls)) (S := (clS cls)) k
 refine st1 ?_
 refine x_k1 (fun _ => False) [0, 1, 2, 8, 9, 10] (fun (qa : Bool) => [(21, .bool qa)]) (fun qa w => (qa = true ↔ (k < cls.length ∧ k < 3))) (fun K31 hK31 => ?_) ?_
 ·
  refine go ?_
  refine t_splitp 17 rfl (fun g17 => ?_) (fun g17 => ?_)
  ·
   refine go ?_
   exact hK31 (decide ((k : Int) < 3)) (by rw [decide_eq_true_eq]; omega)
  refine go ?_
  exact hK31 false (⟨fun h => (by cases h), fun h => absurd h (by omega)⟩)
 rintro qa w32 hqa u33 zu33
 refine q_b (fun g21 => ?_) fun g21 => ?_
 ·
  have hqa9 := hqa.1 g21
  have hp9 := hc.lt (by omega)
  have hx9 := hclw (nth cls k) (nth_mem (by omega))
  have hrp9 := rpP_len (c := (k : Int)) (cor := cor) (x := (nth cls k).v) (ss := (nth cls k).ss)
  refine go ?_
  refine c_drawnM follows (fun i => (i = gq ∧ w0.heap.size ≤ i) ∨ (i = g2 ∧ w0.heap.size ≤ i)) (OTl [0, 2, 4, 6, 8, 16, 18, 20, 22, 24, 26, 28, 11, 13, 15, 31, 33, 34, 36]) (by kernel_rfl) fun w36 u37 => ?_
  have zu37 := u37.size
  have E38 := Sc.mk ((((((Upd.refl (fun _ => False) w0).nx u6).nx u11).next u18 (fun i hi (h : w0.heap.size ≤ i) => show False by first | omega | assumption)).nx u33).nx u37)
  refine go ?_
  refine y_i k (hc.keep E38.u (fun _ h => h)) (fun _ => ?_)
  refine go ?_
  refine y_i k (hc.keep E38.u (fun _ h => h)) (fun _ => ?_)
  refine go ?_
  refine x_c func30 rfl rfl (terms_c (nth cls k).v (nth cls k).ss ((nth cls k).ao) ((nth cls k).cp) _ hx9.2.2.1) ?_
  rintro _ w42 ⟨⟨gT, rfl, hgT, hT⟩, u43⟩ zu43
  have hlT := hT.lt (by rw [tmW_len]; omega)
  refine go ?_
  refine x_l fun bk46 w47 ebk46 sbk46 B48 u49 => ?_
  refine go ?_
  have D51 := ((((hac.keep u33 (fun _ h => h)).keep u37 (fun _ h => h)).keep u43 (fun _ h => h)).keep u49 (fun _ h => h))
  refine t_append (z := .agg #[.int .i64 0, .int .i64 0, .int .i64 0, .int .i64 0, .int .i64 0, .int .i64 0, .int .i64 0, .int .i64 0, .int .i64 0, .int .i64 0, .slice none 0 0]) (bytes := 104) (k := 11) (base := w0.heap.size) (⟨tmC (nth cls k).v, tmW (nth cls k).v, some ⟨gT, 0, none⟩, gT, 0, 2⟩ : HC) underlying52 (by kernel_rfl) rfl (by decide) (fun _ => rfl) (by intro x; simp [encHC, Value.oneCell']) rfl rfl rfl rfl D51 B48 (by omega) (by omega) (by decide) (fun ao52 gb53 cp54 w55 A56 u57 gegb53 lngb53 => ?_)
  have zu57 := u57.size
  have lt_gb53 := A56.lt
  refine go ?_
  refine x_c func26 rfl rfl (report_c (nth cls k).v (nth cls k).ss (nth cls k).ao (nth cls k).g (nth cls k).o (nth cls k).cp (k : Int) cor _ hx9.2.2.1 ((hclw (nth cls k) (nth_mem (by omega))).1.keep (((E38.u.nx u43).nx u49).next u57 (fun i hi h => by omega)) (fun _ h => h)) hx9.2.1 hx9.2.2.2 (by omega)) ?_
  rintro _ w60 ⟨⟨aR, gR, cR, rfl, hR, hgR, hzR⟩, u61⟩ zu61
  refine go ?_
  have D64 := ((((((ham.keep u33 (fun _ h => h)).keep u37 (fun _ h => h)).keep u43 (fun _ h => h)).keep u49 (fun _ h => h)).keep u57 (fun hb => show ¬ ((g2 = gq ∧ w0.heap.size ≤ g2)) by first | omega | assumption)).keep u61 (fun _ h => h))
  refine t_appendAll (enc := encMsg) (z := .agg #[.int .i64 0, .int .i64 0, .int .i64 0, .int .i64 0, .int .i64 0, .int .i64 0]) (bytes := 48) (k := 6) (base := w0.heap.size) (xs := (rpC cor (clX cls) (clS cls) k)) (ys := (rpP (k : Int) cor (nth cls k).v (nth cls k).ss)) underlying53 (by kernel_rfl) rfl (by decide) (fun _ => rfl) (by intro x; simp [encMsg, Value.oneCell']) rfl rfl rfl rfl D64 hR (by omega) (by omega) (by omega) (by decide) (fun ao65 gb66 cp67 w68 A69 u70 gegb66 lngb66 => ?_)
  have zu70 := u70.size
  have lt_gb66 := A69.lt
  refine go ?_
  have D72 := ((((hT.keep u49 (fun _ h => h)).keep u57 (fun _ => show ¬ ((gT = gq ∧ w0.heap.size ≤ gT)) by omega)).keep u61 (fun _ h => h)).keep u70 (fun _ => show ¬ ((gT = g2 ∧ w0.heap.size ≤ gT)) by omega))
  have hU9 := ((((((((Upd.refl (fun i => (i = gq ∧ w0.heap.size ≤ i) ∨ (i = g2 ∧ w0.heap.size ≤ i)) w17).nx u33).nx u37).nx u43).nx u49).next u57 (fun i hi h => by omega)).nx u61).next u70 (fun i hi h => by omega))
  have hN9 := D72
  have hgo9 : ∀ i, i < k + 1 → 0 < (nth (hs ++ [(⟨tmC (nth cls k).v, tmW (nth cls k).v, some ⟨gT, 0, none⟩, gT, 0, 2⟩ : HC)]) i).ws.length → w0.heap.size ≤ (nth (hs ++ [(⟨tmC (nth cls k).v, tmW (nth cls k).v, some ⟨gT, 0, none⟩, gT, 0, 2⟩ : HC)]) i).g ∧ (nth (hs ++ [(⟨tmC (nth cls k).v, tmW (nth cls k).v, some ⟨gT, 0, none⟩, gT, 0, 2⟩ : HC)]) i).g ≠ gb53 ∧ (nth (hs ++ [(⟨tmC (nth cls k).v, tmW (nth cls k).v, some ⟨gT, 0, none⟩, gT, 0, 2⟩ : HC)]) i).g ≠ gb66 := fun i hi h9 => by
    rcases Nat.lt_succ_iff_lt_or_eq.1 hi with q | q
    · rw [nth_snoc1 (by omega)] at h9 ⊢; have h8 := hgo i q h9; have h7 := (hmd.2 i q).2.2.lt h9; omega
    · rw [q] at h9 ⊢; have e9 := nth_snoc2 (xs := hs) (y := (⟨tmC (nth cls k).v, tmW (nth cls k).v, some ⟨gT, 0, none⟩, gT, 0, 2⟩ : HC)); rw [hcl9] at e9; rw [e9]; show w0.heap.size ≤ gT ∧ gT ≠ gb53 ∧ gT ≠ gb66; omega
  have hgg9 : gb53 ≠ gb66 := by omega
  have D73 := ((A56.keep u61 (fun _ h => h)).keep u70 (fun hb => show ¬ ((gb53 = g2 ∧ w0.heap.size ≤ gb53)) by first | omega | assumption))
  exact hK16 (k + 1, (hs ++ [(⟨tmC (nth cls k).v, tmW (nth cls k).v, some ⟨gT, 0, none⟩, gT, 0, 2⟩ : HC)]), ao52, gb53, cp54, ao65, gb66, cp67) _ _ (by show 3 - (k + 1) < 3 - k; omega) ⟨rfl, rfl, rfl, rfl, rfl, rfl, trivial⟩ ⟨(((((((u18.nx u33).nx u37).nx u43).nx u49).next u57 (fun i hi (h : (i = gq ∧ w0.heap.size ≤ i)) => show w0.heap.size ≤ i by first | omega | assumption)).nx u61).next u70 (fun i hi (h : (i = g2 ∧ w0.heap.size ≤ i)) => show w0.heap.size ≤ i by first | omega | assumption)), (by omega), D73, A69, (MadeC.next hmd hU9 (fun i hi h9 q => by have := hgo i hi h9; omega) ⟨rfl, rfl⟩ hN9), hgo9, hgg9⟩
 have hqb9 : ¬ (k < cls.length ∧ k < 3) := fun q => by rw [hqa.2 q] at g21; cases g21
 have hkn : k = min cls.length 3 := by omega
 refine go ?_
 refine f_ret2 (v1 := .slice ao hs.length cq) (v2 := .slice a2 ((rpC cor (clX cls) (clS cls) k).length) c2) results20 rfl rfl ?_
 have D75 := (hac.keep u33 (fun _ h => h))
 have D76 := (ham.keep u33 (fun _ h => h))
 have hA9 := D75
 have hM9 := D76
 have hD9 := (hmd.keep u33 (fun _ _ _ h => h))
 rw [hkn] at hM9 hD9 hgo ⊢
 exact ⟨⟨hs, _, _, _, _, _, _, rfl, hA9, hM9, hD9, hgo, hgg, by omega⟩, u_d⟩

end Go.Proofs.YtgoajalaomakpaaGreat
