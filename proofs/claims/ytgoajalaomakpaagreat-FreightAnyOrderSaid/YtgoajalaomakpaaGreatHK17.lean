/-
  Part 17 of the proof: contracts and plain laws. Conditions: none.
-/
import Derived.Test.YtgoajalaomakpaaGreatHK16
namespace Go.Proofs.YtgoajalaomakpaaGreat
open Go Go.RowKit

def stM (c a : Int) (ss : List T2) (j : Nat) : Msg := ⟨c, 10 + 2 * (j : Int), 2, 2, rpA a ss j + (nth ss j).a, 0⟩
def crM (c a : Int) (ss : List T2) (j : Nat) : Msg := ⟨c, 10 + 2 * (j : Int), 1, 4, rpA a ss j + (nth ss j).a + 3, 0⟩
def reM (c a : Int) (ss : List T2) (j : Nat) : Msg := ⟨c, 11 + 2 * (j : Int), 0, 3, rpA a ss j + (nth ss j).a + (nth ss j).b, 0⟩
def noM (c a : Int) : Msg := ⟨c, 1, 0, 1, a, 0⟩
def enM (c a : Int) (x : Cll) (ss : List T2) : Msg := ⟨c, 500, 0, 4, rpA a ss (min ss.length 8) + x.e % 2500, 0⟩
def toM (c : Int) (x : Cll) : Msg := ⟨c, 600, 0, 5, 7, x.v0⟩
def leM (c : Int) (x : Cll) : Msg := ⟨c, 601, 0, 6, 9, x.v1 % 400⟩
theorem mem_rpL {c : Int} {cor : Bool} {a : Int} {ss : List T2} {y : Msg} : ∀ {k : Nat}, y ∈ rpL c cor a ss k ↔ y = noM c a ∨ ∃ j, j < k ∧ (y = stM c a ss j ∨ (cor = true ∧ y = crM c a ss j) ∨ y = reM c a ss j)
  | 0 => by
    rw [rpL, List.mem_singleton]
    exact ⟨.inl, fun h => h.resolve_right fun ⟨j, h, _⟩ => absurd h (Nat.not_lt_zero j)⟩
  | k + 1 => by
    have ih := mem_rpL (c := c) (cor := cor) (a := a) (ss := ss) (y := y) (k := k)
    have hc : y ∈ (if cor = true then [(⟨c, 10 + 2 * (k : Int), 1, 4, rpA a ss k + (nth ss k).a + 3, 0⟩ : Msg)] else []) ↔ cor = true ∧ y = crM c a ss k := by
      split
      · rename_i q; rw [List.mem_singleton]; exact ⟨fun h => ⟨q, h⟩, fun h => h.2⟩
      · rename_i q; exact ⟨fun h => (by cases h), fun h => absurd h.1 q⟩
    rw [rpL, List.mem_append, List.mem_append, List.mem_append, hc, ih, List.mem_singleton, List.mem_singleton]
    constructor
    · rintro ((((h | ⟨j, hj, h⟩) | h) | h) | h)
      · exact .inl h
      · exact .inr ⟨j, by omega, h⟩
      · exact .inr ⟨k, by omega, .inl h⟩
      · exact .inr ⟨k, by omega, .inr (.inl h)⟩
      · exact .inr ⟨k, by omega, .inr (.inr h)⟩
    · rintro (h | ⟨j, hj, h⟩)
      · exact .inl (.inl (.inl (.inl h)))
      · rcases Nat.lt_succ_iff_lt_or_eq.1 hj with q | rfl
        · exact .inl (.inl (.inl (.inr ⟨j, q, h⟩)))
        · rcases h with h | h | h
          · exact .inl (.inl (.inr h))
          · exact .inl (.inr h)
          · exact .inr h
/-- The facts of a call but tons and level, in order. -/
def mnL (c : Int) (x : Cll) (ss : List T2) : List Msg := rpL c false (x.n % 1000) ss (min ss.length 8) ++ [enM c (x.n % 1000) x ss]
def fcP (c : Int) (x : Cll) (ss : List T2) (y : Msg) : Prop := y ∈ mnL c x ss ∨ y = toM c x ∨ y = leM c x
theorem mem_rpP {c : Int} {cor : Bool} {x : Cll} {ss : List T2} {y : Msg} : y ∈ rpP c cor x ss ↔ fcP c x ss y ∨ (cor = true ∧ ((∃ j, j < min ss.length 8 ∧ y = crM c (x.n % 1000) ss j) ∨ y = ⟨c, 700, 0, 1, 0, 0⟩ ∨ y = ⟨c, 700, 9, 7, 5, 0⟩)) := by
  have hc : y ∈ (if cor = true then [(⟨c, 700, 0, 1, 0, 0⟩ : Msg), ⟨c, 700, 9, 7, 5, 0⟩] else []) ↔ cor = true ∧ (y = ⟨c, 700, 0, 1, 0, 0⟩ ∨ y = ⟨c, 700, 9, 7, 5, 0⟩) := by
    split
    · rename_i q; simp [q]
    · rename_i q; simp [q]
  unfold rpP fcP mnL
  rw [List.mem_append, List.mem_append, hc, mem_rpL, List.mem_append, mem_rpL]
  simp only [List.mem_cons, List.not_mem_nil, or_false, Bool.false_eq_true, false_and, false_or]
  constructor
  · rintro (((h | ⟨j, hj, h | ⟨h1, h2⟩ | h⟩) | h | h | h) | ⟨h1, h2⟩)
    · exact .inl (.inl (.inl (.inl h)))
    · exact .inl (.inl (.inl (.inr ⟨j, hj, .inl h⟩)))
    · exact .inr ⟨h1, .inl ⟨j, hj, h2⟩⟩
    · exact .inl (.inl (.inl (.inr ⟨j, hj, .inr h⟩)))
    · exact .inl (.inl (.inr h))
    · exact .inl (.inr (.inl h))
    · exact .inl (.inr (.inr h))
    · exact .inr ⟨h1, .inr h2⟩
  · rintro ((((h | ⟨j, hj, h | h⟩) | h) | h | h) | ⟨h1, ⟨j, hj, h2⟩ | h2⟩)
    · exact .inl (.inl (.inl h))
    · exact .inl (.inl (.inr ⟨j, hj, .inl h⟩))
    · exact .inl (.inl (.inr ⟨j, hj, .inr (.inr h)⟩))
    · exact .inl (.inr (.inl h))
    · exact .inl (.inr (.inr (.inl h)))
    · exact .inl (.inr (.inr (.inr h)))
    · exact .inl (.inl (.inr ⟨j, hj, .inr (.inl ⟨h1, h2⟩)⟩))
    · exact .inr ⟨h1, h2⟩
/-- A fact, by its kind of message. -/
theorem fcP_cases {c : Int} {x : Cll} {ss : List T2} {y : Msg} : fcP c x ss y ↔ y = noM c (x.n % 1000) ∨ (∃ j, j < min ss.length 8 ∧ (y = stM c (x.n % 1000) ss j ∨ y = reM c (x.n % 1000) ss j)) ∨ y = enM c (x.n % 1000) x ss ∨ y = toM c x ∨ y = leM c x := by
  unfold fcP mnL
  rw [List.mem_append, mem_rpL, List.mem_singleton]
  simp only [Bool.false_eq_true, false_and, false_or]
  constructor
  · rintro (((h | h) | h) | h | h)
    · exact .inl h
    · exact .inr (.inl h)
    · exact .inr (.inr (.inl h))
    · exact .inr (.inr (.inr (.inl h)))
    · exact .inr (.inr (.inr (.inr h)))
  · rintro (h | h | h | h | h)
    · exact .inl (.inl (.inl h))
    · exact .inl (.inl (.inr h))
    · exact .inl (.inr h)
    · exact .inr (.inl h)
    · exact .inr (.inr h)
/-- What counts of a report. -/
theorem rpP_last {c : Int} {cor : Bool} {x : Cll} {ss : List T2} {y : Msg} : LastIn (rpP c cor x ss) y ↔ fcP c x ss y := by
  unfold LastIn
  constructor
  · rintro ⟨h1, h2, h3⟩
    rcases mem_rpP.1 h1 with h | ⟨hc, ⟨j, hj, rfl⟩ | rfl | rfl⟩
    · exact h
    · have := h3 (stM c (x.n % 1000) ss j) (mem_rpP.2 (.inl (fcP_cases.2 (.inr (.inl ⟨j, hj, .inl rfl⟩))))) rfl rfl
      exact absurd this (by show ¬ (2 : Int) ≤ 1; decide)
    · have := h3 ⟨c, 700, 9, 7, 5, 0⟩ (mem_rpP.2 (.inr ⟨hc, .inr (.inr rfl)⟩)) rfl rfl
      exact absurd this (by show ¬ (9 : Int) ≤ 0; decide)
    · exact absurd rfl h2
  · intro h
    refine ⟨mem_rpP.2 (.inl h), ?_, fun m hm e1 e2 => ?_⟩
    · rcases fcP_cases.1 h with rfl | ⟨j, _, rfl | rfl⟩ | rfl | rfl | rfl <;> simp [noM, stM, reM, enM, toM, leM]
    · clear e1
      rcases fcP_cases.1 h with rfl | ⟨j, _, rfl | rfl⟩ | rfl | rfl | rfl <;> rcases mem_rpP.1 hm with h2 | ⟨_, ⟨i, hi, rfl⟩ | rfl | rfl⟩ <;> (try rcases fcP_cases.1 h2 with rfl | ⟨i, hi, rfl | rfl⟩ | rfl | rfl | rfl) <;> simp only [noM, stM, reM, enM, toM, leM, crM] at * <;> omega
theorem rpP_noEd {c : Int} {cor : Bool} {x : Cll} {ss : List T2} : NoEd (rpP c cor x ss) := by
  intro a ha b hb e
  unfold edK at e
  simp only [Prod.mk.injEq] at e
  obtain ⟨_, e1, e2⟩ := e
  have key : ∀ i j : Nat, 10 + 2 * (i : Int) = 10 + 2 * (j : Int) → i = j := fun i j h => by omega
  have key2 : ∀ i j : Nat, 11 + 2 * (i : Int) = 11 + 2 * (j : Int) → i = j := fun i j h => by omega
  rcases mem_rpP.1 ha with h | ⟨_, ⟨i, hi, rfl⟩ | rfl | rfl⟩ <;> (try rcases fcP_cases.1 h with rfl | ⟨i, hi, rfl | rfl⟩ | rfl | rfl | rfl) <;> rcases mem_rpP.1 hb with h2 | ⟨_, ⟨j, hj, rfl⟩ | rfl | rfl⟩ <;> (try rcases fcP_cases.1 h2 with rfl | ⟨j, hj, rfl | rfl⟩ | rfl | rfl | rfl) <;> simp only [noM, stM, reM, enM, toM, leM, crM] at e1 e2 <;> first | rfl | (exfalso; omega) | (rw [key i j e1]) | (rw [key2 i j e1])
theorem rpP_ok {c : Int} {cor : Bool} {x : Cll} {ss : List T2} (hx : okCll x) (hs : ∀ y ∈ ss, okU2 y) (hc : 0 ≤ c ∧ c ≤ 9) {y : Msg} (h : y ∈ rpP c cor x ss) : okMsg y = true ∧ y.c = c := by
  unfold okCll at hx
  have hb : ∀ j, j < min ss.length 8 → (0 ≤ rpA (x.n % 1000) ss j ∧ rpA (x.n % 1000) ss j ≤ 999 + 510 * (j : Int)) ∧ okU2 (nth ss j) := fun j hj => ⟨rpA_bd (by omega) hs (by omega), hs _ (nth_mem (by omega))⟩
  have he := rpA_bd (a := x.n % 1000) (ss := ss) (by omega) hs (k := min ss.length 8) (by omega)
  unfold okMsg
  rw [decide_eq_true_eq]
  rcases mem_rpP.1 h with h | ⟨_, ⟨i, hi, rfl⟩ | rfl | rfl⟩
  · rcases fcP_cases.1 h with rfl | ⟨i, hi, rfl | rfl⟩ | rfl | rfl | rfl
    · simp only [noM, and_true]; omega
    · obtain ⟨b1, b2⟩ := hb i hi
      unfold okU2 at b2
      simp only [stM, and_true]; omega
    · obtain ⟨b1, b2⟩ := hb i hi
      unfold okU2 at b2
      simp only [reM, and_true]; omega
    · simp only [enM, and_true]; omega
    · simp only [toM, and_true]; omega
    · simp only [leM, and_true]; omega
  · obtain ⟨b1, b2⟩ := hb i hi
    unfold okU2 at b2
    simp only [crM, and_true]; omega
  · simp only [and_true]; omega
  · simp only [and_true]; omega
/-- The facts in order. -/
theorem rpL_pw {c a : Int} {ss : List T2} (ha : 0 ≤ a ∧ a ≤ 999) (hs : ∀ y ∈ ss, okU2 y) : ∀ {k : Nat}, k ≤ ss.length → (rpL c false a ss k).Pairwise FLt ∧ ∀ y ∈ rpL c false a ss k, y.c = c ∧ y.m ≤ rpA a ss k ∧ y.n < 10 + 2 * (k : Int) ∧ y.k ≤ 4
  | 0, _ => by
    rw [rpL]
    exact ⟨List.pairwise_singleton _ _, fun y hy => by rw [List.mem_singleton.1 hy]; simp only [rpA, true_and]; omega⟩
  | k + 1, h => by
    obtain ⟨i1, i2⟩ := rpL_pw (c := c) ha hs (k := k) (by omega)
    have hx := hs _ (nth_mem (xs := ss) (i := k) (by omega))
    unfold okU2 at hx
    have e : rpL c false a ss (k + 1) = rpL c false a ss k ++ [stM c a ss k, reM c a ss k] := by
      rw [rpL, if_neg Bool.false_ne_true, List.append_nil, List.append_assoc]; rfl
    rw [e]
    constructor
    · rw [List.pairwise_append]
      refine ⟨i1, ?_, fun y hy z hz => ?_⟩
      · refine List.pairwise_pair.2 ?_
        unfold FLt
        rw [cmpF_lt]
        simp only [stM, reM, true_and]
        omega
      · have := i2 y hy
        unfold FLt
        rw [cmpF_lt]
        rcases List.mem_cons.1 hz with rfl | hz
        · simp only [stM]; omega
        · rw [List.mem_singleton.1 hz]; simp only [reM]; omega
    · intro y hy
      simp only [rpA]
      rcases List.mem_append.1 hy with q | q
      · have := i2 y q; omega
      · rcases List.mem_cons.1 q with rfl | q
        · simp only [stM, true_and]; omega
        · rw [List.mem_singleton.1 q]; simp only [reM, true_and]; omega
theorem mnL_pw {c : Int} {x : Cll} {ss : List T2} (_hx : okCll x) (hs : ∀ y ∈ ss, okU2 y) : (mnL c x ss).Pairwise FLt ∧ ∀ y ∈ mnL c x ss, y.k ≤ 4 := by
  unfold okCll at _hx
  obtain ⟨i1, i2⟩ := rpL_pw (c := c) (a := x.n % 1000) (ss := ss) (by omega) hs (k := min ss.length 8) (by omega)
  unfold mnL
  constructor
  · rw [List.pairwise_append]
    refine ⟨i1, List.pairwise_singleton _ _, fun y hy z hz => ?_⟩
    have := i2 y hy
    rw [List.mem_singleton.1 hz]
    unfold FLt
    rw [cmpF_lt]
    simp only [enM]
    omega
  · intro y hy
    rcases List.mem_append.1 hy with q | q
    · exact (i2 y q).2.2.2
    · rw [List.mem_singleton.1 q]; simp only [enM]; omega
/-- A call opened, fact by fact. -/
def opSt (en : Int) (s : OpS) (m : Msg) : OpS := if 4 < m.k then s else ⟨m.k, opEx en s.ex m⟩
def badP (s : OpS) (m : Msg) : Prop := ¬ 4 < m.k ∧ (¬ opGo s.la m.k ∨ s.la = 4)
def okF (en : Int) : OpS → List Msg → Prop
  | _, [] => True
  | s, m :: l => ¬ badP s m ∧ okF en (opSt en s m) l
theorem opS_fold {en : Int} {fr : List Fre} {l : List Msg} : ∀ {k : Nat}, k ≤ l.length → opS en fr l k = (l.take k).foldl (opSt en) ⟨0, fr⟩
  | 0, _ => rfl
  | k + 1, h => by
    rw [opS, opS_fold (k := k) (by omega), take_nth (by omega), List.foldl_append]
    rfl
theorem okF_app {en : Int} : ∀ {l1 l2 : List Msg} {s : OpS}, okF en s (l1 ++ l2) ↔ okF en s l1 ∧ okF en (l1.foldl (opSt en) s) l2
  | [], _, _ => ⟨fun h => ⟨trivial, h⟩, fun h => h.2⟩
  | m :: l1, l2, s => by
    show ¬ badP s m ∧ okF en (opSt en s m) (l1 ++ l2) ↔ (¬ badP s m ∧ okF en (opSt en s m) l1) ∧ _
    rw [okF_app (l1 := l1), and_assoc]
    rfl
theorem okF_nth {en : Int} {fr : List Fre} {l : List Msg} (h : okF en ⟨0, fr⟩ l) {k : Nat} (hk : k < l.length) : ¬ opBad en fr l k := by
  have e : l = l.take k ++ (nth l k :: l.drop (k + 1)) := by rw [← drop_nth hk, List.take_append_drop]
  rw [e, okF_app, ← opS_fold (by omega)] at h
  exact h.2.1
theorem fold_skip {en : Int} : ∀ {l : List Msg} {s : OpS}, l.foldl (opSt en) s = (l.filter fun m => decide (m.k ≤ 4)).foldl (opSt en) s ∧ (okF en s (l.filter fun m => decide (m.k ≤ 4)) → okF en s l)
  | [], _ => ⟨rfl, id⟩
  | m :: l, s => by
    by_cases q : m.k ≤ 4
    · rw [List.filter_cons, if_pos (decide_eq_true q)]
      exact ⟨by rw [List.foldl_cons, List.foldl_cons]; exact fold_skip.1, fun h => ⟨h.1, fold_skip.2 h.2⟩⟩
    · rw [List.filter_cons, if_neg (by simpa using q)]
      have e : opSt en s m = s := if_pos (by omega)
      constructor
      · rw [List.foldl_cons, e]; exact fold_skip.1
      · intro h
        exact ⟨fun b => b.1 (by omega), by rw [e]; exact fold_skip.2 h⟩
def stF (a : Int) (ss : List T2) (j : Nat) : Fre := ⟨rpA a ss j + (nth ss j).a, rpA a ss j + (nth ss j).a + (nth ss j).b⟩
def stL (a : Int) (ss : List T2) : Nat → List Fre
  | 0 => []
  | k + 1 => stL a ss k ++ [stF a ss k]
theorem rpL_run {en c a : Int} {fr : List Fre} {ss : List T2} : ∀ k, okF en ⟨0, fr⟩ (rpL c false a ss k) ∧ ((rpL c false a ss k).foldl (opSt en) ⟨0, fr⟩).ex = fr ++ stL a ss k ∧ (((rpL c false a ss k).foldl (opSt en) ⟨0, fr⟩).la = 1 ∨ ((rpL c false a ss k).foldl (opSt en) ⟨0, fr⟩).la = 3)
  | 0 => by
    rw [rpL]
    refine ⟨⟨fun h => ?_, trivial⟩, ?_, .inl ?_⟩
    · rcases h.2 with q | q
      · exact q (.inl ⟨rfl, rfl⟩)
      · exact absurd q (by show ¬ (0 : Int) = 4; decide)
    · rw [List.foldl_cons, List.foldl_nil]
      simp [opSt, opEx, stL]
    · rw [List.foldl_cons, List.foldl_nil]
      simp [opSt]
  | k + 1 => by
    obtain ⟨i1, i2, i3⟩ := rpL_run (en := en) (c := c) (a := a) (fr := fr) (ss := ss) k
    have e : rpL c false a ss (k + 1) = rpL c false a ss k ++ [stM c a ss k, reM c a ss k] := by
      rw [rpL, if_neg Bool.false_ne_true, List.append_nil, List.append_assoc]; rfl
    rw [e, okF_app, List.foldl_append]
    generalize (rpL c false a ss k).foldl (opSt en) ⟨0, fr⟩ = s at *
    have s1 : opSt en s (stM c a ss k) = ⟨2, s.ex ++ [⟨rpA a ss k + (nth ss k).a, max en (rpA a ss k + (nth ss k).a)⟩]⟩ := by
      simp [opSt, opEx, stM]
    have s2 : opSt en (opSt en s (stM c a ss k)) (reM c a ss k) = ⟨3, s.ex ++ [stF a ss k]⟩ := by
      rw [s1]
      have e2 : nth (s.ex ++ [(⟨rpA a ss k + (nth ss k).a, max en (rpA a ss k + (nth ss k).a)⟩ : Fre)]) s.ex.length = ⟨rpA a ss k + (nth ss k).a, max en (rpA a ss k + (nth ss k).a)⟩ := nth_app2
      simp [opSt, opEx, reM, e2, stF]
    refine ⟨⟨i1, fun h => ?_, fun h => ?_, trivial⟩, ?_, .inr ?_⟩
    · rcases h.2 with q | q
      · exact q (.inr (.inl ⟨rfl, i3⟩))
      · omega
    · rw [s1] at h
      rcases h.2 with q | q
      · exact q (.inr (.inr (.inl ⟨rfl, rfl⟩)))
      · exact absurd q (by show ¬ (2 : Int) = 4; decide)
    · show (opSt en (opSt en s (stM c a ss k)) (reM c a ss k)).ex = _
      rw [s2, stL, i2]
      simp
    · show (opSt en (opSt en s (stM c a ss k)) (reM c a ss k)).la = _
      rw [s2]
theorem mnL_run {en c : Int} {x : Cll} {fr : List Fre} {ss : List T2} : okF en ⟨0, fr⟩ (mnL c x ss) ∧ ((mnL c x ss).foldl (opSt en) ⟨0, fr⟩).ex = fr ++ stL (x.n % 1000) ss (min ss.length 8) := by
  obtain ⟨i1, i2, i3⟩ := rpL_run (en := en) (c := c) (a := x.n % 1000) (fr := fr) (ss := ss) (min ss.length 8)
  unfold mnL
  rw [okF_app, List.foldl_append]
  generalize (rpL c false (x.n % 1000) ss (min ss.length 8)).foldl (opSt en) ⟨0, fr⟩ = s at *
  refine ⟨⟨i1, fun h => ?_, trivial⟩, ?_⟩
  · rcases h.2 with q | q
    · exact q (.inr (.inr (.inr ⟨rfl, by omega⟩)))
    · omega
  · show (opSt en s (enM c (x.n % 1000) x ss)).ex = _
    rw [← i2]
    simp [opSt, opEx, enM]
/-- What happened, by kinds. -/
theorem onS_at {l : List Msg} : ∀ {k : Nat}, k ≤ l.length → ∀ {d : Int}, (∀ {o : Msg}, gtG (onS l k) d = some o → o ∈ l.take k ∧ o.k = d) ∧ (∀ y ∈ l.take k, y.k = d → ¬ (d = 2 ∨ d = 3) → ∃ o, gtG (onS l k) d = some o)
  | 0, _, d => ⟨fun h => by simp [onS, gtG_eq, gtR] at h, fun y hy => by simp at hy⟩
  | k + 1, h, d => by
    obtain ⟨i1, i2⟩ := onS_at (l := l) (k := k) (by omega) (d := d)
    rw [take_nth (by omega)]
    by_cases q : (nth l k).k = 2 ∨ (nth l k).k = 3
    · rw [onS, if_pos q]
      refine ⟨fun h => ⟨List.mem_append_left _ (i1 h).1, (i1 h).2⟩, fun y hy e hn => ?_⟩
      rcases List.mem_append.1 hy with r | r
      · exact i2 y r e hn
      · rw [List.mem_singleton.1 r] at e
        exact absurd (e ▸ q) hn
    · rw [onS, if_neg q, gtG_eq, upG_eq, gtR_upR]
      rw [gtG_eq] at i1 i2
      refine ⟨fun h => ?_, fun y hy e hn => ?_⟩
      · split at h
        · rename_i r
          simp only [Option.some.injEq] at h
          rw [← h]
          exact ⟨List.mem_append_right _ (List.mem_singleton.2 rfl), r.symm⟩
        · exact ⟨List.mem_append_left _ (i1 h).1, (i1 h).2⟩
      · split
        · exact ⟨_, rfl⟩
        · rename_i r
          rcases List.mem_append.1 hy with r2 | r2
          · exact i2 y r2 e hn
          · rw [List.mem_singleton.1 r2] at e
            exact absurd e.symm r
/-- A report's facts, in order. -/
structure RpO (c : Int) (x : Cll) (ss : List T2) (out : List Msg) : Prop where
  pw : out.Pairwise FLt
  mem : ∀ y, y ∈ out ↔ fcP c x ss y
theorem RpO.main {c : Int} {x : Cll} {ss : List T2} {out : List Msg} (h : RpO c x ss out) (hx : okCll x) (hs : ∀ y ∈ ss, okU2 y) : (out.filter fun m => decide (m.k ≤ 4)) = mnL c x ss := by
  obtain ⟨m1, m2⟩ := mnL_pw (c := c) hx hs
  refine sorted_ext FLt.asym (h.pw.sublist List.filter_sublist) m1 fun y => ?_
  rw [List.mem_filter, h.mem, decide_eq_true_eq]
  constructor
  · rintro ⟨q | rfl | rfl, h2⟩
    · exact q
    · exact absurd h2 (by show ¬ (5 : Int) ≤ 4; decide)
    · exact absurd h2 (by show ¬ (6 : Int) ≤ 4; decide)
  · exact fun q => ⟨.inl q, m2 y q⟩
theorem fcP_one {c : Int} {x : Cll} {ss : List T2} {y z : Msg} (hy : fcP c x ss y) (hz : fcP c x ss z) (e : y.k = z.k) (hn : ¬ (y.k = 2 ∨ y.k = 3)) : y = z := by
  rcases fcP_cases.1 hy with rfl | ⟨i, hi, rfl | rfl⟩ | rfl | rfl | rfl <;> rcases fcP_cases.1 hz with rfl | ⟨j, hj, rfl | rfl⟩ | rfl | rfl | rfl <;> first | rfl | exact absurd (.inl rfl) hn | exact absurd (.inr rfl) hn | (simp [noM, stM, reM, enM, toM, leM] at e; done)
theorem RpO.get {c : Int} {x : Cll} {ss : List T2} {out : List Msg} (h : RpO c x ss out) {y : Msg} (hy : fcP c x ss y) (hn : ¬ (y.k = 2 ∨ y.k = 3)) : gtG (onS out out.length) y.k = some y := by
  obtain ⟨o1, o2⟩ := onS_at (l := out) (k := out.length) (Nat.le_refl _) (d := y.k)
  rw [List.take_length] at o1 o2
  obtain ⟨o, ho⟩ := o2 y ((h.mem y).2 hy) rfl hn
  obtain ⟨q1, q2⟩ := o1 ho
  rw [ho, fcP_one hy ((h.mem o).1 q1) q2.symm hn]
theorem RpO.noErr {c : Int} {x : Cll} {ss : List T2} {out : List Msg} (h : RpO c x ss out) {k : Nat} (hk : k < out.length) : ¬ onErr out k := fun ⟨hn, o, ho⟩ => by
  obtain ⟨q1, q2⟩ := (onS_at (l := out) (k := k) (by omega) (d := (nth out k).k)).1 ho
  have e := fcP_one ((h.mem _).1 (nth_mem hk)) ((h.mem o).1 (List.mem_of_mem_take q1)) q2.symm hn
  obtain ⟨i, hi, ei⟩ := List.getElem_of_mem q1
  rw [List.length_take] at hi
  rw [List.getElem_take] at ei
  have := List.pairwise_iff_getElem.1 h.pw i k (by omega) hk (by omega)
  rw [ei, ← nth_eq hk, e] at this
  exact FLt.asym _ _ this this
theorem RpO.open {c : Int} {x : Cll} {ss : List T2} {out : List Msg} (h : RpO c x ss out) (hx : okCll x) (hs : ∀ y ∈ ss, okU2 y) (fr : List Fre) : OpOk fr out (fr ++ stL (x.n % 1000) ss (min ss.length 8)) ∧ (opS (enM c (x.n % 1000) x ss).m fr out out.length).ex = fr ++ stL (x.n % 1000) ss (min ss.length 8) := by
  have hm := h.main hx hs
  obtain ⟨r1, r2⟩ := mnL_run (en := (enM c (x.n % 1000) x ss).m) (c := c) (x := x) (fr := fr) (ss := ss)
  have e1 := fold_skip (en := (enM c (x.n % 1000) x ss).m) (l := out) (s := ⟨0, fr⟩)
  rw [hm] at e1
  have e2 : (opS (enM c (x.n % 1000) x ss).m fr out out.length).ex = fr ++ stL (x.n % 1000) ss (min ss.length 8) := by
    rw [opS_fold (Nat.le_refl _), List.take_length, e1.1, r2]
  have e3 := e1.2 r1
  refine ⟨⟨fun k hk => h.noErr hk, noM c (x.n % 1000), enM c (x.n % 1000) x ss, ?_, ?_, fun k hk => okF_nth e3 hk, e2.symm⟩, e2⟩
  · exact h.get (fcP_cases.2 (.inl rfl)) (by show ¬ ((1 : Int) = 2 ∨ (1 : Int) = 3); decide)
  · exact h.get (fcP_cases.2 (.inr (.inr (.inl rfl)))) (by show ¬ ((4 : Int) = 2 ∨ (4 : Int) = 3); decide)
/-- A call's laytime. -/
def enT (x : Cll) (ss : List T2) : Int := rpA (x.n % 1000) ss (min ss.length 8) + x.e % 2500
def ltP (x : Cll) (ss : List T2) (fr : List Fre) : Lc := lcM (x.t2 % 2000) (enT x ss) (x.n % 1000 + x.t3 % 300) (exc (fr ++ stL (x.n % 1000) ss (min ss.length 8)))
theorem tmC_ok {x : Cll} (hx : okCll x) : chkCh (tmC x) (tmW x) = 0 := by
  unfold okCll at hx
  unfold chkCh
  rw [if_pos]
  have hw : lowK (tmW x) ((tmW x).length - 1) = false := by
    have e : (tmW x).length - 1 = 0 + 1 := rfl
    have a1 : okLow ⟨100, x.t5 % 60⟩ = true := by unfold okLow; rw [decide_eq_true_eq]; dsimp only; omega
    have a2 : okLow ⟨100 + x.t3 % 200 + 1, 15⟩ = true := by unfold okLow; rw [decide_eq_true_eq]; dsimp only; omega
    rw [e, lowK, lowK, Bool.or_eq_false_iff]
    refine ⟨?_, ?_⟩
    · rw [List.any_eq_false]
      intro y hy
      rcases List.mem_cons.1 hy with rfl | hy
      · simp [a1]
      · rw [List.mem_singleton.1 hy]; simp [a2]
    · rw [decide_eq_false_iff_not]
      show ¬ 100 + x.t3 % 200 + 1 ≤ 100
      omega
  unfold okCh
  rw [decide_eq_true_eq]
  refine ⟨hw, by show 2 ≤ 10; decide, ?_⟩
  simp only [tmC]
  omega
end Go.Proofs.YtgoajalaomakpaaGreat
namespace Go.Proofs.YtgoajalaomakpaaGreat
open Go Go.RowKit

/-- What a laytime's count keeps. -/
structure LcOk (L en b : Int) (n : Lc) : Prop where
  bg : n.b = b
  us : 0 ≤ n.u ∧ n.u ≤ L
  ov : 0 ≤ n.o ∧ (0 < n.o → n.u = L ∧ n.s = 0)
  sv : n.o = 0 → n.u + n.s = L
  al : n.u + n.o ≤ max 0 (en - b)
theorem spL_ok {xs : List T2} (h : ∀ x ∈ xs, okX2 x) : (spL xs).length ≤ 10 ∧ ∀ f ∈ spL xs, 0 ≤ f.f ∧ f.f ≤ f.t ∧ f.t ≤ 4800 := by
  unfold spL
  refine ⟨by rw [List.length_map, List.length_take]; omega, fun f hf => ?_⟩
  obtain ⟨x, hx, rfl⟩ := List.mem_map.1 hf
  have := h x (List.mem_of_mem_take hx)
  unfold okX2 at this
  unfold spF
  dsimp only
  omega
theorem chkFr_of {fs : List Fre} (h1 : fs.length ≤ 30) (h2 : ∀ f ∈ fs, 0 ≤ f.f ∧ f.f ≤ f.t ∧ f.t ≤ 100000) : chkFr fs = 0 := by
  unfold chkFr
  rw [if_neg (by omega), if_neg]
  intro q
  obtain ⟨f, hf, e⟩ := List.any_eq_true.1 q
  have := h2 f hf
  rw [Bool.not_eq_true', show okFre f = true from by unfold okFre; rw [decide_eq_true_eq]; omega] at e
  cases e
theorem spL_chk {xs : List T2} (h : ∀ x ∈ xs, okX2 x) : chkFr (spL xs) = 0 := chkFr_of (by have := (spL_ok h).1; omega) fun f hf => by have := (spL_ok h).2 f hf; omega
end Go.Proofs.YtgoajalaomakpaaGreat
namespace Go.Proofs.YtgoajalaomakpaaGreat
open Go Go.RowKit

/-- Messages that have the same members as the reports of calls. -/
def Cov (X : Nat → Cll) (S : Nat → List T2) (n : Nat) (p : Nat → Bool) (l : List Msg) : Prop := ∃ cor, ∀ y, y ∈ l ↔ ∃ j : Nat, j < n ∧ p j = true ∧ y ∈ rpP (j : Int) cor (X j) (S j)
def OkXS (X : Nat → Cll) (S : Nat → List T2) (n : Nat) : Prop := ∀ j : Nat, j < n → okCll (X j) ∧ ∀ y ∈ S j, okU2 y
theorem Cov.same {X : Nat → Cll} {S : Nat → List T2} {n : Nat} {p : Nat → Bool} {l l2 : List Msg} (h : Cov X S n p l) (he : ∀ y, y ∈ l2 ↔ y ∈ l) : Cov X S n p l2 := h.elim fun cor h => ⟨cor, fun y => (he y).trans (h y)⟩
theorem Cov.ok {X : Nat → Cll} {S : Nat → List T2} {n : Nat} {p : Nat → Bool} {l : List Msg} (h : Cov X S n p l) (hx : OkXS X S n) (hn : n ≤ 10) {y : Msg} (hy : y ∈ l) : okMsg y = true ∧ ∃ j : Nat, j < n ∧ p j = true ∧ y.c = (j : Int) := by
  obtain ⟨cor, h⟩ := h
  obtain ⟨j, hj, hp, hm⟩ := (h y).1 hy
  have := rpP_ok (hx j hj).1 (hx j hj).2 (c := (j : Int)) (by omega) hm
  exact ⟨this.1, j, hj, hp, this.2⟩
theorem Cov.rd {X : Nat → Cll} {S : Nat → List T2} {n : Nat} {p : Nat → Bool} {l : List Msg} (h : Cov X S n p l) (hx : OkXS X S n) (hn : n ≤ 10) (hl : l.length ≤ 100) : rdE l = 0 := by
  unfold rdE
  rw [if_neg (by omega), if_neg]
  intro q
  obtain ⟨y, hy, e⟩ := List.any_eq_true.1 q
  simp [(h.ok hx hn hy).1] at e
theorem Cov.noEd {X : Nat → Cll} {S : Nat → List T2} {n : Nat} {p : Nat → Bool} {l : List Msg} (h : Cov X S n p l) (hx : OkXS X S n) (hn : n ≤ 10) : NoEd l := by
  obtain ⟨cor, h⟩ := h
  intro a ha b hb e
  obtain ⟨i, hi, _, ha⟩ := (h a).1 ha
  obtain ⟨j, hj, _, hb⟩ := (h b).1 hb
  have h1 := (rpP_ok (hx i hi).1 (hx i hi).2 (c := (i : Int)) (by omega) ha).2
  have h2 := (rpP_ok (hx j hj).1 (hx j hj).2 (c := (j : Int)) (by omega) hb).2
  have h3 : a.c = b.c := congrArg Prod.fst e
  obtain rfl : i = j := by omega
  exact rpP_noEd a ha b hb e
theorem Cov.last {X : Nat → Cll} {S : Nat → List T2} {n : Nat} {p : Nat → Bool} {l : List Msg} (h : Cov X S n p l) (hx : OkXS X S n) (hn : n ≤ 10) {y : Msg} : LastIn l y ↔ ∃ j : Nat, j < n ∧ p j = true ∧ fcP (j : Int) (X j) (S j) y := by
  obtain ⟨cor, h⟩ := h
  constructor
  · rintro ⟨h1, h2, h3⟩
    obtain ⟨j, hj, hp, hm⟩ := (h y).1 h1
    exact ⟨j, hj, hp, rpP_last.1 ⟨hm, h2, fun m hm2 => h3 m ((h m).2 ⟨j, hj, hp, hm2⟩)⟩⟩
  · rintro ⟨j, hj, hp, hf⟩
    obtain ⟨h1, h2, h3⟩ := rpP_last (cor := cor).2 hf
    refine ⟨(h y).2 ⟨j, hj, hp, h1⟩, h2, fun m hm e1 e2 => ?_⟩
    obtain ⟨i, hi, _, hm⟩ := (h m).1 hm
    have q1 := (rpP_ok (hx i hi).1 (hx i hi).2 (c := (i : Int)) (by omega) hm).2
    have q2 := (rpP_ok (hx j hj).1 (hx j hj).2 (c := (j : Int)) (by omega) h1).2
    obtain rfl : i = j := by omega
    exact h3 m hm e1 e2
theorem Cov.err {X : Nat → Cll} {S : Nat → List T2} {n : Nat} {p : Nat → Bool} {l o : List Msg} {e : Int} (h : Cov X S n p l) (hx : OkXS X S n) (hn : n ≤ 10) (hl : l.length ≤ 100) (hR : RdR l o e) : e = 0 := by
  rcases hR.err with ⟨q, _⟩ | ⟨_, q, _⟩ | ⟨_, _, q⟩
  · exact absurd (h.rd hx hn hl) q
  · exact absurd (h.noEd hx hn) q
  · exact q
theorem Cov.rpo {X : Nat → Cll} {S : Nat → List T2} {n : Nat} {p : Nat → Bool} {l out : List Msg} (h : Cov X S n p l) (hx : OkXS X S n) (hn : n ≤ 10) (hR : RdR l out 0) {k : Nat} (hk : k < n) (hp : p k = true) : RpO (k : Int) (X k) (S k) (ofC out k) := by
  obtain ⟨_, _, h3, h4⟩ := hR.spec
  refine ⟨List.Pairwise.filter _ h3, fun y => ?_⟩
  unfold ofC
  rw [List.mem_filter, h4, h.last hx hn, Bool.not_not, decide_eq_true_eq]
  have key : ∀ j : Nat, j < n → fcP (j : Int) (X j) (S j) y → y.c = (j : Int) := fun j hj hf => (rpP_ok (cor := false) (hx j hj).1 (hx j hj).2 (c := (j : Int)) (by omega) (mem_rpP.2 (.inl hf))).2
  constructor
  · rintro ⟨⟨j, hj, _, hf⟩, e⟩
    have := key j hj hf
    obtain rfl : j = k := by omega
    exact hf
  · exact fun hf => ⟨⟨k, hk, hp, hf⟩, key k hk hf⟩
theorem Cov.has {X : Nat → Cll} {S : Nat → List T2} {n : Nat} {p : Nat → Bool} {l : List Msg} (h : Cov X S n p l) (hx : OkXS X S n) (hn : n ≤ 10) {k : Nat} (hk : k < n) : hasC l k = p k := by
  rw [Bool.eq_iff_iff]
  unfold hasC
  rw [List.any_eq_true]
  constructor
  · rintro ⟨y, hy, e⟩
    obtain ⟨_, j, _, hp, e2⟩ := h.ok hx hn hy
    rw [decide_eq_true_eq] at e
    obtain rfl : j = k := by omega
    exact hp
  · intro hp
    obtain ⟨cor, h⟩ := h
    exact ⟨noM (k : Int) ((X k).n % 1000), (h _).2 ⟨k, hk, hp, mem_rpP.2 (.inl (fcP_cases.2 (.inl rfl)))⟩, decide_eq_true rfl⟩
/-- A call's bill. -/
def blC (x : Cll) (ss : List T2) (fr : List Fre) : Bl := blP (tmC x) (tmW x) x.v0 (x.v1 % 400) (ltP x ss fr)
theorem RpO.bill {c : Int} {x : Cll} {ss : List T2} {out : List Msg} {fr : List Fre} {b : Bl} {e : Int} (h : RpO c x ss out) (hx : okCll x) (hs : ∀ y ∈ ss, okU2 y) (hb : BlF (tmC x) (tmW x) fr out b e) : e = 0 ∧ b = blC x ss fr := by
  obtain ⟨o1, o2⟩ := h.open hx hs fr
  have k1 : gtG (onS out out.length) 1 = some (noM c (x.n % 1000)) := h.get (fcP_cases.2 (.inl rfl)) (by show ¬ ((1 : Int) = 2 ∨ (1 : Int) = 3); decide)
  have k4 : gtG (onS out out.length) 4 = some (enM c (x.n % 1000) x ss) := h.get (fcP_cases.2 (.inr (.inr (.inl rfl)))) (by show ¬ ((4 : Int) = 2 ∨ (4 : Int) = 3); decide)
  have k5 : gtG (onS out out.length) 5 = some (toM c x) := h.get (fcP_cases.2 (.inr (.inr (.inr (.inl rfl))))) (by show ¬ ((5 : Int) = 2 ∨ (5 : Int) = 3); decide)
  have k6 : gtG (onS out out.length) 6 = some (leM c x) := h.get (fcP_cases.2 (.inr (.inr (.inr (.inr rfl))))) (by show ¬ ((6 : Int) = 2 ∨ (6 : Int) = 3); decide)
  obtain ⟨n1, en, g1, g4, hb⟩ := hb
  rw [k1] at g1
  rw [k4] at g4
  simp only [Option.some.injEq] at g1 g4
  subst g1 g4
  rcases hb with ⟨_, _, q | ⟨q, _⟩⟩ | ⟨e0, t5, g5, _, hb⟩
  · rw [k5] at q; cases q
  · rw [k6] at q; cases q
  · rw [k5] at g5
    simp only [Option.some.injEq] at g5
    subst g5
    refine ⟨e0, ?_⟩
    have e6 : lvP (onS out out.length) = x.v1 % 400 := by unfold lvP; rw [k6]; rfl
    rw [hb, o2, e6]
    rfl
/-- What a bill keeps. -/
structure BlOk (x : Cll) (ss : List T2) (fr : List Fre) : Prop where
  t : (blC x ss fr).t = (blC x ss fr).f + (blC x ss fr).o + (blC x ss fr).d - (blC x ss fr).e
  b : (0 ≤ (blC x ss fr).f ∧ (blC x ss fr).f ≤ 10000000000000) ∧ (0 ≤ (blC x ss fr).o ∧ (blC x ss fr).o ≤ 100000000000001) ∧ (0 ≤ (blC x ss fr).d ∧ (blC x ss fr).d ≤ 10000000000000) ∧ (0 ≤ (blC x ss fr).e ∧ (blC x ss fr).e ≤ 10000000000000)
  c : 0 ≤ (blC x ss fr).c ∧ (blC x ss fr).c ≤ (blC x ss fr).f + (blC x ss fr).o
  d : (ltP x ss fr).o = 0 → (blC x ss fr).d = 0
  e : (ltP x ss fr).s = 0 → (blC x ss fr).e = 0
  f : (tmC x).r * (tmC x).n ≤ (blC x ss fr).f
  r : 0 ≤ (tmC x).r * (tmC x).n
  l : ¬ (0 < (ltP x ss fr).o ∧ 0 < (ltP x ss fr).s)
theorem nth_setC {α : Type} [Inhabited α] {xs : List α} {i j : Nat} {v : α} (h : j < xs.length) : nth (xs.set i v) j = if i = j then v else nth xs j := by
  rw [nth_eq (by rw [List.length_set]; exact h), nth_eq h, List.getElem_set]
/-- The parties' balances. -/
def baP (p : Nat → Bool) (X : Nat → Cll) (S : Nat → List T2) (fr : List Fre) : Nat → List Int
  | 0 => List.replicate 100 0
  | k + 1 => if p k = true then balN (baP p X S fr k) (tmC (X k)) (blC (X k) (S k) fr) else baP p X S fr k
theorem balN_len {b : List Int} {c : Chr} {x : Bl} : (balN b c x).length = b.length := by
  unfold balN
  rw [List.length_set, List.length_set, List.length_set]
theorem baP_len {p : Nat → Bool} {X : Nat → Cll} {S : Nat → List T2} {fr : List Fre} : ∀ k, (baP p X S fr k).length = 100
  | 0 => List.length_replicate ..
  | k + 1 => by
    unfold baP
    split
    · rw [balN_len, baP_len k]
    · exact baP_len k
/-- One charter's messages. -/
theorem Cov.rpo1 {X : Nat → Cll} {S : Nat → List T2} {n i : Nat} {l out : List Msg} (h : Cov X S n (fun j => decide (j = i)) l) (hx : OkXS X S n) (hn : n ≤ 10) (hi : i < n) (hR : RdR l out 0) : RpO (i : Int) (X i) (S i) out := by
  obtain ⟨_, _, h3, h4⟩ := hR.spec
  refine ⟨h3, fun y => ?_⟩
  rw [h4, h.last hx hn]
  constructor
  · rintro ⟨j, hj, hp, hf⟩
    obtain rfl : j = i := of_decide_eq_true hp
    exact hf
  · exact fun hf => ⟨i, hi, decide_eq_true rfl, hf⟩
theorem Cov.one {X : Nat → Cll} {S : Nat → List T2} {n i : Nat} {l : List Msg} (h : Cov X S n (fun j => decide (j = i)) l) (hx : OkXS X S n) (hn : n ≤ 10) : oneC l = true := by
  have key : ∀ y ∈ l, y.c = (i : Int) := fun y hy => by
    obtain ⟨_, j, _, hp, e⟩ := h.ok hx hn hy
    obtain rfl : j = i := of_decide_eq_true hp
    exact e
  unfold oneC
  rw [Bool.not_eq_true', List.any_eq_false]
  intro y hy
  rw [decide_eq_true_eq, key y hy, key _ (nth_mem (List.length_pos_of_mem hy))]
  exact fun q => q rfl
theorem Cov.lt {X : Nat → Cll} {S : Nat → List T2} {n i : Nat} {l : List Msg} {fr : List Fre} {lc : Lc} {e : Int} (h : Cov X S n (fun j => decide (j = i)) l) (hx : OkXS X S n) (hn : n ≤ 10) (hi : i < n) (hl : l.length ≤ 100) (hf : chkFr fr = 0) (hL : LtR (tmC (X i)) (tmW (X i)) fr l lc e) : e = 0 ∧ lc = ltP (X i) (S i) fr := by
  obtain ⟨out, hR, he, hL⟩ := hL.ok (tmC_ok (hx i hi).1) hf (h.rd hx hn hl) (h.noEd hx hn) (h.one hx hn)
  have hO := h.rpo1 hx hn hi hR
  obtain ⟨o1, o2⟩ := hO.open (hx i hi).1 (hx i hi).2 fr
  have e0 : e = 0 := he.trans o1.eq
  rcases hL with ⟨q, _⟩ | ⟨_, n1, en, g1, g4, rfl⟩
  · exact absurd e0 q
  · have k1 : gtG (onS out out.length) 1 = some (noM (i : Int) ((X i).n % 1000)) := hO.get (fcP_cases.2 (.inl rfl)) (by show ¬ ((1 : Int) = 2 ∨ (1 : Int) = 3); decide)
    have k4 : gtG (onS out out.length) 4 = some (enM (i : Int) ((X i).n % 1000) (X i) (S i)) := hO.get (fcP_cases.2 (.inr (.inr (.inl rfl)))) (by show ¬ ((4 : Int) = 2 ∨ (4 : Int) = 3); decide)
    rw [k1] at g1
    rw [k4] at g4
    simp only [Option.some.injEq] at g1 g4
    subst g1 g4
    refine ⟨e0, ?_⟩
    rw [o2]
    rfl
theorem Cov.bi {X : Nat → Cll} {S : Nat → List T2} {n i : Nat} {l : List Msg} {fr : List Fre} {b : Bl} {e : Int} (h : Cov X S n (fun j => decide (j = i)) l) (hx : OkXS X S n) (hn : n ≤ 10) (hi : i < n) (hl : l.length ≤ 100) (hf : chkFr fr = 0) (hB : BiR (tmC (X i)) (tmW (X i)) fr l b e) : e = 0 ∧ b = blC (X i) (S i) fr := by
  obtain ⟨out, hR, hB⟩ := hB.ok (tmC_ok (hx i hi).1) hf (h.rd hx hn hl) (h.noEd hx hn) (h.one hx hn)
  have hO := h.rpo1 hx hn hi hR
  obtain ⟨o1, _⟩ := hO.open (hx i hi).1 (hx i hi).2 fr
  rcases hB with ⟨q, he, _⟩ | ⟨_, hB⟩
  · exact absurd (he.trans o1.eq) q
  · exact hO.bill (hx i hi).1 (hx i hi).2 hB
/-- The reports of the first calls. -/
def rpC (cor : Bool) (X : Nat → Cll) (S : Nat → List T2) : Nat → List Msg
  | 0 => []
  | k + 1 => rpC cor X S k ++ rpP (k : Int) cor (X k) (S k)
theorem mem_rpC {cor : Bool} {X : Nat → Cll} {S : Nat → List T2} {y : Msg} : ∀ {k : Nat}, y ∈ rpC cor X S k ↔ ∃ j : Nat, j < k ∧ y ∈ rpP (j : Int) cor (X j) (S j)
  | 0 => ⟨fun h => (by cases h), fun ⟨_, h, _⟩ => absurd h (Nat.not_lt_zero _)⟩
  | k + 1 => by
    rw [rpC, List.mem_append, mem_rpC (k := k)]
    constructor
    · rintro (⟨j, hj, h⟩ | h)
      · exact ⟨j, by omega, h⟩
      · exact ⟨k, by omega, h⟩
    · rintro ⟨j, hj, h⟩
      rcases Nat.lt_succ_iff_lt_or_eq.1 hj with q | rfl
      · exact .inl ⟨j, q, h⟩
      · exact .inr h
theorem rpC_len {cor : Bool} {X : Nat → Cll} {S : Nat → List T2} : ∀ k, (rpC cor X S k).length ≤ 30 * k
  | 0 => Nat.le_refl _
  | k + 1 => by
    have := rpC_len (cor := cor) (X := X) (S := S) k
    have := rpP_len (c := (k : Int)) (cor := cor) (x := X k) (ss := S k)
    rw [rpC, List.length_append]
    omega
theorem rpC_cov {cor : Bool} {X : Nat → Cll} {S : Nat → List T2} {n : Nat} : Cov X S n (fun _ => true) (rpC cor X S n) := ⟨cor, fun y => by
  rw [mem_rpC]
  exact ⟨fun ⟨j, h1, h2⟩ => ⟨j, h1, rfl, h2⟩, fun ⟨j, h1, _, h2⟩ => ⟨j, h1, h2⟩⟩⟩
theorem Cov.fil {X : Nat → Cll} {S : Nat → List T2} {n i : Nat} {l : List Msg} (h : Cov X S n (fun _ => true) l) (hx : OkXS X S n) (hn : n ≤ 10) : Cov X S n (fun j => decide (j = i)) (l.filter fun m => decide (m.c = (i : Int))) := by
  obtain ⟨cor, h⟩ := h
  refine ⟨cor, fun y => ?_⟩
  rw [List.mem_filter, h, decide_eq_true_eq]
  constructor
  · rintro ⟨⟨j, hj, _, hm⟩, e⟩
    have := (rpP_ok (hx j hj).1 (hx j hj).2 (c := (j : Int)) (by omega) hm).2
    exact ⟨j, hj, decide_eq_true (by omega), hm⟩
  · rintro ⟨j, hj, hp, hm⟩
    have := (rpP_ok (hx j hj).1 (hx j hj).2 (c := (j : Int)) (by omega) hm).2
    obtain rfl : j = i := of_decide_eq_true hp
    exact ⟨⟨j, hj, rfl, hm⟩, this⟩

theorem ChB.val {cs : List HC} {fr : List Fre} {out : List Msg} {k : Nat} {b : Bl} {e : Int} {x : Cll} {ss : List T2} (h : ChB cs fr out k b e) (hR : RpO (k : Int) x ss (ofC out k)) (hv : (nth cs k).v = tmC x ∧ (nth cs k).ws = tmW x) (hx : okCll x) (hs : ∀ y ∈ ss, okU2 y) : e = 0 ∧ b = blC x ss fr := by
  obtain ⟨ex, n1, en, hO, g1, g4, hB⟩ := h
  rw [hv.1, hv.2] at hB
  exact hR.bill hx hs (hB.toF (okCh_rng (tmC_ok hx)).2.2.2.2.1.1.1 hO g1 g4)
theorem BaK.val {cs : List HC} {fr : List Fre} {l out : List Msg} {X : Nat → Cll} {S : Nat → List T2} {n : Nat} {p : Nat → Bool} (hc : Cov X S n p l) (hx : OkXS X S n) (hn : n ≤ 10) (hR : RdR l out 0) (hv : ∀ k, k < n → (nth cs k).v = tmC (X k) ∧ (nth cs k).ws = tmW (X k)) : ∀ {k : Nat} {b : List Int}, k ≤ n → BaK cs fr l out k b → b = baP p X S fr k
  | 0, _, _, h => h
  | k + 1, b, hk, h => by
    obtain ⟨b0, h0, h⟩ := h
    have ih := BaK.val hc hx hn hR hv (k := k) (by omega) h0
    have hh := hc.has hx hn (k := k) (by omega)
    unfold baP
    rcases h with ⟨q, rfl⟩ | ⟨q, x, hB, rfl⟩
    · rw [if_neg (by rw [← hh, q]; exact Bool.false_ne_true), ih]
    · rw [if_pos (by rw [← hh, q]), ((hB.val (hc.rpo hx hn hR (by omega) (by rw [← hh, q])) (hv k (by omega)) (hx k (by omega)).1 (hx k (by omega)).2)).2, ih, (hv k (by omega)).1]
theorem BalR.val {cs : List HC} {fr : List Fre} {l : List Msg} {b : List Int} {e : Int} (h : BalR cs fr l b e) {X : Nat → Cll} {S : Nat → List T2} {n : Nat} {p : Nat → Bool} (hc : Cov X S n p l) (hl : l.length ≤ 100) (hx : OkXS X S n) (hn : n ≤ 10) (hcs : cs.length = n) (hv : ∀ k, k < n → (nth cs k).v = tmC (X k) ∧ (nth cs k).ws = tmW (X k)) (hf : chkFr fr = 0) : e = 0 ∧ b = baP p X S fr n := by
  rcases h with ⟨q, _⟩ | ⟨_, q, _⟩ | ⟨_, _, ⟨q, _⟩ | ⟨_, ⟨he, _, o, hR⟩ | ⟨out, hR, ⟨q, _⟩ | ⟨_, ⟨he, _, k, b0, hk, _, hh, q⟩ | ⟨he, hB⟩⟩⟩⟩⟩
  · omega
  · obtain ⟨h, hm, q⟩ := List.any_eq_true.1 q
    obtain ⟨i, hi, rfl⟩ := List.mem_iff_getElem.1 hm
    rw [decide_eq_true_eq, ← nth_eq hi, (hv i (by omega)).1, (hv i (by omega)).2] at q
    exact absurd (tmC_ok (hx i (by omega)).1) q
  · exact absurd hf q
  · exact absurd (hc.err hx hn hl hR) he
  · obtain ⟨y, hy, q⟩ := List.any_eq_true.1 q
    rw [decide_eq_true_eq] at q
    obtain ⟨_, j, hj, _, e⟩ := hc.ok hx hn hy
    omega
  · have hp : p k = true := by rw [← hc.has hx hn (k := k) (by omega)]; exact hh
    have hO := hc.rpo hx hn hR (k := k) (by omega) hp
    rcases q with q | ⟨x, q⟩
    · have := q.eq
      rw [(hO.open (hx k (by omega)).1 (hx k (by omega)).2 fr).1.eq] at this
      exact absurd this.1 this.2
    · exact absurd (q.val hO (hv k (by omega)) (hx k (by omega)).1 (hx k (by omega)).2).1 he
  · rw [hcs] at hB
    exact ⟨he, BaK.val hc hx hn hR hv (Nat.le_refl _) hB⟩

end Go.Proofs.YtgoajalaomakpaaGreat
namespace Go.Proofs.YtgoajalaomakpaaGreat
open Go Go.RowKit

theorem mem_nth {α : Type} [Inhabited α] {xs : List α} {y : α} : y ∈ xs ↔ ∃ i, i < xs.length ∧ nth xs i = y := by
  rw [List.mem_iff_getElem]
  exact ⟨fun ⟨i, hi, e⟩ => ⟨i, hi, (nth_eq hi).trans e⟩, fun ⟨i, hi, e⟩ => ⟨i, hi, (nth_eq hi).symm.trans e⟩⟩
theorem mem_swap {α : Type} [Inhabited α] {xs : List α} {k n : Nat} (hk : k < xs.length) (hn : n < xs.length) {y : α} : y ∈ (xs.set k (nth xs n)).set n (nth xs k) ↔ y ∈ xs := by
  have hl : ((xs.set k (nth xs n)).set n (nth xs k)).length = xs.length := by rw [List.length_set, List.length_set]
  have at_ : ∀ i, i < xs.length → nth ((xs.set k (nth xs n)).set n (nth xs k)) i = if n = i then nth xs k else if k = i then nth xs n else nth xs i := fun i hi => by
    rw [nth_setC (by rw [List.length_set]; exact hi), nth_setC hi]
  rw [mem_nth, mem_nth, hl]
  constructor
  · rintro ⟨i, hi, e⟩
    rw [at_ i hi] at e
    split at e
    · exact ⟨k, hk, e⟩
    · split at e
      · exact ⟨n, hn, e⟩
      · exact ⟨i, hi, e⟩
  · rintro ⟨i, hi, e⟩
    by_cases q1 : k = i
    · exact ⟨n, hn, by rw [at_ n hn, if_pos rfl, q1, e]⟩
    · by_cases q2 : n = i
      · refine ⟨k, hk, ?_⟩
        rw [at_ k hk, if_pos rfl]
        by_cases q3 : n = k
        · omega
        · rw [if_neg q3, q2, e]
      · exact ⟨i, hi, by rw [at_ i hi, if_neg q2, if_neg q1, e]⟩
theorem nodup_le {α : Type} : ∀ {xs ys : List α}, xs.Nodup → (∀ x ∈ xs, x ∈ ys) → xs.length ≤ ys.length
  | [], _, _, _ => Nat.zero_le _
  | x :: xs, ys, hn, h => by
    obtain ⟨s, t, rfl⟩ := List.append_of_mem (h x (by simp))
    rw [List.nodup_cons] at hn
    have := nodup_le (xs := xs) (ys := s ++ t) hn.2 fun z hz => by
      have h1 := h z (List.mem_cons_of_mem _ hz)
      rw [List.mem_append, List.mem_cons] at h1
      rw [List.mem_append]
      rcases h1 with q | q | q
      · exact .inl q
      · rw [q] at hz; exact absurd hz hn.1
      · exact .inr q
    rw [List.length_append] at this
    rw [List.length_append, List.length_cons, List.length_cons]
    omega
/-- How often a fact is found. -/
def fdK (x : Msg) (l : List Msg) : Nat → Int
  | 0 => 0
  | k + 1 => if x = nth l k then fdK x l k + 1 else fdK x l k
theorem fdK_at {x : Msg} {l : List Msg} (hn : l.Nodup) : ∀ {k : Nat}, k ≤ l.length → fdK x l k = if x ∈ l.take k then 1 else 0
  | 0, _ => by simp [fdK]
  | k + 1, h => by
    have ih := fdK_at (x := x) hn (k := k) (by omega)
    have hk : nth l k ∉ l.take k := fun q => by
      obtain ⟨i, hi, e⟩ := List.getElem_of_mem q
      rw [List.length_take] at hi
      rw [List.getElem_take] at e
      have := List.pairwise_iff_getElem.1 hn i k (by omega) (by omega) (by omega)
      exact this (by rw [e, nth_eq (by omega)])
    rw [fdK, ih, take_nth (by omega)]
    by_cases q : x = nth l k
    · subst q
      rw [if_pos rfl, if_neg hk, if_pos (by simp)]; rfl
    · rw [if_neg q]
      have e : (x ∈ l.take k ++ [nth l k]) ↔ x ∈ l.take k := by
        rw [List.mem_append, List.mem_singleton]
        exact ⟨fun h => h.resolve_right q, .inl⟩
      by_cases q2 : x ∈ l.take k
      · rw [if_pos q2, if_pos (e.2 q2)]
      · rw [if_neg q2, if_neg (fun h => q2 (e.1 h))]
theorem fdK_one {x : Msg} {l : List Msg} (hn : l.Nodup) (h : x ∈ l) : fdK x l l.length = 1 := by
  rw [fdK_at hn (Nat.le_refl _), List.take_length, if_pos h]
theorem fdK_bd {x : Msg} {l : List Msg} : ∀ {k : Nat}, 0 ≤ fdK x l k ∧ fdK x l k ≤ (k : Int)
  | 0 => by unfold fdK; omega
  | k + 1 => by
    have := fdK_bd (x := x) (l := l) (k := k)
    unfold fdK
    split <;> omega
theorem pw_nodup {l : List Msg} (h : l.Pairwise FLt) : l.Nodup := h.imp fun {a b} q e => by
  subst e
  exact FLt.asym _ _ q q
theorem rpP_nodup {c : Int} {x : Cll} {ss : List T2} (hx : okCll x) (hs : ∀ y ∈ ss, okU2 y) : (rpP c false x ss).Nodup := by
  obtain ⟨h1, h2⟩ := mnL_pw (c := c) hx hs
  have e : rpP c false x ss = mnL c x ss ++ [toM c x, leM c x] := by
    unfold rpP mnL
    rw [if_neg Bool.false_ne_true, List.append_nil, List.append_assoc]
    rfl
  rw [e]
  refine List.pairwise_append.2 ⟨pw_nodup h1, ?_, fun a ha b hb q => ?_⟩
  · refine List.pairwise_pair.2 fun q => ?_
    have := congrArg Msg.n q
    exact absurd this (by show ¬ (600 : Int) = 601; decide)
  · have h3 := h2 a ha
    rw [q] at h3
    rcases List.mem_cons.1 hb with rfl | hb
    · exact absurd h3 (by show ¬ (5 : Int) ≤ 4; decide)
    · rw [List.mem_singleton.1 hb] at h3
      exact absurd h3 (by show ¬ (6 : Int) ≤ 4; decide)
theorem rpC_nodup {X : Nat → Cll} {S : Nat → List T2} : ∀ {n : Nat}, OkXS X S n → n ≤ 10 → (rpC false X S n).Nodup
  | 0, _, _ => List.nodup_nil
  | n + 1, hx, hn => by
    refine List.pairwise_append.2 ⟨rpC_nodup (fun j hj => hx j (by omega)) (by omega), rpP_nodup (hx n (by omega)).1 (hx n (by omega)).2, fun a ha b hb q => ?_⟩
    obtain ⟨j, hj, ha⟩ := mem_rpC.1 ha
    have h1 := (rpP_ok (hx j (by omega)).1 (hx j (by omega)).2 (c := (j : Int)) (by omega) ha).2
    have h2 := (rpP_ok (hx n (by omega)).1 (hx n (by omega)).2 (c := (n : Int)) (by omega) hb).2
    rw [q] at h1
    omega
/-- All facts are in the messages that nothing corrects, and no other ones. -/
theorem Cov.facts {X : Nat → Cll} {S : Nat → List T2} {n : Nat} {l out : List Msg} (h : Cov X S n (fun _ => true) l) (hx : OkXS X S n) (hn : n ≤ 10) (hR : RdR l out 0) : (∀ y, y ∈ out ↔ y ∈ rpC false X S n) ∧ out.length = (rpC false X S n).length := by
  obtain ⟨_, _, h3, h4⟩ := hR.spec
  have hm : ∀ y, y ∈ out ↔ y ∈ rpC false X S n := fun y => by
    rw [h4, h.last hx hn, mem_rpC]
    constructor
    · rintro ⟨j, hj, _, hf⟩
      exact ⟨j, hj, mem_rpP.2 (.inl hf)⟩
    · rintro ⟨j, hj, hf⟩
      exact ⟨j, hj, rfl, (mem_rpP.1 hf).resolve_right fun q => absurd q.1 Bool.false_ne_true⟩
  exact ⟨hm, Nat.le_antisymm (nodup_le (pw_nodup h3) fun x q => (hm x).1 q) (nodup_le (rpC_nodup hx hn) fun x q => (hm x).2 q)⟩

end Go.Proofs.YtgoajalaomakpaaGreat
