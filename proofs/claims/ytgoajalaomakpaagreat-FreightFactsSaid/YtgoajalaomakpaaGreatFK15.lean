/-
  Part 15 of the proof: contracts and plain laws. Conditions: none.
-/
import Derived.Test.YtgoajalaomakpaaGreatFK14
namespace Go.Proofs.YtgoajalaomakpaaGreat
open Go Go.RowKit Go.Proofs.Tryz

theorem Acc.takeN {α : Type} {enc : α → List Value} {k : Nat} {e : TypeId} {base : Nat} {w : World} {ao : Option Addr} {g cap : Nat} {xs : List α} (hk : ∀ x, (enc x).length = k) (h : Acc enc k e base w ao g cap xs) (n : Nat) : Acc enc k e base w ao g cap (xs.take n) := by
  refine ⟨h.lt, ?_⟩
  rcases h.at_ with ⟨h1, h2, h3, h4⟩ | ⟨h1, h2, cur, h3, h4, h5, h6, h7⟩
  · exact .inl ⟨h1, by rw [h2]; simp, h3, h4⟩
  · refine .inr ⟨h1, h2, cur, h3, by rw [List.length_take]; omega, h5, h6, ?_⟩
    have h9 := congrArg (List.take ((xs.take n).length * k)) h7
    rw [List.take_take, Nat.min_eq_left (Nat.mul_le_mul_right k (by rw [List.length_take]; omega))] at h9
    have e9 : xs.flatMap enc = (xs.take n).flatMap enc ++ (xs.drop n).flatMap enc := by rw [← List.flatMap_append, List.take_append_drop]
    have e8 := flatMap_len hk (xs.take n)
    rw [h9, e9, List.take_append_of_le_length (by omega), List.take_of_length_le (by omega)]
theorem Acc.subTo0 {α : Type} {enc : α → List Value} {k j : Nat} {e : TypeId} {base : Nat} {w : World} {ao : Option Addr} {g cap : Nat} {xs : List α} (h : Acc enc k e base w ao g cap xs) : subAddr ao cap 0 j = ao := by
  unfold subAddr
  split
  · rfl
  · rcases h.at_ with ⟨h1, _⟩ | ⟨h1, _⟩
    · rw [h1]; rfl
    · rw [h1, Nat.zero_mul]; simp [addr_add]

/-- An element put into a strict order. -/
theorem ins_pw {α : Type} [Inhabited α] {R : α → α → Prop} (tr : ∀ a b c, R a b → R b c → R a c) {x : α} {out : List α} {k : Nat} (h : out.Pairwise R) (hk : k ≤ out.length) (h1 : 0 < k → R (nth out (k - 1)) x) (h2 : ∀ j, k ≤ j → j < out.length → R x (nth out j)) : (out.take k ++ ([x] ++ out.drop k)).Pairwise R := by
  rw [List.pairwise_append]
  refine ⟨h.sublist (List.take_sublist _ _), (List.pairwise_cons (l := out.drop k)).2 ⟨fun y hy => ?_, h.sublist (List.drop_sublist _ _)⟩, fun a ha b hb => ?_⟩
  · obtain ⟨j, hj, rfl⟩ := List.getElem_of_mem hy
    rw [List.length_drop] at hj
    rw [List.getElem_drop, ← nth_eq]
    exact h2 (k + j) (by omega) (by omega)
  · obtain ⟨i, hi, rfl⟩ := List.getElem_of_mem ha
    rw [List.length_take] at hi
    rw [List.getElem_take, ← nth_eq]
    have h3 : R (nth out i) x := by
      rcases Nat.lt_or_ge i (k - 1) with q | q
      · have h4 := List.pairwise_iff_getElem.1 h i (k - 1) (by omega) (by omega) q
        rw [← nth_eq, ← nth_eq] at h4
        exact tr _ _ _ h4 (h1 (by omega))
      · rw [show i = k - 1 by omega]; exact h1 (by omega)
    rcases List.mem_append.1 hb with hb | hb
    · rw [List.mem_singleton.1 hb]; exact h3
    · obtain ⟨j, hj, rfl⟩ := List.getElem_of_mem hb
      rw [List.length_drop] at hj
      rw [List.getElem_drop, ← nth_eq]
      exact tr _ _ _ h3 (h2 (k + j) (by omega) (by omega))
theorem ins_mem {α : Type} {out : List α} {x y : α} {k : Nat} : y ∈ out.take k ++ ([x] ++ out.drop k) ↔ y ∈ out ∨ y = x := by
  have h : y ∈ out ↔ y ∈ out.take k ∨ y ∈ out.drop k := by rw [← List.mem_append, List.take_append_drop]
  rw [h]
  simp only [List.mem_append, List.mem_singleton]
  constructor
  · rintro (a | a | a)
    · exact .inl (.inl a)
    · exact .inr a
    · exact .inl (.inr a)
  · rintro ((a | a) | a)
    · exact .inl a
    · exact .inr (.inr a)
    · exact .inr (.inl a)
theorem FLt.trans (a b c : Msg) (h1 : FLt a b) (h2 : FLt b c) : FLt a c := by
  unfold FLt at *
  rw [cmpF_lt] at *
  omega
theorem eqMsgB (x y : Msg) : (decide (x.c = y.c) && decide (x.n = y.n) && decide (x.r = y.r) && decide (x.k = y.k) && decide (x.m = y.m) && decide (x.v = y.v)) = decide (x = y) := by
  rw [Bool.eq_iff_iff]
  simp only [Bool.and_eq_true, decide_eq_true_eq]
  exact ⟨fun h => Msg.eq6 ⟨h.1.1.1.1.1, h.1.1.1.1.2, h.1.1.1.2, h.1.1.2, h.1.2, h.2⟩, fun h => by rw [h]; simp⟩
theorem neMsgB (x y : Msg) : (!(decide (x.c = y.c) && decide (x.n = y.n) && decide (x.r = y.r) && decide (x.k = y.k) && decide (x.m = y.m) && decide (x.v = y.v))) = decide (¬ x = y) := by rw [eqMsgB, decide_not]
/-- What Messages returns. -/
def MgE (l : List Msg) (e : Int) : Prop := (rdE l ≠ 0 ∧ e = rdE l) ∨ (rdE l = 0 ∧ ¬ NoEd l ∧ e = 6) ∨ (rdE l = 0 ∧ NoEd l ∧ e = 0)
def EdK (l : List Msg) (i k : Nat) : Prop := ∀ j, j < k → edK (nth l i) = edK (nth l j) → nth l i = nth l j
theorem edK_iff {a b : Msg} : edK a = edK b ↔ a.c = b.c ∧ a.n = b.n ∧ a.r = b.r := by unfold edK; simp
theorem noEd_all {l : List Msg} (h : ∀ i, i < l.length → EdK l i i) : NoEd l := fun a ha b hb e => by
  obtain ⟨i, hi, rfl⟩ := List.getElem_of_mem ha
  obtain ⟨j, hj, rfl⟩ := List.getElem_of_mem hb
  rw [← nth_eq hi, ← nth_eq hj] at *
  rcases Nat.lt_trichotomy i j with q | q | q
  · exact (h j hj i q e.symm).symm
  · rw [q]
  · exact h i hi j q e
theorem rdE_none {l : List Msg} (h1 : ¬ 100 < l.length) (h2 : ∀ j, j < l.length → okMsg (nth l j) = true) : rdE l = 0 := by
  unfold rdE
  rw [if_neg h1, if_neg]
  intro q
  obtain ⟨x, hx, h⟩ := List.any_eq_true.1 q
  obtain ⟨i, hi, rfl⟩ := List.getElem_of_mem hx
  have := h2 i hi
  rw [nth_eq hi] at this
  simp [this] at h
/-- A message that comes to nothing by another one. -/
def badB (l : List Msg) (i k : Nat) : Prop := (nth l i).c = (nth l k).c ∧ (nth l i).n = (nth l k).n ∧ ((nth l i).r < (nth l k).r ∨ (nth l k = nth l i ∧ k < i))
instance (l : List Msg) (i k : Nat) : Decidable (badB l i k) := by unfold badB; infer_instance
def lastK (l : List Msg) (i : Nat) : Nat → Bool
  | 0 => decide ((nth l i).k ≠ 7)
  | k + 1 => lastK l i k && !decide (badB l i k)
theorem lastK_yes {l : List Msg} {i k : Nat} (h : badB l i k) : lastK l i (k + 1) = false := by simp [lastK, h]
theorem lastK_no {l : List Msg} {i k : Nat} (h : ¬ badB l i k) : lastK l i (k + 1) = lastK l i k := by simp [lastK, h]
theorem lastK_iff {l : List Msg} {i : Nat} : ∀ {k : Nat}, lastK l i k = true ↔ (nth l i).k ≠ 7 ∧ ∀ j, j < k → ¬ badB l i j
  | 0 => by simp [lastK]
  | k + 1 => by
    rw [lastK, Bool.and_eq_true, lastK_iff]
    constructor
    · rintro ⟨⟨h1, h2⟩, h3⟩
      exact ⟨h1, fun j hj => (Nat.lt_succ_iff_lt_or_eq.1 hj).elim (h2 j) (fun e => by subst e; simpa using h3)⟩
    · rintro ⟨h1, h2⟩
      exact ⟨⟨h1, fun j hj => h2 j (by omega)⟩, by simpa using h2 k (by omega)⟩
/-- The facts of the first messages. -/
structure OutI (l : List Msg) (i : Nat) (out : List Msg) : Prop where
  pw : out.Pairwise FLt
  mem : ∀ x, x ∈ out ↔ ∃ j, j < i ∧ nth l j = x ∧ lastK l j l.length = true
  len : out.length ≤ i
theorem OutI.skip {l out : List Msg} {i : Nat} (h : OutI l i out) (hl : lastK l i l.length = false) : OutI l (i + 1) out :=
  ⟨h.pw, fun x => by
    rw [h.mem]
    constructor
    · rintro ⟨j, q1, q2⟩; exact ⟨j, by omega, q2⟩
    · rintro ⟨j, q1, q2, q3⟩
      rcases Nat.lt_succ_iff_lt_or_eq.1 q1 with q | rfl
      · exact ⟨j, q, q2, q3⟩
      · exact absurd (hl.symm.trans q3) Bool.false_ne_true, Nat.le_succ_of_le h.len⟩
theorem OutI.put {l out : List Msg} {i k : Nat} (h : OutI l i out) (hE : NoEd l) (hi : i < l.length) (hl : lastK l i l.length = true) (hk : k ≤ out.length) (h1 : ¬ (0 < k ∧ FLt (nth l i) (nth out (k - 1)))) (h2 : ∀ j, k ≤ j → j < out.length → FLt (nth l i) (nth out j)) : OutI l (i + 1) (out.take k ++ ([nth l i] ++ out.drop k)) := by
  have hne : ∀ y ∈ out, keK y ≠ keK (nth l i) := fun y hy e => by
    obtain ⟨j, hj, rfl, hlj⟩ := (h.mem y).1 hy
    obtain ⟨_, q1⟩ := lastK_iff.1 hl
    obtain ⟨_, q2⟩ := lastK_iff.1 hlj
    have e1 : (nth l j).c = (nth l i).c := congrArg Prod.fst e
    have e2 : (nth l j).n = (nth l i).n := congrArg Prod.snd e
    have r1 : ¬ (nth l j).r < (nth l i).r := fun q => q2 i hi ⟨e1, e2, .inl q⟩
    have r2 : ¬ (nth l i).r < (nth l j).r := fun q => q1 j (by omega) ⟨e1.symm, e2.symm, .inl q⟩
    have e3 : nth l j = nth l i := hE _ (nth_mem (by omega)) _ (nth_mem hi) (by rw [edK_iff]; exact ⟨e1, e2, by omega⟩)
    exact q1 j (by omega) ⟨e1.symm, e2.symm, .inr ⟨e3, hj⟩⟩
  refine ⟨ins_pw FLt.trans h.pw hk (fun q => cmpF_ne (fun q2 => h1 ⟨q, q2⟩) (hne _ (nth_mem (by omega)))) h2, fun x => ?_, ?_⟩
  · rw [ins_mem, h.mem]
    constructor
    · rintro (⟨j, q1, q2⟩ | rfl)
      · exact ⟨j, by omega, q2⟩
      · exact ⟨i, by omega, rfl, hl⟩
    · rintro ⟨j, q1, q2, q3⟩
      rcases Nat.lt_succ_iff_lt_or_eq.1 q1 with q | rfl
      · exact .inl ⟨j, q, q2, q3⟩
      · exact .inr q2.symm
  · have := h.len
    simp only [List.length_append, List.length_take, List.length_drop, List.length_singleton]
    omega
theorem OutI.fin {l out : List Msg} (h : OutI l l.length out) : ∀ x, x ∈ out ↔ LastIn l x := fun x => by
  rw [h.mem]
  constructor
  · rintro ⟨j, hj, rfl, hl⟩
    obtain ⟨q1, q2⟩ := lastK_iff.1 hl
    refine ⟨nth_mem hj, q1, fun m hm hc hn => ?_⟩
    obtain ⟨i, hi, rfl⟩ := List.getElem_of_mem hm
    rw [← nth_eq hi] at *
    exact Int.not_lt.1 (fun q => q2 i hi ⟨hc.symm, hn.symm, .inl q⟩)
  · rintro ⟨hx, hk, hr⟩
    have : ∃ j, j < l.length ∧ nth l j = x ∧ ∀ i, i < j → nth l i ≠ x := by
      obtain ⟨i, hi, e⟩ := List.getElem_of_mem hx
      rw [← nth_eq hi] at e
      clear hr hk hx
      induction i using Nat.strongRecOn with
      | ind i ih =>
        by_cases q : ∃ j, j < i ∧ nth l j = x
        · obtain ⟨j, q1, q2⟩ := q
          exact ih j q1 (by omega) q2
        · exact ⟨i, hi, e, fun j hj q2 => q ⟨j, hj, q2⟩⟩
    obtain ⟨j, hj, rfl, hf⟩ := this
    refine ⟨j, hj, rfl, lastK_iff.2 ⟨hk, fun i hi ⟨b1, b2, b3⟩ => ?_⟩⟩
    rcases b3 with b3 | ⟨b3, b4⟩
    · have := hr _ (nth_mem hi) b1.symm b2.symm; omega
    · exact hf i b4 b3
theorem rin_c (n a b : Int) (w0 : World) :
    CallsV Tryz.prog 68 [.int .i64 n, .int .i64 a, .int .i64 b] w0 (fun v w' => v = .bool (decide (a ≤ n ∧ n ≤ b)) ∧ Ext w0 w') := by
 refine f_n func68 ?_
 refine go ?_
 refine t_splitp 10 rfl (fun g10 => ?_) (fun g10 => ?_)
 ·
  refine go ?_
  refine f_1 results68 ?_
  exact ⟨congrArg Value.bool (by rw [Bool.eq_iff_iff]; simp <;> omega), u_d⟩
 refine go ?_
 refine f_1 results68 ?_
 exact ⟨congrArg Value.bool (by rw [Bool.eq_iff_iff]; simp <;> omega), u_d⟩

theorem rMessage_c (x : Msg) (w0 : World) :
    CallsV Tryz.prog 85 [.agg #[.int .i64 x.c, .int .i64 x.n, .int .i64 x.r, .int .i64 x.k, .int .i64 x.m, .int .i64 x.v]] w0 (fun v w' => v = .bool (okMsg x) ∧ Ext w0 w') := by
 refine f_n func85 ?_
 refine go ?_
 refine x_b fun bk2 w3 ebk2 sbk2 B4 u5 => ?_
 refine go ?_
 refine x_c func68 rfl rfl (rin_c x.c 0 9 _) ?_
 rintro _ w9 ⟨rfl, u10⟩ zu10
 refine go ?_
 refine t_splitp 6 rfl (fun g6 => ?_) (fun g6 => ?_)
 ·
  refine go ?_
  refine x_c func68 rfl rfl (rin_c x.n 0 999 _) ?_
  rintro _ w14 ⟨rfl, u15⟩ zu15
  refine go ?_
  refine t_splitp 11 rfl (fun g11 => ?_) (fun g11 => ?_)
  ·
   refine go ?_
   refine x_c func68 rfl rfl (rin_c x.r 0 99 _) ?_
   rintro _ w19 ⟨rfl, u20⟩ zu20
   refine go ?_
   refine t_splitp 16 rfl (fun g16 => ?_) (fun g16 => ?_)
   ·
    refine go ?_
    refine t_splitp 21 rfl (fun g21 => ?_) (fun g21 => ?_)
    ·
     refine go ?_
     refine t_splitp 26 rfl (fun g26 => ?_) (fun g26 => ?_)
     ·
      refine go ?_
      refine x_c func68 rfl rfl (rin_c x.m 0 100000 _) ?_
      rintro _ w24 ⟨rfl, u25⟩ zu25
      refine go ?_
      refine t_splitp 31 rfl (fun g31 => ?_) (fun g31 => ?_)
      ·
       refine go ?_
       refine x_c func68 rfl rfl (rin_c x.v 0 1000000 _) ?_
       rintro _ w29 ⟨rfl, u30⟩ zu30
       refine go ?_
       refine f_1 results85 ?_
       exact ⟨congrArg Value.bool (by rw [Bool.eq_iff_iff]; simp only [okMsg, decide_eq_true_eq] <;> grind), u_d⟩
      refine go ?_
      refine f_1 results85 ?_
      exact ⟨congrArg Value.bool (by rw [Bool.eq_iff_iff]; simp only [okMsg, decide_eq_true_eq] <;> grind), u_d⟩
     refine go ?_
     refine f_1 results85 ?_
     exact ⟨congrArg Value.bool (by rw [Bool.eq_iff_iff]; simp only [okMsg, decide_eq_true_eq] <;> grind), u_d⟩
    refine go ?_
    refine f_1 results85 ?_
    exact ⟨congrArg Value.bool (by rw [Bool.eq_iff_iff]; simp only [okMsg, decide_eq_true_eq] <;> grind), u_d⟩
   refine go ?_
   refine f_1 results85 ?_
   exact ⟨congrArg Value.bool (by rw [Bool.eq_iff_iff]; simp only [okMsg, decide_eq_true_eq] <;> grind), u_d⟩
  refine go ?_
  refine f_1 results85 ?_
  exact ⟨congrArg Value.bool (by rw [Bool.eq_iff_iff]; simp only [okMsg, decide_eq_true_eq] <;> grind), u_d⟩
 refine go ?_
 refine f_1 results85 ?_
 exact ⟨congrArg Value.bool (by rw [Bool.eq_iff_iff]; simp only [okMsg, decide_eq_true_eq] <;> grind), u_d⟩

theorem rMessages_c (l : List Msg) (al : Option Addr) (bl ol cl : Nat) (w0 : World) (hl : Sl encMsg 6 w0 al bl ol l) (hll : l.length ≤ 1000000) :
    CallsV Tryz.prog 35 [.slice al l.length cl] w0 (fun v w' => (∃ e, v = .int .i64 e ∧ MgE l e) ∧ Ext w0 w') := by
 refine f_n func35 ?_
 refine go ?_
 refine q_p (fun g8 => ?_) fun g8 => ?_
 ·
  refine go ?_
  refine f_1 results35 ?_
  have hE : rdE l = 5 := if_pos (by omega)
  exact ⟨⟨5, rfl, .inl ⟨by rw [hE]; decide, hE.symm⟩⟩, u_d⟩
 refine go ?_
 refine x_l1 (fun _ => False) [0] (fun (k : Nat) => [(3, .int .i64 (k : Int))]) (fun k w => (k ≤ l.length) ∧ (∀ j, j < k → okMsg (nth l j) = true)) (fun k => l.length - k) 0 ⟨(Nat.zero_le _), (fun j h => absurd h (Nat.not_lt_zero j))⟩ ?_
 rintro k w8 ⟨hk, hok⟩ u9 zu9 K7 hK7
 have E10 := Sc.mk ((Upd.refl (fun _ => False) w0).nx u9)
 refine go ?_
 refine q_p (fun g12 => ?_) fun g12 => ?_
 ·
  refine go ?_
  refine g_i k (hl.keep E10.u (fun _ h => h)) (fun _ => ?_)
  refine go ?_
  refine x_c func85 rfl rfl (rMessage_c (nth l k) _) ?_
  rintro _ w17 ⟨rfl, u18⟩ zu18
  refine go ?_
  refine q_b (fun g20 => ?_) fun g20 => ?_
  ·
   refine go ?_
   refine f_1 results35 ?_
   have hE : rdE l = 2 := by unfold rdE; rw [if_neg (by omega), if_pos (List.any_eq_true.2 ⟨_, nth_mem (show k < l.length by omega), g20⟩)]
   exact ⟨⟨2, rfl, .inl ⟨by rw [hE]; decide, hE.symm⟩⟩, u_d⟩
  refine go ?_
  exact hK7 (k + 1) ⟨(by omega), (fun j h => (Nat.lt_succ_iff_lt_or_eq.1 h).elim (hok j) (fun e => by subst e; simpa using g20))⟩
 refine go ?_
 have h0 : rdE l = 0 := rdE_none (by omega) (fun j hj => hok j (by omega))
 refine x_l1 (fun _ => False) [0] (fun (i : Nat) => [(4, .int .i64 (i : Int))]) (fun i w => (i ≤ l.length) ∧ (∀ a, a < i → EdK l a a)) (fun i => l.length - i) 0 ⟨(Nat.zero_le _), (fun j h => absurd h (Nat.not_lt_zero j))⟩ ?_
 rintro i w25 ⟨hi, hEd⟩ u26 zu26 K24 hK24
 refine go ?_
 refine q_p (fun g24 => ?_) fun g24 => ?_
 ·
  refine go ?_
  refine x_l1 (fun _ => False) [0, 4] (fun (j : Nat) => [(5, .int .i64 (j : Int))]) (fun j w => (j ≤ i) ∧ (EdK l i j)) (fun j => i - j) 0 ⟨(Nat.zero_le _), (fun j h => absurd h (Nat.not_lt_zero j))⟩ ?_
  rintro j w33 ⟨hj, hIn⟩ u34 zu34 K32 hK32
  refine go ?_
  refine q_p (fun g29 => ?_) fun g29 => ?_
  ·
   refine go ?_
   refine c_drawnM follows (fun _ => False) (OTl [0, 2, 4, 6, 8, 10, 12, 14, 16, 18, 20, 22, 24, 26, 28, 30, 32, 34, 36, 38, 40, 42, 44, 46, 48, 50, 52, 54, 56, 58, 60, 62, 64, 66, 68, 70, 72, 74, 76, 78, 80, 82, 84, 86, 88, 90, 92, 94]) (by kernel_rfl) fun w40 u41 => ?_
   have zu41 := u41.size
   have E42 := Sc.mk (((E10.u.nx u26).nx u34).nx u41)
   refine go ?_
   refine y_i i (hl.keep E42.u (fun _ h => h)) (fun _ => ?_)
   refine go ?_
   refine y_i j (hl.keep E42.u (fun _ h => h)) (fun _ => ?_)
   refine go ?_
   refine y_splitp 43 rfl (fun g43 => ?_) (fun g43 => ?_)
   ·
    refine go ?_
    refine y_i i (hl.keep E42.u (fun _ h => h)) (fun _ => ?_)
    refine go ?_
    refine y_i j (hl.keep E42.u (fun _ h => h)) (fun _ => ?_)
    refine go ?_
    refine y_splitp 56 rfl (fun g56 => ?_) (fun g56 => ?_)
    ·
     refine go ?_
     refine y_i i (hl.keep E42.u (fun _ h => h)) (fun _ => ?_)
     refine go ?_
     refine y_i j (hl.keep E42.u (fun _ h => h)) (fun _ => ?_)
     refine go ?_
     refine y_splitp 69 rfl (fun g69 => ?_) (fun g69 => ?_)
     ·
      refine go ?_
      refine y_i i (hl.keep E42.u (fun _ h => h)) (fun _ => ?_)
      refine go ?_
      refine y_i j (hl.keep E42.u (fun _ h => h)) (fun _ => ?_)
      refine go ?_
      refine y_neS (xs := [.int .i64 ((nth l i).c), .int .i64 ((nth l i).n), .int .i64 ((nth l i).r), .int .i64 ((nth l i).k), .int .i64 ((nth l i).m), .int .i64 ((nth l i).v)]) (ys := [.int .i64 ((nth l j).c), .int .i64 ((nth l j).n), .int .i64 ((nth l j).r), .int .i64 ((nth l j).k), .int .i64 ((nth l j).m), .int .i64 ((nth l j).v)]) (by kernel_rfl) (eqIn111 9998 ((nth l i).c) ((nth l i).n) ((nth l i).r) ((nth l i).k) ((nth l i).m) ((nth l i).v) ((nth l j).c) ((nth l j).n) ((nth l j).r) ((nth l j).k) ((nth l j).m) ((nth l j).v)) rfl rfl rfl rfl (y_same 78 (v := .bool (decide (¬ nth l i = nth l j))) rfl (congrArg Value.bool (neMsgB _ _)) ?_)
      refine go ?_
      refine q_p (fun g79 => ?_) fun g79 => ?_
      ·
       refine go ?_
       refine f_1 results35 ?_
       exact ⟨⟨6, rfl, .inr (.inl ⟨h0, fun q => (show ¬ nth l i = nth l j by assumption) (q _ (nth_mem (by omega)) _ (nth_mem (by omega)) (by rw [edK_iff]; omega)), rfl⟩)⟩, u_d⟩
      refine go ?_
      exact hK32 (j + 1) ⟨(by omega), (fun a h => (Nat.lt_succ_iff_lt_or_eq.1 h).elim (hIn a) (fun e q => by subst e; rw [edK_iff] at q; first | omega | exact Classical.byContradiction (by assumption)))⟩
     refine go ?_
     exact hK32 (j + 1) ⟨(by omega), (fun a h => (Nat.lt_succ_iff_lt_or_eq.1 h).elim (hIn a) (fun e q => by subst e; rw [edK_iff] at q; first | omega | exact Classical.byContradiction (by assumption)))⟩
    refine go ?_
    exact hK32 (j + 1) ⟨(by omega), (fun a h => (Nat.lt_succ_iff_lt_or_eq.1 h).elim (hIn a) (fun e q => by subst e; rw [edK_iff] at q; first | omega | exact Classical.byContradiction (by assumption)))⟩
   refine go ?_
   exact hK32 (j + 1) ⟨(by omega), (fun a h => (Nat.lt_succ_iff_lt_or_eq.1 h).elim (hIn a) (fun e q => by subst e; rw [edK_iff] at q; first | omega | exact Classical.byContradiction (by assumption)))⟩
  refine go ?_
  exact hK24 (i + 1) ⟨(by omega), (fun a h => (Nat.lt_succ_iff_lt_or_eq.1 h).elim (hEd a) (fun e => by subst e; rw [show j = a by omega] at hIn; exact hIn))⟩
 refine go ?_
 refine f_1 results35 ?_
 exact ⟨⟨0, rfl, .inr (.inr ⟨h0, noEd_all (fun a ha => hEd a (by omega)), rfl⟩)⟩, u_d⟩

theorem rbefore_c (x y : Msg) (w0 : World) :
    CallsV Tryz.prog 86 [.agg #[.int .i64 x.c, .int .i64 x.n, .int .i64 x.r, .int .i64 x.k, .int .i64 x.m, .int .i64 x.v], .agg #[.int .i64 y.c, .int .i64 y.n, .int .i64 y.r, .int .i64 y.k, .int .i64 y.m, .int .i64 y.v]] w0 (fun v w' => v = .bool (decide (FLt x y)) ∧ Ext w0 w') := by
 refine f_n func86 ?_
 refine go ?_
 refine x_b fun bk2 w3 ebk2 sbk2 B4 u5 => ?_
 refine x_b fun bk7 w8 ebk7 sbk7 B9 u10 => ?_
 refine go ?_
 refine q_p (fun g9 => ?_) fun g9 => ?_
 ·
  refine go ?_
  refine f_1 results86 ?_
  exact ⟨congrArg Value.bool (by rw [Bool.eq_iff_iff]; simp only [FLt, cmpF_lt, decide_eq_true_eq] <;> omega), u_d⟩
 refine go ?_
 refine q_p (fun g19 => ?_) fun g19 => ?_
 ·
  refine go ?_
  refine f_1 results86 ?_
  exact ⟨congrArg Value.bool (by rw [Bool.eq_iff_iff]; simp only [FLt, cmpF_lt, decide_eq_true_eq] <;> omega), u_d⟩
 refine go ?_
 refine f_1 results86 ?_
 exact ⟨congrArg Value.bool (by rw [Bool.eq_iff_iff]; simp only [FLt, cmpF_lt, decide_eq_true_eq] <;> omega), u_d⟩

set_option maxHeartbeats 4000000 in
theorem rFacts_c (l : List Msg) (al : Option Addr) (bl ol cl : Nat) (w0 : World) (hl : Sl encMsg 6 w0 al bl ol l) (hll : l.length ≤ 1000) (hE : NoEd l) (hpos : 0 < w0.heap.size) :
    CallsV Tryz.prog 36 [.slice al l.length cl] w0 (fun v w' => (∃ out ao g cp, v = .slice ao (List.length out) cp ∧ Acc encMsg 6 111 w0.heap.size w' ao g cp out ∧ out.Pairwise FLt ∧ (∀ x, x ∈ out ↔ LastIn l x) ∧ out.length ≤ l.length) ∧ Ext w0 w') := by
 refine f_n func36 ?_
 refine go ?_
 refine x_l fun bk3 w4 ebk3 sbk3 B5 u6 => ?_
 refine go ?_
 refine x_l5 (fun i => bk3 ≤ i) [0] (fun (i : Nat) (ao : Option Addr) (gw : Nat) (co : Nat) (out : List Msg) => [(3, .slice ao out.length co), (4, .int .i64 (i : Int))]) (fun i ao gw co out w => (i ≤ l.length) ∧ (Acc encMsg 6 111 bk3 w ao gw co out) ∧ (OutI l i out)) (fun i ao gw co out => l.length - i) 0 (some ⟨bk3, 0, none⟩) bk3 0 ([]) ⟨(Nat.zero_le _), (Acc.ofRaw (cs := []) B5 (Nat.le_refl _) (Nat.le_refl _) (Nat.zero_le _) (by rfl) (by rfl)), ⟨List.Pairwise.nil, fun x => ⟨fun h => (by cases h), fun ⟨j, h, _⟩ => absurd h (Nat.not_lt_zero j)⟩, Nat.le_refl _⟩⟩ ?_
 rintro i ao gw co out w11 ⟨hi, hout, hO⟩ u12 zu12 K10 hK10
 have E13 := Sc.mk (((Upd.refl (fun _ => False) w0).nx u6).next u12 (fun i hi (h : bk3 ≤ i) => show False by first | omega | assumption))
 have lt_gw := hout.lt
 have hol := hO.len
 have hco := hout.cap_le
 refine go ?_
 refine q_p (fun g12 => ?_) fun g12 => ?_
 ·
  have hbl := hl.lt (show 0 < l.length by omega)
  refine go ?_
  refine g_i i (hl.keep E13.u (fun _ h => h)) (fun _ => ?_)
  refine go ?_
  refine x_l1 (fun _ => False) [0, 3, 4] (fun (k : Nat) => [(5, .bool (lastK l i k)), (6, .int .i64 (k : Int))]) (fun k w => (k ≤ l.length)) (fun k => l.length - k) 0 (Nat.zero_le _) ?_
  rintro k w22 hk u23 zu23 K21 hK21
  have E24 := Sc.mk (E13.u.nx u23)
  refine go ?_
  refine q_p (fun g24 => ?_) fun g24 => ?_
  ·
   refine go ?_
   refine c_drawnM follows (fun _ => False) (OTl [0, 2, 4, 6, 8, 10, 12, 14, 16, 18, 20, 22, 24, 26, 28, 30, 32, 34, 36, 38, 40, 42, 44, 46, 48, 50, 52, 54, 56, 58, 60, 62, 64, 66, 68, 70, 72, 74, 76, 78, 80, 82, 84, 86, 88, 90, 92, 94, 96, 98, 100, 102, 104]) (by kernel_rfl) fun w29 u30 => ?_
   have zu30 := u30.size
   have E31 := Sc.mk (E24.u.nx u30)
   refine go ?_
   refine y_i i (hl.keep E31.u (fun _ h => h)) (fun _ => ?_)
   refine go ?_
   refine y_i k (hl.keep E31.u (fun _ h => h)) (fun _ => ?_)
   refine go ?_
   refine y_splitp 38 rfl (fun g38 => ?_) (fun g38 => ?_)
   ·
    refine go ?_
    refine y_i i (hl.keep E31.u (fun _ h => h)) (fun _ => ?_)
    refine go ?_
    refine y_i k (hl.keep E31.u (fun _ h => h)) (fun _ => ?_)
    refine go ?_
    refine y_splitp 51 rfl (fun g51 => ?_) (fun g51 => ?_)
    ·
     refine go ?_
     refine y_i k (hl.keep E31.u (fun _ h => h)) (fun _ => ?_)
     refine go ?_
     refine y_i i (hl.keep E31.u (fun _ h => h)) (fun _ => ?_)
     refine go ?_
     refine y_splitp 63 rfl (fun g63 => ?_) (fun g63 => ?_)
     ·
      refine go ?_
      exact hK21 (k + 1) (by omega) (hs := by exact ⟨(congrArg (fun z => some (Value.bool z)) (by first | exact (lastK_yes (by unfold badB; first | (refine ⟨by omega, by omega, ?_⟩; first | exact .inl (by omega) | exact .inr ⟨by assumption, by omega⟩))).symm | exact (lastK_no (by unfold badB; rintro ⟨q1, q2, q3 | ⟨q3, q4⟩⟩ <;> first | omega | contradiction)).symm)), rfl, rfl, rfl, rfl, trivial⟩)
     refine go ?_
     refine y_i k (hl.keep E31.u (fun _ h => h)) (fun _ => ?_)
     refine go ?_
     refine y_i i (hl.keep E31.u (fun _ h => h)) (fun _ => ?_)
     refine go ?_
     refine y_eqS (xs := [.int .i64 ((nth l k).c), .int .i64 ((nth l k).n), .int .i64 ((nth l k).r), .int .i64 ((nth l k).k), .int .i64 ((nth l k).m), .int .i64 ((nth l k).v)]) (ys := [.int .i64 ((nth l i).c), .int .i64 ((nth l i).n), .int .i64 ((nth l i).r), .int .i64 ((nth l i).k), .int .i64 ((nth l i).m), .int .i64 ((nth l i).v)]) (by kernel_rfl) (eqIn111 9998 ((nth l k).c) ((nth l k).n) ((nth l k).r) ((nth l k).k) ((nth l k).m) ((nth l k).v) ((nth l i).c) ((nth l i).n) ((nth l i).r) ((nth l i).k) ((nth l i).m) ((nth l i).v)) rfl rfl rfl rfl (y_same 72 (v := .bool (decide (nth l k = nth l i))) rfl (congrArg Value.bool (eqMsgB _ _)) ?_)
     refine go ?_
     refine y_splitp 73 rfl (fun g73 => ?_) (fun g73 => ?_)
     ·
      refine go ?_
      refine q_p (fun g79 => ?_) fun g79 => ?_
      ·
       refine go ?_
       exact hK21 (k + 1) (by omega) (hs := by exact ⟨(congrArg (fun z => some (Value.bool z)) (by first | exact (lastK_yes (by unfold badB; first | (refine ⟨by omega, by omega, ?_⟩; first | exact .inl (by omega) | exact .inr ⟨by assumption, by omega⟩))).symm | exact (lastK_no (by unfold badB; rintro ⟨q1, q2, q3 | ⟨q3, q4⟩⟩ <;> first | omega | contradiction)).symm)), rfl, rfl, rfl, rfl, trivial⟩)
      refine go ?_
      exact hK21 (k + 1) (by omega) (hs := by exact ⟨(congrArg (fun z => some (Value.bool z)) (by first | exact (lastK_yes (by unfold badB; first | (refine ⟨by omega, by omega, ?_⟩; first | exact .inl (by omega) | exact .inr ⟨by assumption, by omega⟩))).symm | exact (lastK_no (by unfold badB; rintro ⟨q1, q2, q3 | ⟨q3, q4⟩⟩ <;> first | omega | contradiction)).symm)), rfl, rfl, rfl, rfl, trivial⟩)
     refine go ?_
     exact hK21 (k + 1) (by omega) (hs := by exact ⟨(congrArg (fun z => some (Value.bool z)) (by first | exact (lastK_yes (by unfold badB; first | (refine ⟨by omega, by omega, ?_⟩; first | exact .inl (by omega) | exact .inr ⟨by assumption, by omega⟩))).symm | exact (lastK_no (by unfold badB; rintro ⟨q1, q2, q3 | ⟨q3, q4⟩⟩ <;> first | omega | contradiction)).symm)), rfl, rfl, rfl, rfl, trivial⟩)
    refine go ?_
    exact hK21 (k + 1) (by omega) (hs := by exact ⟨(congrArg (fun z => some (Value.bool z)) (by first | exact (lastK_yes (by unfold badB; first | (refine ⟨by omega, by omega, ?_⟩; first | exact .inl (by omega) | exact .inr ⟨by assumption, by omega⟩))).symm | exact (lastK_no (by unfold badB; rintro ⟨q1, q2, q3 | ⟨q3, q4⟩⟩ <;> first | omega | contradiction)).symm)), rfl, rfl, rfl, rfl, trivial⟩)
   refine go ?_
   exact hK21 (k + 1) (by omega) (hs := by exact ⟨(congrArg (fun z => some (Value.bool z)) (by first | exact (lastK_yes (by unfold badB; first | (refine ⟨by omega, by omega, ?_⟩; first | exact .inl (by omega) | exact .inr ⟨by assumption, by omega⟩))).symm | exact (lastK_no (by unfold badB; rintro ⟨q1, q2, q3 | ⟨q3, q4⟩⟩ <;> first | omega | contradiction)).symm)), rfl, rfl, rfl, rfl, trivial⟩)
  have hkl : lastK l i k = lastK l i l.length := by rw [show k = l.length by omega]
  refine go ?_
  refine q_b (fun g81 => ?_) fun g81 => ?_
  ·
   refine go ?_
   have D42 := (hout.keep u23 (fun _ h => h))
   exact hK10 (i + 1) ao gw co out ⟨(by omega), D42, (hO.skip (by rw [← hkl]; simpa using g81))⟩ (hu := (u12.nx u23))
  refine go ?_
  refine x_l1 (fun _ => False) [0, 3, 4] (fun (k2 : Nat) => [(7, .int .i64 (k2 : Int))]) (fun k2 w => (k2 ≤ out.length) ∧ (∀ j, k2 ≤ j → j < out.length → FLt (nth l i) (nth out j))) (fun k2 => k2) out.length ⟨(Nat.le_refl _), (fun j h1 h2 => absurd h2 (by omega))⟩ ?_
  rintro k2 w46 ⟨hk2, hab⟩ u47 zu47 K45 hK45
  have E48 := Sc.mk (E24.u.nx u47)
  refine st1 ?_
  refine x_k1 (fun _ => False) [0, 3, 4, 7] (fun (q : Bool) => [(97, .bool q)]) (fun q w => (q = true ↔ (0 < k2 ∧ FLt (nth l i) (nth out (k2 - 1))))) (fun K54 hK54 => ?_) ?_
  ·
   refine c_drawnM follows (fun _ => False) (OTl [0, 2, 4, 6, 8, 10, 12, 14, 16, 18, 20, 22, 25, 26]) (by kernel_rfl) fun w57 u58 => ?_
   have zu58 := u58.size
   refine go ?_
   refine y_splitp 86 rfl (fun g86 => ?_) (fun g86 => ?_)
   ·
    refine go ?_
    refine y_i i (hl.keep (E48.u.nx u58) (fun _ h => h)) (fun _ => ?_)
    refine go ?_
    have D61 := (((hout.keep u23 (fun _ h => h)).keep u47 (fun _ h => h)).keep u58 (fun _ h => h))
    refine y_i (k2 - 1) (D61.sl (fun _ => rfl)) (fun _ => ?_) (hj := (by omega))
    refine go ?_
    refine x_c func86 rfl rfl (rbefore_c (nth l i) (nth out (k2 - 1)) _) ?_
    rintro _ w64 ⟨rfl, u65⟩ zu65
    refine go ?_
    exact hK54 (decide (FLt (nth l i) (nth out (k2 - 1)))) (by rw [decide_eq_true_eq]; exact ⟨fun h => ⟨by omega, h⟩, fun h => h.2⟩)
   refine go ?_
   exact hK54 false (⟨fun h => (by cases h), fun h => absurd h (by omega)⟩)
  rintro q w55 hq u56 zu56
  refine q_b (fun g97 => ?_) fun g97 => ?_
  ·
   refine go ?_
   exact hK45 (k2 - 1) ⟨(by omega), (fun j h1 h2 => by
     by_cases h : j = k2 - 1
     · rw [h]; exact (hq.1 g97).2
     · exact hab j (by omega) h2)⟩ (hm := (by have := (hq.1 g97).1; omega)) (hs := by exact ⟨(congrArg (fun z => some (Value.int .i64 z)) (by have := (hq.1 g97).1; omega)), rfl, rfl, rfl, trivial⟩)
  have hex : ¬ (0 < k2 ∧ FLt (nth l i) (nth out (k2 - 1))) := fun h => by rw [hq.2 h] at g97; cases g97
  refine go ?_
  refine c_drawnM follows (fun i => (i = gw ∧ bk3 ≤ i)) (OTl [0, 2, 4, 6, 8, 10, 12, 16, 18, 20, 15, 23, 25, 26]) (by kernel_rfl) fun w69 u70 => ?_
  have zu70 := u70.size
  refine go ?_
  refine y_sliceTo (k2) underlying53 sizeOf111 rfl rfl rfl rfl rfl (by omega) (y_same 102 (v := .slice ao ((out.take k2).length) co) rfl (by rw [hout.subTo0, List.length_take, Nat.min_eq_left (by omega)]) ?_)
  refine go ?_
  refine y_i i (hl.keep ((E48.u.nx u56).nx u70) (fun _ h => h)) (fun _ => ?_)
  refine go ?_
  refine y_sliceFrom (n := out.length) (cap := co) (ao := ao) (k2) underlying53 sizeOf111 rfl rfl rfl rfl rfl (by omega) (by omega) (y_same 110 (v := .slice (subAddr ao co k2 6) ((out.drop k2).length) (co - k2)) rfl (by rw [List.length_drop]) ?_)
  refine go ?_
  refine x_l fun bk73 w74 ebk73 sbk73 B75 u76 => ?_
  refine go ?_
  have D78 := (((((hout.keep u23 (fun _ h => h)).keep u47 (fun _ h => h)).keep u56 (fun _ h => h)).keep u70 (fun _ h => h)).keep u76 (fun _ h => h))
  refine t_appLit (enc := encMsg) (z := .agg #[.int .i64 0, .int .i64 0, .int .i64 0, .int .i64 0, .int .i64 0, .int .i64 0]) (bytes := 48) (k := 6) (xs := [(nth l i)]) (ys := (out.drop k2)) underlying53 (by kernel_rfl) rfl (by decide) (fun _ => rfl) (by intro x; simp [encMsg, Value.oneCell']) rfl rfl rfl rfl B75 (Sl.dropI (D78.sl (fun _ => rfl)) (by omega)) (by first | decide | simp) (by rw [List.length_drop]; omega) (by decide) (fun ao79 gb80 cp81 w82 A83 u84 gegb80 => ?_)
  have zu84 := u84.size
  have lt_gb80 := A83.lt
  refine go ?_
  have D86 := (D78.keep u84 (fun hb => show ¬ ((gw = bk73 ∧ bk73 ≤ gw)) by first | omega | assumption))
  refine t_appendAll (enc := encMsg) (z := .agg #[.int .i64 0, .int .i64 0, .int .i64 0, .int .i64 0, .int .i64 0, .int .i64 0]) (bytes := 48) (k := 6) (base := bk3) (xs := (out.take k2)) (ys := ([(nth l i)] ++ (out.drop k2))) underlying53 (by kernel_rfl) rfl (by decide) (fun _ => rfl) (by intro x; simp [encMsg, Value.oneCell']) rfl rfl rfl rfl (Acc.takeN (enc := encMsg) (k := 6) (fun _ => rfl) D86 k2) (A83.sl (fun _ => rfl)) (by omega) (by rw [List.length_take]; omega) (by rw [List.length_append, List.length_drop, List.length_singleton]; omega) (by decide) (fun ao87 gb88 cp89 w90 A91 u92 gegb88 lngb88 => ?_)
  have zu92 := u92.size
  have lt_gb88 := A91.lt
  refine go ?_
  exact hK10 (i + 1) ao87 gb88 cp89 ((out.take k2) ++ ([(nth l i)] ++ (out.drop k2))) ⟨(by omega), A91, (hO.put hE (by omega) (by rw [← hkl]; simpa using g81) (by omega) hex hab)⟩ (hu := (((((((u12.nx u23).nx u47).nx u56).nx u70).nx u76).next u84 (fun i hi (h : (i = bk73 ∧ bk73 ≤ i)) => show bk3 ≤ i by first | omega | assumption)).next u92 (fun i hi (h : (i = gw ∧ bk3 ≤ i)) => show bk3 ≤ i by first | omega | assumption)))
 refine go ?_
 refine f_1 results36 ?_
 obtain rfl : i = l.length := by omega
 obtain ⟨g9, ha9⟩ := Acc.lower (base' := w0.heap.size) hout (by omega) hpos
 exact ⟨⟨out, ao, g9, co, rfl, ha9, hO.pw, hO.fin, hO.len⟩, u_d⟩

end Go.Proofs.YtgoajalaomakpaaGreat
namespace Go.Proofs.YtgoajalaomakpaaGreat
open Go Go.RowKit Go.Proofs.Tryz

theorem facts_err {l o : List Msg} {e m : Int} (h : RdR l o e) (h2 : MgE l m) : e = m ∧ (m ≠ 0 → o = []) := by
  rcases h.err with ⟨q1, q2, q3⟩ | ⟨q1, q2, q3, q4⟩ | ⟨q1, q2, q3⟩ <;> rcases h2 with ⟨r1, r2⟩ | ⟨r1, r2, r3⟩ | ⟨r1, r2, r3⟩
  · exact ⟨by rw [q2, r2], fun _ => q3⟩
  · exact absurd r1 q1
  · exact absurd r1 q1
  · exact absurd q1 r1
  · exact ⟨by rw [q3, r3], fun _ => q4⟩
  · exact absurd r2 q2
  · exact absurd q1 r1
  · exact absurd q2 r2
  · exact ⟨by rw [q3, r3], fun h => absurd r3 h⟩
theorem RdR.len {l o : List Msg} {e : Int} (h : RdR l o e) : o.length ≤ 100 := by
  have h' := h
  rcases h with ⟨_, _, q⟩ | ⟨_, _, q, _⟩ | ⟨h0, rfl, _⟩
  · rw [q]; decide
  · rw [q]; decide
  · have := h'.facts
    have := (rdE_ok h0).1
    omega
theorem MgE.noEd {l : List Msg} (h : MgE l 0) : NoEd l := by
  rcases h with ⟨r1, r2⟩ | ⟨r1, r2, r3⟩ | ⟨r1, r2, r3⟩
  · omega
  · omega
  · exact r2
theorem messages0_c (l : List Msg) (al : Option Addr) (bl ol cl : Nat) (w0 : World) (hl : Sl encMsg 6 w0 al bl ol l) (hll : l.length ≤ 1000000) :
    CallsV Tryz.prog 25 [.slice al l.length cl] w0 (fun v w' => (∃ ao g cp, v = .slice ao (List.length l) cp ∧ Sl encMsg 6 w' ao g 0 l ∧ (0 < l.length → w0.heap.size ≤ g) ∧ w0.heap.size < w'.heap.size) ∧ Ext w0 w') := by
 refine f_n func25 ?_
 refine go ?_
 refine x_l fun bk3 w4 ebk3 sbk3 B5 u6 => ?_
 refine go ?_
 refine t_copy (enc := encMsg) (z := .agg #[.int .i64 0, .int .i64 0, .int .i64 0, .int .i64 0, .int .i64 0, .int .i64 0]) (bytes := 48) (k := 6) (ys := l) underlying53 (by kernel_rfl) rfl (by decide) (fun _ => rfl) (by intro x; simp [encMsg, Value.oneCell']) rfl rfl rfl rfl B5 (hl.keep ((Upd.refl (fun _ => False) w0).nx u6) (fun _ h => h)) (by omega) (by decide) (fun ao8 gb9 cp10 w11 A12 u13 gegb9 => ?_)
 have zu13 := u13.size
 have lt_gb9 := A12.lt
 refine go ?_
 refine f_1 results25 ?_
 exact ⟨⟨_, _, _, rfl, A12.sl (fun _ => rfl), fun h9 => by have := A12.ge h9; omega, by omega⟩, u_d⟩

theorem FreightFacts_c (l : List Msg) (al : Option Addr) (bl ol cl : Nat) (w0 : World) (hl : Sl encMsg 6 w0 al bl ol l) (hll : l.length ≤ maxLen) :
    CallsV Tryz.prog 9 [.slice al l.length cl] w0 (fun v w' => v = .bool true ∧ Ext w0 w') := by
 refine f_n func9 ?_
 refine go ?_
 refine q_p (fun g9 => ?_) fun g9 => ?_
 ·
  have hp9 := hl.lt (by omega)
  refine go ?_
  refine x_c func11 rfl rfl (known_c _ (by omega)) ?_
  rintro _ w6 ⟨rfl, u7⟩ zu7
  refine go ?_
  refine f_1 results9 ?_
  exact ⟨rfl, u_d⟩
 refine go ?_
 refine x_c func25 rfl rfl (messages0_c l al bl ol cl _ hl (by omega)) ?_
 rintro _ w13 ⟨⟨aoP11, gP11, cP11, rfl, hP11, hgP11, hzP11⟩, u14⟩ zu14
 have hlP11 := hP11.lt
 refine go ?_
 refine x_c func33 rfl rfl (Facts_c l aoP11 gP11 0 cP11 _ hP11 (by omega) (by omega)) ?_
 rintro _ w20 ⟨⟨oX18, aoX18, gX18, cX18, eX18, rfl, haX18, hRX18⟩, u21⟩ zu21
 have E23 := Sc.mk (((Upd.refl (fun _ => False) w0).nx u14).nx u21)
 have lt_gX18 := haX18.lt
 have hlenX18 := hRX18.len
 refine go ?_
 have D26 := (hP11.keep u21 (fun _ h => h))
 refine x_c func34 rfl rfl (same_c l aoP11 gP11 0 cP11 l al bl ol cl _ D26 (by omega) (hl.keep E23.u (fun _ h => h)) (by omega)) ?_
 rintro _ w28 ⟨rfl, u29⟩ zu29
 have E31 := Sc.mk (E23.u.nx u29)
 refine go ?_
 refine q_p (fun g21 => ?_) fun g21 => ?_
 ·
  exact absurd rfl g21
 refine go ?_
 refine x_c func35 rfl rfl (rMessages_c l al bl ol cl _ (hl.keep E31.u (fun _ h => h)) (by omega)) ?_
 rintro _ w36 ⟨⟨eM34, rfl, hMM34⟩, u37⟩ zu37
 refine go ?_
 refine q_p (fun g25 => ?_) fun g25 => ?_
 ·
  have hfe := facts_err hRX18 hMM34
  have ho9 : oX18 = [] := hfe.2 g25
  iterate 5 refine st1 ?_
  refine t_same 28 (v := .bool true) rfl (by rw [decide_eq_true hfe.1]) ?_
  iterate 4 refine st1 ?_
  refine t_same 32 (v := .bool true) rfl (by rw [ho9]; rfl) ?_
  refine go ?_
  refine x_c func11 rfl rfl (known_c _ (by omega)) ?_
  rintro _ w43 ⟨rfl, u44⟩ zu44
  refine go ?_
  refine f_1 results9 ?_
  exact ⟨rfl, u_d⟩
 have hfe := facts_err hRX18 hMM34
 have he0 : eM34 = 0 := by omega
 have hx0 : eX18 = 0 := by omega
 have hR0 : RdR l oX18 0 := by rw [hx0] at hRX18; exact hRX18
 have hE9 : NoEd l := by rw [he0] at hMM34; exact hMM34.noEd
 iterate 6 refine st1 ?_
 refine t_same 38 (v := .bool true) rfl (by rw [decide_eq_true hx0]) ?_
 refine go ?_
 refine x_c func36 rfl rfl (rFacts_c l al bl ol cl _ (hl.keep (E31.u.nx u37) (fun _ h => h)) (by omega) hE9 (by omega)) ?_
 rintro _ w50 ⟨⟨oF48, aoF48, gF48, cF48, rfl, haF48, hpwF48, hmeF48, hleF48⟩, u51⟩ zu51
 have lt_gF48 := haF48.lt
 have D54 := (((haX18.keep u29 (fun _ h => h)).keep u37 (fun _ h => h)).keep u51 (fun _ h => h))
 refine x_c func34 rfl rfl (same_c oX18 aoX18 gX18 0 cX18 oF48 aoF48 gF48 0 cF48 _ (D54.sl (fun _ => rfl)) (by omega) (haF48.sl (fun _ => rfl)) (by omega)) ?_
 rintro _ w56 ⟨rfl, u57⟩ zu57
 refine t_same 43 (v := .bool true) rfl (by rw [decide_eq_true (sorted_ext FLt.asym hR0.spec.2.2.1 hpwF48 (fun x => by rw [hR0.spec.2.2.2, hmeF48]))]) ?_
 refine go ?_
 refine x_c func11 rfl rfl (known_c _ (by omega)) ?_
 rintro _ w61 ⟨rfl, u62⟩ zu62
 refine go ?_
 refine f_1 results9 ?_
 exact ⟨rfl, u_d⟩

end Go.Proofs.YtgoajalaomakpaaGreat
