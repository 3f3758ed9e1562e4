/-
  Part 17 of the proof: contracts and plain laws. Conditions: none.
-/
import Derived.Test.YtgoajalaomakpaaGreatCK16
namespace Go.Proofs.YtgoajalaomakpaaGreat
open Go Go.RowKit Go.Proofs.Tryz

theorem filter_lt {α : Type} {p q : α → Bool} (h : ∀ a, p a = true → q a = true) : ∀ {l : List α} {a : α}, a ∈ l → q a = true → p a = false → (l.filter p).length < (l.filter q).length
  | [], _, h1, _, _ => by cases h1
  | b :: l, a, h1, h2, h3 => by
    have hle : (l.filter p).length ≤ (l.filter q).length := by
      clear h1
      induction l with
      | nil => simp
      | cons c l ih =>
        rw [List.filter_cons, List.filter_cons]
        by_cases e : p c = true
        · rw [if_pos e, if_pos (h c e)]; simpa using ih
        · rw [if_neg e]
          split
          · simp only [List.length_cons]; omega
          · exact ih
    rw [List.filter_cons, List.filter_cons]
    rcases List.mem_cons.1 h1 with rfl | h1
    · rw [if_neg (by rw [h3]; exact Bool.false_ne_true), if_pos h2]
      simp only [List.length_cons]; omega
    · have ih := filter_lt h h1 h2 h3
      by_cases e : p b = true
      · rw [if_pos e, if_pos (h b e)]; simp only [List.length_cons]; omega
      · rw [if_neg e]
        split
        · simp only [List.length_cons]; omega
        · exact ih
/-- An offer may come behind the last one. -/
def okA (l : List Off) : Option Int → Int → Bool
  | none, _ => true
  | some i, j => decide (prc l i j)
def muF (l : List Off) (o : Option Int) : Nat := ((List.range l.length).filter fun j : Nat => okA l o (j : Int)).length
theorem muF_le (l : List Off) (o : Option Int) : muF l o ≤ l.length := by
  have := List.length_filter_le (fun j : Nat => okA l o (j : Int)) (List.range l.length)
  rw [List.length_range] at this
  exact this
theorem muF_lt {l : List Off} {o : Option Int} {k : Nat} (hk : k < l.length) (h : okA l o (k : Int) = true) : muF l (some (k : Int)) < muF l o := by
  refine filter_lt (fun a ha => ?_) (List.mem_range.2 hk) h (by unfold okA; exact decide_eq_false (fun q => prc_irr q))
  cases o with
  | none => rfl
  | some i =>
    unfold okA at *
    rw [decide_eq_true_eq] at *
    exact prc_trans h ha
/-- Runs that go on with a run, and one more. -/
def ChP (l : List Off) (h : Hul) (nw b q : Rn) : Prop := q = b ∨ ∃ r, (∀ j ∈ r.head?, okA l nw.s.getLast? j = true) ∧ Fea l h r ∧ q = ⟨nw.s ++ r, nw.g + gnF l h r⟩
def ChK (l : List Off) (h : Hul) (nw b : Rn) (k : Nat) (q : Rn) : Prop := q = b ∨ q = nw ∨ ∃ i : Nat, i < k ∧ okA l nw.s.getLast? (i : Int) = true ∧ inT l h (i : Int) ∧ ∃ r, (∀ j ∈ r.head?, prc l (i : Int) j) ∧ Fea l (aftH h (nth l i)) r ∧ q = ⟨nw.s ++ ((i : Int) :: r), nw.g + gnF l h ((i : Int) :: r)⟩
theorem ch_zero (l : List Off) (h : Hul) (nw b : Rn) : IsB (ChK l h nw b 0) (if bt nw b = true then nw else b) := by
  split
  · rename_i q
    refine ⟨.inr (.inl rfl), fun x hx => ?_⟩
    rcases hx with rfl | rfl | ⟨i, hi, _⟩
    · cases e : bt x nw
      · rfl
      · have := bt_trans e q
        rw [bt_irr] at this; cases this
    · exact bt_irr _
    · exact absurd hi (Nat.not_lt_zero i)
  · rename_i q
    refine ⟨.inl rfl, fun x hx => ?_⟩
    rcases hx with rfl | rfl | ⟨i, hi, _⟩
    · exact bt_irr _
    · simpa using q
    · exact absurd hi (Nat.not_lt_zero i)
theorem ch_skip {l : List Off} {h : Hul} {nw b o : Rn} {k : Nat} (hn : ¬ (okA l nw.s.getLast? (k : Int) = true ∧ inT l h (k : Int))) (hb : IsB (ChK l h nw b k) o) : IsB (ChK l h nw b (k + 1)) o := by
  refine ⟨?_, fun x hx => hb.2 x ?_⟩
  · rcases hb.1 with q | q | ⟨i, q1, q2⟩
    · exact .inl q
    · exact .inr (.inl q)
    · exact .inr (.inr ⟨i, by omega, q2⟩)
  · rcases hx with q | q | ⟨i, q1, q2, q3, q4⟩
    · exact .inl q
    · exact .inr (.inl q)
    · rcases Nat.lt_succ_iff_lt_or_eq.1 q1 with q5 | rfl
      · exact .inr (.inr ⟨i, q5, q2, q3, q4⟩)
      · exact absurd ⟨q2, q3⟩ hn
theorem ch_step {l : List Off} {h : Hul} {nw b o o2 : Rn} {k : Nat} (h1 : okA l nw.s.getLast? (k : Int) = true) (h2 : inT l h (k : Int)) (hb : IsB (ChK l h nw b k) o) (hc : IsB (ChP l (aftH h (nth l k)) ⟨nw.s ++ [(k : Int)], nw.g + (nth l k).p - farH h (nth l k) * h.c⟩ o) o2) : IsB (ChK l h nw b (k + 1)) o2 := by
  have hlast : (nw.s ++ [(k : Int)]).getLast? = some (k : Int) := by simp
  have hg : ∀ r, nw.g + gnF l h ((k : Int) :: r) = nw.g + (nth l k).p - farH h (nth l k) * h.c + gnF l (aftH h (nth l k)) r := fun r => by
    rw [gnF, Int.toNat_natCast]; omega
  have hs : ∀ r, (⟨nw.s ++ ((k : Int) :: r), nw.g + gnF l h ((k : Int) :: r)⟩ : Rn) = ⟨(nw.s ++ [(k : Int)]) ++ r, nw.g + (nth l k).p - farH h (nth l k) * h.c + gnF l (aftH h (nth l k)) r⟩ := fun r => by rw [hg]; simp
  refine ⟨?_, fun x hx => ?_⟩
  · rcases hc.1 with q | ⟨r, r1, r2, rfl⟩
    · rw [q]
      rcases hb.1 with q | q | ⟨i, q1, q2⟩
      · exact .inl q
      · exact .inr (.inl q)
      · exact .inr (.inr ⟨i, by omega, q2⟩)
    · refine .inr (.inr ⟨k, by omega, h1, h2, r, fun j hj => ?_, r2, (hs r).symm⟩)
      have := r1 j hj
      dsimp only at this
      rw [hlast] at this
      exact of_decide_eq_true this
  · have old : ∀ x, ChK l h nw b k x → bt x o2 = false := fun x hx => bt_neg (hb.2 x hx) (hc.2 o (.inl rfl))
    rcases hx with q | q | ⟨i, q1, q2, q3, r, r1, r2, rfl⟩
    · exact old x (.inl q)
    · exact old x (.inr (.inl q))
    · rcases Nat.lt_succ_iff_lt_or_eq.1 q1 with q5 | rfl
      · exact old _ (.inr (.inr ⟨i, q5, q2, q3, r, r1, r2, rfl⟩))
      · refine hc.2 _ (.inr ⟨r, fun j hj => ?_, r2, hs r⟩)
        dsimp only
        rw [hlast]
        exact decide_eq_true (r1 j hj)
theorem ch_fin {l : List Off} {h : Hul} {nw b o : Rn} (hb : IsB (ChK l h nw b l.length) o) : IsB (ChP l h nw b) o := by
  have key : ∀ q, ChP l h nw b q ↔ ChK l h nw b l.length q := fun q => by
    constructor
    · rintro (e | ⟨r, r1, r2, rfl⟩)
      · exact .inl e
      · cases r with
        | nil => exact .inr (.inl (by simp [gnF]))
        | cons i r =>
          obtain ⟨f1, f2, f3, f4⟩ := r2
          obtain ⟨n, rfl⟩ : ∃ n : Nat, i = (n : Int) := ⟨i.toNat, by omega⟩
          exact .inr (.inr ⟨n, by omega, r1 _ (by simp), f2, r, f3, by rwa [Int.toNat_natCast] at f4, rfl⟩)
    · rintro (e | e | ⟨i, q1, q2, q3, r, r1, r2, rfl⟩)
      · exact .inl e
      · exact .inr ⟨[], fun j hj => by simp at hj, trivial, by rw [e]; simp [gnF]⟩
      · refine .inr ⟨(i : Int) :: r, fun j hj => ?_, ⟨by omega, q3, r1, by rwa [Int.toNat_natCast]⟩, rfl⟩
        simp only [List.head?_cons, Option.mem_def, Option.some.injEq] at hj
        subst hj; exact q2
  exact ⟨(key _).2 hb.1, fun q hq => hb.2 q ((key q).1 hq)⟩
/-- All lists tried are all lists. -/
theorem ch_all {l : List Off} {h : Hul} {o : Rn} (hb : IsB (ChP l h ⟨[], 0⟩ ⟨[], 0⟩) o) : o = bestP l h := by
  refine IsB.uniq (P := fun q => Fea l h q.s ∧ q.g = gnF l h q.s) ⟨?_, fun q hq => hb.2 q (.inr ⟨q.s, fun j _ => rfl, hq.1, ?_⟩)⟩ (bestP_best l h)
  · rcases hb.1 with rfl | ⟨r, r1, r2, rfl⟩
    · exact ⟨trivial, rfl⟩
    · exact ⟨by simpa using r2, by simp⟩
  · have := hq.2
    cases q
    simp_all
/-- A run that can be gone on with. -/
structure NwOk (l : List Off) (r : Rn) : Prop where
  rng : ∀ i ∈ r.s, 0 ≤ i ∧ i < (l.length : Int)
  mu : r.s.length + muF l r.s.getLast? ≤ 20
  gb : -20000000000 * (r.s.length : Int) ≤ r.g ∧ r.g ≤ 20000000000 * (r.s.length : Int)
theorem NwOk.next {l : List Off} {r : Rn} {h : Hul} {k : Nat} (q : NwOk l r) (hk : k < l.length) (h1 : okA l r.s.getLast? (k : Int) = true) (hok : ∀ x ∈ l, okOff x = true) (hh : okHul h) : NwOk l ⟨r.s ++ [(k : Int)], r.g + (nth l k).p - farH h (nth l k) * h.c⟩ := by
  have hx := hok _ (nth_mem (xs := l) (i := k) hk)
  have hf := farH_rng hh hx
  have h8 := Int.mul_le_mul hf.2 hh.2.2.2.2 hh.2.2.2.1 (by omega)
  have h9 := Int.mul_nonneg hf.1 hh.2.2.2.1
  have hm := muF_lt hk h1
  unfold okOff at hx
  rw [decide_eq_true_eq] at hx
  obtain ⟨q1, q2, q3⟩ := q
  refine ⟨fun i hi => ?_, ?_, ?_⟩
  · rcases List.mem_append.1 hi with hi | hi
    · exact q1 i hi
    · rw [List.mem_singleton.1 hi]; omega
  · have e : (r.s ++ [(k : Int)]).getLast? = some (k : Int) := by simp
    dsimp only
    rw [e, List.length_append, List.length_singleton]; omega
  · simp only [List.length_append, List.length_singleton]; omega
theorem last_eq {s : List Int} (h : 0 < s.length) : s.getLast? = some (nth s (s.length - 1)) := by
  rw [List.getLast?_eq_getElem?, nth_eq (by omega), List.getElem?_eq_getElem (by omega)]
theorem last_nil {s : List Int} (h : s.length = 0) : s.getLast? = none := by
  rw [List.eq_nil_of_length_eq_zero h]; rfl

/-- What choose does. -/
def ChooseS (l : List Off) (al : Option Addr) (bl ol cl z bp : Nat) (hn : HR) : Prop := ∀ (h : Hul) (hb : HR) (w0 : World), Sl encOff 5 w0 al bl ol l → (0 < l.length → bl ≠ bp) → Blk w0 bp 44 [.slice hb.ao hb.r.s.length hb.cp, .int .i64 hb.r.g] → Sl encI 1 w0 hb.ao hb.g hb.o hb.r.s → (0 < hb.r.s.length → hb.g < z ∨ bp < hb.g) → Sl encI 1 w0 hn.ao hn.g hn.o hn.r.s → (0 < hn.r.s.length → hn.g < z ∨ bp < hn.g) → okHul h → NwOk l hn.r → hb.r.s.length ≤ 1000 → z ≤ bp →
  CallsV Tryz.prog 69 [.slice al l.length cl, .agg #[.int .i64 h.p, .int .i64 h.m, .int .i64 h.s, .int .i64 h.c], .agg #[.slice hn.ao hn.r.s.length hn.cp, .int .i64 hn.r.g], .pointer (some ⟨bp, 0, none⟩)] w0 (fun v w' => (v = .tuple #[] ∧ ∃ x : HR, Blk w' bp 44 [.slice x.ao x.r.s.length x.cp, .int .i64 x.r.g] ∧ Sl encI 1 w' x.ao x.g x.o x.r.s ∧ (0 < x.r.s.length → x.g < z ∨ bp < x.g) ∧ x.r.s.length ≤ 1000 ∧ IsB (ChP l h hn.r hb.r) x.r) ∧ Upd (fun i => i = bp) w0 w')
theorem rabs_c (n : Int) (w0 : World) (hn : -1000000 ≤ n ∧ n ≤ 1000000) :
    CallsV Tryz.prog 54 [.int .i64 n] w0 (fun v w' => v = .int .i64 (max n (-n)) ∧ Ext w0 w') := by
 refine f_n func54 ?_
 refine go ?_
 refine t_neg rfl rfl rfl (by omega) (t_max rfl rfl rfl rfl ?_)
 refine go ?_
 refine f_1 results54 ?_
 exact ⟨rfl, u_d⟩

theorem rOffer_c (x : Off) (w0 : World) :
    CallsV Tryz.prog 17 [.agg #[.int .i64 x.f, .int .i64 x.t, .int .i64 x.b, .int .i64 x.e, .int .i64 x.p]] w0 (fun v w' => v = .bool (okOff x) ∧ Ext w0 w') := by
 refine f_n func17 ?_
 refine go ?_
 refine x_b fun bk2 w3 ebk2 sbk2 B4 u5 => ?_
 refine go ?_
 refine x_c func68 rfl rfl (rin_c x.f 0 100000 _) ?_
 rintro _ w9 ⟨rfl, u10⟩ zu10
 refine go ?_
 refine t_splitp 6 rfl (fun g6 => ?_) (fun g6 => ?_)
 ·
  refine go ?_
  refine x_c func68 rfl rfl (rin_c x.t 0 100000 _) ?_
  rintro _ w14 ⟨rfl, u15⟩ zu15
  refine go ?_
  refine t_splitp 11 rfl (fun g11 => ?_) (fun g11 => ?_)
  ·
   refine go ?_
   refine t_splitp 16 rfl (fun g16 => ?_) (fun g16 => ?_)
   ·
    refine go ?_
    refine t_splitp 23 rfl (fun g23 => ?_) (fun g23 => ?_)
    ·
     refine go ?_
     refine t_splitp 28 rfl (fun g28 => ?_) (fun g28 => ?_)
     ·
      refine go ?_
      refine x_c func68 rfl rfl (rin_c x.p 0 1000000000 _) ?_
      rintro _ w19 ⟨rfl, u20⟩ zu20
      refine go ?_
      refine f_1 results17 ?_
      exact ⟨congrArg Value.bool (by rw [Bool.eq_iff_iff]; simp only [okOff, decide_eq_true_eq] <;> grind), u_d⟩
     refine go ?_
     refine f_1 results17 ?_
     exact ⟨congrArg Value.bool (by rw [Bool.eq_iff_iff]; simp only [okOff, decide_eq_true_eq] <;> grind), u_d⟩
    refine go ?_
    refine f_1 results17 ?_
    exact ⟨congrArg Value.bool (by rw [Bool.eq_iff_iff]; simp only [okOff, decide_eq_true_eq] <;> grind), u_d⟩
   refine go ?_
   refine f_1 results17 ?_
   exact ⟨congrArg Value.bool (by rw [Bool.eq_iff_iff]; simp only [okOff, decide_eq_true_eq] <;> grind), u_d⟩
  refine go ?_
  refine f_1 results17 ?_
  exact ⟨congrArg Value.bool (by rw [Bool.eq_iff_iff]; simp only [okOff, decide_eq_true_eq] <;> grind), u_d⟩
 refine go ?_
 refine f_1 results17 ?_
 exact ⟨congrArg Value.bool (by rw [Bool.eq_iff_iff]; simp only [okOff, decide_eq_true_eq] <;> grind), u_d⟩

theorem smaller_c (xs : List Int) (axs : Option Addr) (bxs oxs cxs : Nat) (ys : List Int) (ays : Option Addr) (bys oys cys : Nat) (w0 : World) (hxs : Sl encI 1 w0 axs bxs oxs xs) (hys : Sl encI 1 w0 ays bys oys ys) (hxl : xs.length ≤ 1000) (he : xs.length = ys.length) :
    CallsV Tryz.prog 105 [.slice axs xs.length cxs, .slice ays ys.length cys] w0 (fun v w' => v = .bool (decide (cmpL xs ys < 0)) ∧ Ext w0 w') := by
 refine f_n func105 ?_
 refine go ?_
 refine x_l1 (fun _ => False) [0, 1] (fun (k : Nat) => [(5, .int .i64 (k : Int))]) (fun k w => (k ≤ xs.length) ∧ (cmpL xs ys = cmpL (xs.drop k) (ys.drop k))) (fun k => xs.length - k) 0 ⟨(Nat.zero_le _), rfl⟩ ?_
 rintro k w5 ⟨hk, hcm⟩ u6 zu6 K4 hK4
 refine go ?_
 refine q_p (fun g9 => ?_) fun g9 => ?_
 ·
  refine go ?_
  refine c_drawnM follows (fun _ => False) (OTl [0, 2, 4, 6, 8, 10, 12, 14, 16]) (by kernel_rfl) fun w12 u13 => ?_
  have zu13 := u13.size
  have E14 := Sc.mk (((Upd.refl (fun _ => False) w0).nx u6).nx u13)
  refine go ?_
  refine y_i k (hxs.keep E14.u (fun _ h => h)) (fun _ => ?_)
  refine go ?_
  refine y_i k (hys.keep E14.u (fun _ h => h)) (fun _ => ?_)
  refine go ?_
  refine q_p (fun g20 => ?_) fun g20 => ?_
  ·
   refine go ?_
   refine c_drawnM follows (fun _ => False) (OTl [0, 2, 4, 6, 8, 10, 12, 14, 16, 18]) (by kernel_rfl) fun w18 u19 => ?_
   have zu19 := u19.size
   have E20 := Sc.mk (E14.u.nx u19)
   refine go ?_
   refine y_i k (hxs.keep E20.u (fun _ h => h)) (fun _ => ?_)
   refine go ?_
   refine y_i k (hys.keep E20.u (fun _ h => h)) (fun _ => ?_)
   refine go ?_
   refine f_1 results105 ?_
   have e9 := @cmp_lt (nth xs k) (nth ys k)
   have e8 := @cmp_eq (nth xs k) (nth ys k)
   have e7 : cmpL xs ys = cmpI3 (nth xs k) (nth ys k) := by rw [hcm, drop_nth (show k < xs.length by omega), drop_nth (show k < ys.length by omega), cmpL, if_pos (by omega)]
   exact ⟨congrArg Value.bool (by rw [e7, Bool.eq_iff_iff]; simp only [decide_eq_true_eq]; omega), u_d⟩
  refine go ?_
  exact hK4 (k + 1) ⟨(by omega), (by have e9 := (@cmp_eq (nth xs k) (nth ys k)).2 (by omega); rw [hcm, drop_nth (show k < xs.length by omega), drop_nth (show k < ys.length by omega), cmpL, if_neg (by omega)])⟩
 refine go ?_
 refine f_1 results105 ?_
 have e7 : cmpL xs ys = 0 := by rw [hcm, List.drop_eq_nil_of_le (show xs.length ≤ k by omega), List.drop_eq_nil_of_le (show ys.length ≤ k by omega)]; rfl
 exact ⟨congrArg Value.bool (by rw [e7]; rfl), u_d⟩

set_option maxHeartbeats 4000000 in
theorem choose_s (l : List Off) (al : Option Addr) (bl ol cl z bp : Nat) (hn : HR) (h : Hul) (hb : HR) (w0 : World) (hl : Sl encOff 5 w0 al bl ol l) (hok : ∀ x ∈ l, okOff x = true) (hll : l.length ≤ 12) (hblb : 0 < l.length → bl ≠ bp) (hbp : Blk w0 bp 44 [.slice hb.ao hb.r.s.length hb.cp, .int .i64 hb.r.g]) (hshb : Sl encI 1 w0 hb.ao hb.g hb.o hb.r.s) (hnehb : 0 < hb.r.s.length → hb.g < z ∨ bp < hb.g) (hshn : Sl encI 1 w0 hn.ao hn.g hn.o hn.r.s) (hnehn : 0 < hn.r.s.length → hn.g < z ∨ bp < hn.g) (hh : okHul h) (hnw : NwOk l hn.r) (hlhb : hb.r.s.length ≤ 1000) (hz9 : z ≤ bp) (ih : ∀ hm : HR, muF l hm.r.s.getLast? < muF l hn.r.s.getLast? → ChooseS l al bl ol cl z bp hm) :
    CallsV Tryz.prog 69 [.slice al l.length cl, .agg #[.int .i64 h.p, .int .i64 h.m, .int .i64 h.s, .int .i64 h.c], .agg #[.slice hn.ao hn.r.s.length hn.cp, .int .i64 hn.r.g], .pointer (some ⟨bp, 0, none⟩)] w0 (fun v w' => (v = .tuple #[] ∧ ∃ x : HR, Blk w' bp 44 [.slice x.ao x.r.s.length x.cp, .int .i64 x.r.g] ∧ Sl encI 1 w' x.ao x.g x.o x.r.s ∧ (0 < x.r.s.length → x.g < z ∨ bp < x.g) ∧ x.r.s.length ≤ 1000 ∧ IsB (ChP l h hn.r hb.r) x.r) ∧ Upd (fun i => i = bp) w0 w') := by
 have hbpl := hbp.lt
 have hmu := hnw.mu
 have hgb9 := hnw.gb
 have hh1 := hh.1
 have hh2 := hh.2.1
 refine f_n func69 ?_
 refine go ?_
 refine x_b fun bk2 w3 ebk2 sbk2 B4 u5 => ?_
 refine x_b fun bk7 w8 ebk7 sbk7 B9 u10 => ?_
 iterate 2 refine st1 ?_
 refine x_k1 (fun i => i = bp) [0, 3, 5, 6] (fun (x1 : HR) => []) (fun x1 w => Blk w bp 44 [.slice x1.ao x1.r.s.length x1.cp, .int .i64 x1.r.g] ∧ (Sl encI 1 w x1.ao x1.g x1.o x1.r.s) ∧ (0 < x1.r.s.length → x1.g < z ∨ bp < x1.g) ∧ (x1.r.s.length ≤ 1000) ∧ (IsB (ChK l h hn.r hb.r 0) x1.r)) (fun K16 hK16 => ?_) ?_
 ·
  refine x_k1 (fun _ => False) [0, 3, 5, 6] (fun (u9 : Unit) => [(59, .bool (bt hn.r hb.r))]) (fun u9 w => True) (fun K23 hK23 => ?_) ?_
  ·
   refine c_drawnM follows (fun _ => False) (OTl [0, 2, 4, 6, 8, 10, 12, 14, 16, 18, 20, 22, 24, 26, 28, 30, 32, 34, 36, 38, 40, 42, 44, 46, 48, 50, 52, 54, 56, 58, 60, 62, 64, 66, 68, 70, 72, 74, 76, 78, 80, 82, 85, 86, 88, 90, 92]) (by kernel_rfl) fun w26 u27 => ?_
   have zu27 := u27.size
   refine go ?_
   refine y_splitp 20 rfl (fun g20 => ?_) (fun g20 => ?_)
   ·
    refine go ?_
    exact hK23 () trivial (hs := by exact ⟨(congrArg (fun z => some (Value.bool z)) (by rw [Bool.eq_iff_iff, bt_iff]; first | (simp only; omega) | (simp only; omega) | (simp only [true_iff]; omega))), rfl, rfl, rfl, rfl, trivial⟩)
   refine go ?_
   refine y_splitp 28 rfl (fun g28 => ?_) (fun g28 => ?_)
   ·
    refine go ?_
    refine y_splitp 38 rfl (fun g38 => ?_) (fun g38 => ?_)
    ·
     refine go ?_
     exact hK23 () trivial (hs := by exact ⟨(congrArg (fun z => some (Value.bool z)) (by rw [Bool.eq_iff_iff, bt_iff]; first | (simp only; omega) | (simp only; omega) | (simp only [true_iff]; omega))), rfl, rfl, rfl, rfl, trivial⟩)
    refine go ?_
    refine y_splitp 48 rfl (fun g48 => ?_) (fun g48 => ?_)
    ·
     refine go ?_
     have D29 := (((hshn.keep u5 (fun _ h => h)).keep u10 (fun _ h => h)).keep u27 (fun _ h => h))
     have D30 := (((hshb.keep u5 (fun _ h => h)).keep u10 (fun _ h => h)).keep u27 (fun _ h => h))
     refine x_c func105 rfl rfl (smaller_c hn.r.s hn.ao hn.g hn.o hn.cp hb.r.s hb.ao hb.g hb.o hb.cp _ D29 D30 (by omega) (by omega)) ?_
     rintro _ w32 ⟨rfl, u33⟩ zu33
     refine go ?_
     exact hK23 () trivial (hs := by exact ⟨(congrArg (fun z => some (Value.bool z)) (by rw [Bool.eq_iff_iff, bt_iff]; first | (simp only [decide_eq_true_eq]; omega) | (simp only [Bool.false_eq_true, false_iff]; omega) | (simp only [true_iff]; omega))), rfl, rfl, rfl, rfl, trivial⟩)
    refine go ?_
    exact hK23 () trivial (hs := by exact ⟨(congrArg (fun z => some (Value.bool z)) (by rw [Bool.eq_iff_iff, bt_iff]; first | (simp only [decide_eq_true_eq]; omega) | (simp only [Bool.false_eq_true, false_iff]; omega) | (simp only [true_iff]; omega))), rfl, rfl, rfl, rfl, trivial⟩)
   refine go ?_
   exact hK23 () trivial (hs := by exact ⟨(congrArg (fun z => some (Value.bool z)) (by rw [Bool.eq_iff_iff, bt_iff]; first | (simp only [decide_eq_true_eq]; omega) | (simp only [Bool.false_eq_true, false_iff]; omega) | (simp only [true_iff]; omega))), rfl, rfl, rfl, rfl, trivial⟩)
  rintro u9 w24 _ u25 zu25
  refine q_b (fun g59 => ?_) fun g59 => ?_
  ·
   refine go ?_
   refine x_s fun w37 sw37 B39 u38 => ?_
   refine go ?_
   have D41 := ((((hshn.keep u5 (fun _ h => h)).keep u10 (fun _ h => h)).keep u25 (fun _ h => h)).keep u38 (fun h9 => show ¬ (hn.g = bp) by have := hnehn h9; have := hshn.lt h9; omega))
   exact hK16 hn ⟨B39, D41, hnehn, (by omega), (by have h9 := ch_zero l h hn.r hb.r; rwa [if_pos g59] at h9)⟩
  refine go ?_
  have B42 := (((hbp.kx u5).kx u10).kx u25)
  have D43 := (((hshb.keep u5 (fun _ h => h)).keep u10 (fun _ h => h)).keep u25 (fun _ h => h))
  exact hK16 hb ⟨B42, D43, hnehb, (by omega), (by have h9 := ch_zero l h hn.r hb.r; rwa [if_neg (by rw [g59]; exact Bool.false_ne_true)] at h9)⟩
 rintro x1 w17 ⟨I44, hsx1, hnex1, hlenx1, hIx1⟩ u18 zu18
 refine go ?_
 refine x_l2 (fun i => i = bp) [0, 3, 5, 6] (fun (k : Nat) (x2 : HR) => [(8, .int .i64 (k : Int))]) (fun k x2 w => Blk w bp 44 [.slice x2.ao x2.r.s.length x2.cp, .int .i64 x2.r.g] ∧ (k ≤ l.length) ∧ (Sl encI 1 w x2.ao x2.g x2.o x2.r.s) ∧ (0 < x2.r.s.length → x2.g < z ∨ bp < x2.g) ∧ (x2.r.s.length ≤ 1000) ∧ (IsB (ChK l h hn.r hb.r k) x2.r)) (fun k x2 => l.length - k) 0 x1 ⟨I44, (Nat.zero_le _), hsx1, hnex1, hlenx1, hIx1⟩ ?_
 rintro k x2 w48 ⟨I50, hk, hsx2, hnex2, hlenx2, hIx2⟩ u49 zu49 K47 hK47
 refine go ?_
 refine q_p (fun g66 => ?_) fun g66 => ?_
 ·
  have hbll := hl.lt (by omega)
  have hblp := hblb (by omega)
  have hx7 := hok _ (nth_mem (xs := l) (i := k) (by omega))
  unfold okOff at hx7
  rw [decide_eq_true_eq] at hx7
  have h7 := farH_rng hh (hok _ (nth_mem (xs := l) (i := k) (by omega)))
  have h8 := Int.mul_le_mul h7.2 hh.2.2.1.2 hh.2.2.1.1 (by omega)
  have h9 := Int.mul_nonneg h7.1 hh.2.2.1.1
  have h8c := Int.mul_le_mul h7.2 hh.2.2.2.2 hh.2.2.2.1 (by omega)
  have h9c := Int.mul_nonneg h7.1 hh.2.2.2.1
  iterate 4 refine st1 ?_
  refine x_k1 (fun _ => False) [0, 3, 5, 6, 8] (fun (u8 : Unit) => []) (fun u8 w => (okA l hn.r.s.getLast? (k : Int) = true)) (fun K59 hK59 => ?_) ?_
  ·
   refine go ?_
   refine q_p (fun g73 => ?_) fun g73 => ?_
   ·
    have hlast := last_eq (s := hn.r.s) (by omega)
    have hlr := hnw.rng _ (nth_mem (xs := hn.r.s) (i := hn.r.s.length - 1) (by omega))
    refine go ?_
    have D65 := ((((hshn.keep u5 (fun _ h => h)).keep u10 (fun _ h => h)).keep u18 (fun h9 => show ¬ (hn.g = bp) by have := hnehn h9; have := hshn.lt h9; omega)).keep u49 (fun h9 => show ¬ (hn.g = bp) by have := hnehn h9; have := hshn.lt h9; omega))
    refine g_i (hn.r.s.length - 1) D65 (fun _ => ?_) (hj := (by omega))
    refine go ?_
    refine c_drawnM follows (fun _ => False) (OTl [0, 2, 4, 6, 8, 10, 12, 14, 16, 18, 20, 22, 24, 26, 28, 30, 32, 34, 36, 38, 40, 42, 44, 46, 48, 50, 52, 54, 56]) (by kernel_rfl) fun w68 u69 => ?_
    have zu69 := u69.size
    refine go ?_
    have D71 := (((((hl.keep u5 (fun _ h => h)).keep u10 (fun _ h => h)).keep u18 (fun h9 => show ¬ (bl = bp) by have := hblb h9; omega)).keep u49 (fun h9 => show ¬ (bl = bp) by have := hblb h9; omega)).keep u69 (fun _ h => h))
    refine y_i k D71 (fun _ => ?_)
    refine go ?_
    refine y_i ((nth hn.r.s (hn.r.s.length - 1)).toNat) D71 (fun _ => ?_) (hj := (by omega))
    refine go ?_
    refine y_splitp 91 rfl (fun g91 => ?_) (fun g91 => ?_)
    ·
     refine go ?_
     have B74 := (I50.kx u69)
     have D75 := (hsx2.keep u69 (fun _ h => h))
     exact hK47 (k + 1) x2 ⟨B74, (by omega), D75, hnex2, hlenx2, (ch_skip (by rintro ⟨q1, _⟩; rw [hlast] at q1; have q3 := of_decide_eq_true q1; unfold prc at q3; rw [Int.toNat_natCast] at q3; omega) hIx2)⟩
    refine go ?_
    refine y_i k D71 (fun _ => ?_)
    refine go ?_
    refine y_i ((nth hn.r.s (hn.r.s.length - 1)).toNat) D71 (fun _ => ?_) (hj := (by omega))
    refine go ?_
    refine y_splitp 103 rfl (fun g103 => ?_) (fun g103 => ?_)
    ·
     refine go ?_
     refine q_p (fun g108 => ?_) fun g108 => ?_
     ·
      refine go ?_
      have B78 := (I50.kx u69)
      have D79 := (hsx2.keep u69 (fun _ h => h))
      exact hK47 (k + 1) x2 ⟨B78, (by omega), D79, hnex2, hlenx2, (ch_skip (by rintro ⟨q1, _⟩; rw [hlast] at q1; have q3 := of_decide_eq_true q1; unfold prc at q3; rw [Int.toNat_natCast] at q3; omega) hIx2)⟩
     refine go ?_
     exact hK59 () (by rw [hlast]; exact decide_eq_true (by unfold prc; rw [Int.toNat_natCast]; omega))
    refine go ?_
    exact hK59 () (by rw [hlast]; exact decide_eq_true (by unfold prc; rw [Int.toNat_natCast]; omega))
   refine go ?_
   exact hK59 () (by rw [last_nil (by omega)]; rfl)
  rintro u8 w60 hokA u61 zu61
  refine go ?_
  refine c_drawnM follows (fun _ => False) (OTl [0, 2, 4, 6, 8, 10, 12, 14, 17, 18]) (by kernel_rfl) fun w82 u83 => ?_
  have zu83 := u83.size
  refine go ?_
  have D85 := ((((((hl.keep u5 (fun _ h => h)).keep u10 (fun _ h => h)).keep u18 (fun h9 => show ¬ (bl = bp) by have := hblb h9; omega)).keep u49 (fun h9 => show ¬ (bl = bp) by have := hblb h9; omega)).keep u61 (fun _ h => h)).keep u83 (fun _ h => h))
  refine y_i k D85 (fun _ => ?_)
  refine go ?_
  refine x_c func54 rfl rfl (rabs_c (((nth l k).f) - h.p) _ (by omega)) ?_
  rintro _ w88 ⟨rfl, u89⟩ zu89
  refine t_same 117 (v := .int .i64 (farH h (nth l k))) rfl (congrArg (Value.int .i64) (by unfold farH; omega)) ?_
  refine go ?_
  refine c_drawnM follows (fun _ => False) (OTl [0, 2, 4, 6, 8, 10, 12, 14, 16, 18, 20, 22, 24]) (by kernel_rfl) fun w94 u95 => ?_
  have zu95 := u95.size
  refine go ?_
  have D97 := ((D85.keep u89 (fun _ h => h)).keep u95 (fun _ h => h))
  refine y_i k D97 (fun _ => ?_)
  refine go ?_
  refine q_p (fun g130 => ?_) fun g130 => ?_
  ·
   refine go ?_
   have B99 := ((((I50.kx u61).kx u83).kx u89).kx u95)
   have D100 := ((((hsx2.keep u61 (fun _ h => h)).keep u83 (fun _ h => h)).keep u89 (fun _ h => h)).keep u95 (fun _ h => h))
   exact hK47 (k + 1) x2 ⟨B99, (by omega), D100, hnex2, hlenx2, (ch_skip (by rintro ⟨q1, q2⟩; unfold inT at q2; rw [Int.toNat_natCast] at q2; omega) hIx2)⟩
  iterate 2 refine st1 ?_
  refine x_k4 (fun i => w94.heap.size ≤ i) [0, 3, 5, 6, 8] (fun (b12 : Nat) (a3 : Option Addr) (g3 : Nat) (c3 : Nat) => [(12, .pointer (some ⟨b12, 0, none⟩))]) (fun b12 a3 g3 c3 w => (Blk w b12 44 [.slice a3 (List.length (hn.r.s ++ [(k : Int)])) c3, .int .i64 (hn.r.g + (nth l k).p - farH h (nth l k) * h.c)]) ∧ (Sl encI 1 w a3 g3 0 (hn.r.s ++ [(k : Int)])) ∧ (0 < ((hn.r.s ++ [(k : Int)])).length → g3 < z ∨ bp < g3) ∧ (b12 ≠ bp)) (fun K105 hK105 => ?_) ?_
  ·
   refine c_drawnM follows (fun _ => False) (.look 1 (.look 2 (.look 4 (.look 7 (.look 8 (.look 9 (.look 10 (.look 11 (.look 12 (.look 13 (.look 14 (.look 15 (.look 16 (.look 17 (.look 18 (.look 19 (.act 0 (.act 3 (.act 5 (.act 6 (.look 20 (.act 21 (.act 22 .done .stop) .stop)) (.act 21 (.act 6 (.look 20 (.act 22 .done .stop)) .stop) .stop)) (.act 21 (.act 5 (.act 6 (.look 20 (.act 22 .done .stop)) .stop) .stop) .stop)) (.act 5 (.act 3 (.act 6 (.look 20 (.act 21 (.act 22 .done .stop) .stop)) (.act 21 (.act 6 (.look 20 (.act 22 .done .stop)) .stop) .stop)) (.act 21 (.act 3 (.act 6 (.look 20 (.act 22 .done .stop)) .stop) .stop) .stop)) (.act 21 (.act 3 (.act 5 (.act 6 (.look 20 (.act 22 .done .stop)) .stop) .stop) (.act 5 (.act 3 (.act 6 (.look 20 (.act 22 .done .stop)) .stop) .stop) .stop)) .stop))) (.act 5 (.act 0 (.act 3 (.act 6 (.look 20 (.act 21 (.act 22 .done .stop) .stop)) (.act 21 (.act 6 (.look 20 (.act 22 .done .stop)) .stop) .stop)) (.act 21 (.act 3 (.act 6 (.look 20 (.act 22 .done .stop)) .stop) .stop) .stop)) (.act 21 (.act 0 (.act 3 (.act 6 (.look 20 (.act 22 .done .stop)) .stop) .stop) .stop) .stop)) (.act 21 (.act 0 (.act 3 (.act 5 (.act 6 (.look 20 (.act 22 .done .stop)) .stop) .stop) (.act 5 (.act 3 (.act 6 (.look 20 (.act 22 .done .stop)) .stop) .stop) .stop)) (.act 5 (.act 0 (.act 3 (.act 6 (.look 20 (.act 22 .done .stop)) .stop) .stop) .stop) .stop)) .stop))))))))))))))))))) (by kernel_rfl) fun w108 u109 => ?_
   have zu109 := u109.size
   refine go ?_
   have D111 := (D97.keep u109 (fun _ h => h))
   refine y_i k D111 (fun _ => ?_)
   refine go ?_
   refine s_or ?_ ?_
   ·
    refine go ?_
    refine x_l fun bk113 w114 ebk113 sbk113 B115 u116 => ?_
    refine go ?_
    refine s_or ?_ ?_
    ·
     refine go ?_
     have D118 := ((((((((((hshn.keep u5 (fun _ h => h)).keep u10 (fun _ h => h)).keep u18 (fun h9 => show ¬ (hn.g = bp) by have := hnehn h9; have := hshn.lt h9; omega)).keep u49 (fun h9 => show ¬ (hn.g = bp) by have := hnehn h9; have := hshn.lt h9; omega)).keep u61 (fun _ h => h)).keep u83 (fun _ h => h)).keep u89 (fun _ h => h)).keep u95 (fun _ h => h)).keep u109 (fun _ h => h)).keep u116 (fun _ h => h))
     refine t_copy (enc := encI) (z := .int .i64 0) (bytes := 8) (k := 1) (ys := hn.r.s) underlying37 (by kernel_rfl) rfl (by decide) (fun _ => rfl) (by intro x; simp [encI, Value.oneCell']) rfl rfl rfl rfl B115 D118 (by omega) (by decide) (fun ao119 gb120 cp121 w122 A123 u124 gegb120 => ?_)
     have zu124 := u124.size
     have lt_gb120 := A123.lt
     refine go ?_
     refine s_or ?_ ?_
     ·
      refine go ?_
      refine x_l fun bk126 w127 ebk126 sbk126 B128 u129 => ?_
      refine go ?_
      refine s_or ?_ ?_
      ·
       refine go ?_
       have D131 := (A123.keep u129 (fun _ h => h))
       refine t_append (z := .int .i64 0) (bytes := 8) (k := 1) (base := bk113) (k : Int) underlying37 (by kernel_rfl) rfl (by decide) (fun _ => rfl) (by intro x; simp [encI, Value.oneCell']) rfl rfl rfl rfl D131 B128 (by omega) (by omega) (by decide) (fun ao132 gb133 cp134 w135 A136 u137 gegb133 lngb133 => ?_)
       have zu137 := u137.size
       have lt_gb133 := A136.lt
       refine go ?_
       refine x_n fun bk139 w140 ebk139 sbk139 B141 u142 => ?_
       refine go ?_
       refine x_s fun w144 sw144 B146 u145 => ?_
       refine go ?_
       have D148 := ((A136.keep u142 (fun _ h => h)).keep u145 (fun hb => show ¬ (gb133 = bk139) by first | omega | assumption))
       exact hK105 bk139 ao132 gb133 cp134 ⟨B146, (D148.sl (fun _ => rfl)), (fun h9 => by have := D148.ge h9; omega), (by omega)⟩ (hu := ((((((((Upd.refl _ _).nx u109).nx u116).next u124 (fun i hi (h : (i = bk113 ∧ bk113 ≤ i)) => show w94.heap.size ≤ i by first | omega | assumption)).nx u129).next u137 (fun i hi (h : (i = gb120 ∧ bk113 ≤ i)) => show w94.heap.size ≤ i by first | omega | assumption)).nx u142).next u145 (fun i hi (h : i = bk139) => show w94.heap.size ≤ i by first | omega | assumption)))
      refine go ?_
      refine x_n fun bk149 w150 ebk149 sbk149 B151 u152 => ?_
      refine go ?_
      have D154 := ((A123.keep u129 (fun _ h => h)).keep u152 (fun _ h => h))
      have B155 := (B128.kx u152)
      refine t_append (z := .int .i64 0) (bytes := 8) (k := 1) (base := bk113) (k : Int) underlying37 (by kernel_rfl) rfl (by decide) (fun _ => rfl) (by intro x; simp [encI, Value.oneCell']) rfl rfl rfl rfl D154 B155 (by omega) (by omega) (by decide) (fun ao156 gb157 cp158 w159 A160 u161 gegb157 lngb157 => ?_)
      have zu161 := u161.size
      have lt_gb157 := A160.lt
      refine go ?_
      refine x_s fun w163 sw163 B165 u164 => ?_
      refine go ?_
      have D167 := (A160.keep u164 (fun hb => show ¬ (gb157 = bk149) by first | omega | assumption))
      exact hK105 bk149 ao156 gb157 cp158 ⟨B165, (D167.sl (fun _ => rfl)), (fun h9 => by have := D167.ge h9; omega), (by omega)⟩ (hu := ((((((((Upd.refl _ _).nx u109).nx u116).next u124 (fun i hi (h : (i = bk113 ∧ bk113 ≤ i)) => show w94.heap.size ≤ i by first | omega | assumption)).nx u129).nx u152).next u161 (fun i hi (h : (i = gb120 ∧ bk113 ≤ i)) => show w94.heap.size ≤ i by first | omega | assumption)).next u164 (fun i hi (h : i = bk149) => show w94.heap.size ≤ i by first | omega | assumption)))
     refine go ?_
     refine x_n fun bk168 w169 ebk168 sbk168 B170 u171 => ?_
     refine go ?_
     refine x_l fun bk173 w174 ebk173 sbk173 B175 u176 => ?_
     refine go ?_
     have D178 := ((A123.keep u171 (fun _ h => h)).keep u176 (fun _ h => h))
     refine t_append (z := .int .i64 0) (bytes := 8) (k := 1) (base := bk113) (k : Int) underlying37 (by kernel_rfl) rfl (by decide) (fun _ => rfl) (by intro x; simp [encI, Value.oneCell']) rfl rfl rfl rfl D178 B175 (by omega) (by omega) (by decide) (fun ao179 gb180 cp181 w182 A183 u184 gegb180 lngb180 => ?_)
     have zu184 := u184.size
     have lt_gb180 := A183.lt
     refine go ?_
     refine x_s fun w186 sw186 B188 u187 => ?_
     refine go ?_
     have D190 := (A183.keep u187 (fun hb => show ¬ (gb180 = bk168) by first | omega | assumption))
     exact hK105 bk168 ao179 gb180 cp181 ⟨B188, (D190.sl (fun _ => rfl)), (fun h9 => by have := D190.ge h9; omega), (by omega)⟩ (hu := ((((((((Upd.refl _ _).nx u109).nx u116).next u124 (fun i hi (h : (i = bk113 ∧ bk113 ≤ i)) => show w94.heap.size ≤ i by first | omega | assumption)).nx u171).nx u176).next u184 (fun i hi (h : (i = gb120 ∧ bk113 ≤ i)) => show w94.heap.size ≤ i by first | omega | assumption)).next u187 (fun i hi (h : i = bk168) => show w94.heap.size ≤ i by first | omega | assumption)))
    refine s_or ?_ ?_
    ·
     refine go ?_
     refine x_l fun bk191 w192 ebk191 sbk191 B193 u194 => ?_
     refine go ?_
     refine s_or ?_ ?_
     ·
      refine go ?_
      have B196 := (B115.kx u194)
      have D197 := (((((((((((hshn.keep u5 (fun _ h => h)).keep u10 (fun _ h => h)).keep u18 (fun h9 => show ¬ (hn.g = bp) by have := hnehn h9; have := hshn.lt h9; omega)).keep u49 (fun h9 => show ¬ (hn.g = bp) by have := hnehn h9; have := hshn.lt h9; omega)).keep u61 (fun _ h => h)).keep u83 (fun _ h => h)).keep u89 (fun _ h => h)).keep u95 (fun _ h => h)).keep u109 (fun _ h => h)).keep u116 (fun _ h => h)).keep u194 (fun _ h => h))
      refine t_copy (enc := encI) (z := .int .i64 0) (bytes := 8) (k := 1) (ys := hn.r.s) underlying37 (by kernel_rfl) rfl (by decide) (fun _ => rfl) (by intro x; simp [encI, Value.oneCell']) rfl rfl rfl rfl B196 D197 (by omega) (by decide) (fun ao198 gb199 cp200 w201 A202 u203 gegb199 => ?_)
      have zu203 := u203.size
      have lt_gb199 := A202.lt
      refine go ?_
      refine s_or ?_ ?_
      ·
       refine go ?_
       have B205 := (B193.keep u203 (by omega))
       refine t_append (z := .int .i64 0) (bytes := 8) (k := 1) (base := bk113) (k : Int) underlying37 (by kernel_rfl) rfl (by decide) (fun _ => rfl) (by intro x; simp [encI, Value.oneCell']) rfl rfl rfl rfl A202 B205 (by omega) (by omega) (by decide) (fun ao206 gb207 cp208 w209 A210 u211 gegb207 lngb207 => ?_)
       have zu211 := u211.size
       have lt_gb207 := A210.lt
       refine go ?_
       refine x_n fun bk213 w214 ebk213 sbk213 B215 u216 => ?_
       refine go ?_
       refine x_s fun w218 sw218 B220 u219 => ?_
       refine go ?_
       have D222 := ((A210.keep u216 (fun _ h => h)).keep u219 (fun hb => show ¬ (gb207 = bk213) by first | omega | assumption))
       exact hK105 bk213 ao206 gb207 cp208 ⟨B220, (D222.sl (fun _ => rfl)), (fun h9 => by have := D222.ge h9; omega), (by omega)⟩ (hu := ((((((((Upd.refl _ _).nx u109).nx u116).nx u194).next u203 (fun i hi (h : (i = bk113 ∧ bk113 ≤ i)) => show w94.heap.size ≤ i by first | omega | assumption)).next u211 (fun i hi (h : (i = gb199 ∧ bk113 ≤ i)) => show w94.heap.size ≤ i by first | omega | assumption)).nx u216).next u219 (fun i hi (h : i = bk213) => show w94.heap.size ≤ i by first | omega | assumption)))
      refine go ?_
      refine x_n fun bk223 w224 ebk223 sbk223 B225 u226 => ?_
      refine go ?_
      have D228 := (A202.keep u226 (fun _ h => h))
      have B229 := ((B193.keep u203 (by omega)).kx u226)
      refine t_append (z := .int .i64 0) (bytes := 8) (k := 1) (base := bk113) (k : Int) underlying37 (by kernel_rfl) rfl (by decide) (fun _ => rfl) (by intro x; simp [encI, Value.oneCell']) rfl rfl rfl rfl D228 B229 (by omega) (by omega) (by decide) (fun ao230 gb231 cp232 w233 A234 u235 gegb231 lngb231 => ?_)
      have zu235 := u235.size
      have lt_gb231 := A234.lt
      refine go ?_
      refine x_s fun w237 sw237 B239 u238 => ?_
      refine go ?_
      have D241 := (A234.keep u238 (fun hb => show ¬ (gb231 = bk223) by first | omega | assumption))
      exact hK105 bk223 ao230 gb231 cp232 ⟨B239, (D241.sl (fun _ => rfl)), (fun h9 => by have := D241.ge h9; omega), (by omega)⟩ (hu := ((((((((Upd.refl _ _).nx u109).nx u116).nx u194).next u203 (fun i hi (h : (i = bk113 ∧ bk113 ≤ i)) => show w94.heap.size ≤ i by first | omega | assumption)).nx u226).next u235 (fun i hi (h : (i = gb199 ∧ bk113 ≤ i)) => show w94.heap.size ≤ i by first | omega | assumption)).next u238 (fun i hi (h : i = bk223) => show w94.heap.size ≤ i by first | omega | assumption)))
     refine go ?_
     refine x_n fun bk242 w243 ebk242 sbk242 B244 u245 => ?_
     refine go ?_
     have B247 := ((B115.kx u194).kx u245)
     have D248 := ((((((((((((hshn.keep u5 (fun _ h => h)).keep u10 (fun _ h => h)).keep u18 (fun h9 => show ¬ (hn.g = bp) by have := hnehn h9; have := hshn.lt h9; omega)).keep u49 (fun h9 => show ¬ (hn.g = bp) by have := hnehn h9; have := hshn.lt h9; omega)).keep u61 (fun _ h => h)).keep u83 (fun _ h => h)).keep u89 (fun _ h => h)).keep u95 (fun _ h => h)).keep u109 (fun _ h => h)).keep u116 (fun _ h => h)).keep u194 (fun _ h => h)).keep u245 (fun _ h => h))
     refine t_copy (enc := encI) (z := .int .i64 0) (bytes := 8) (k := 1) (ys := hn.r.s) underlying37 (by kernel_rfl) rfl (by decide) (fun _ => rfl) (by intro x; simp [encI, Value.oneCell']) rfl rfl rfl rfl B247 D248 (by omega) (by decide) (fun ao249 gb250 cp251 w252 A253 u254 gegb250 => ?_)
     have zu254 := u254.size
     have lt_gb250 := A253.lt
     have B256 := (B244.keep u254 (by omega))
     have hne12 := Acc.neBlk A253 B256 (by decide) (by omega)
     refine go ?_
     have B257 := ((B193.kx u245).keep u254 (by omega))
     refine t_append (z := .int .i64 0) (bytes := 8) (k := 1) (base := bk113) (k : Int) underlying37 (by kernel_rfl) rfl (by decide) (fun _ => rfl) (by intro x; simp [encI, Value.oneCell']) rfl rfl rfl rfl A253 B257 (by omega) (by omega) (by decide) (fun ao258 gb259 cp260 w261 A262 u263 gegb259 lngb259 => ?_)
     have zu263 := u263.size
     have lt_gb259 := A262.lt
     refine go ?_
     refine x_s fun w265 sw265 B267 u266 => ?_
     refine go ?_
     have D269 := (A262.keep u266 (fun hb => show ¬ (gb259 = bk242) by first | omega | assumption))
     exact hK105 bk242 ao258 gb259 cp260 ⟨B267, (D269.sl (fun _ => rfl)), (fun h9 => by have := D269.ge h9; omega), (by omega)⟩ (hu := ((((((((Upd.refl _ _).nx u109).nx u116).nx u194).nx u245).next u254 (fun i hi (h : (i = bk113 ∧ bk113 ≤ i)) => show w94.heap.size ≤ i by first | omega | assumption)).next u263 (fun i hi (h : (i = gb250 ∧ bk113 ≤ i)) => show w94.heap.size ≤ i by first | omega | assumption)).next u266 (fun i hi (h : i = bk242) => show w94.heap.size ≤ i by first | omega | assumption)))
    refine go ?_
    refine x_n fun bk270 w271 ebk270 sbk270 B272 u273 => ?_
    refine go ?_
    refine s_or ?_ ?_
    ·
     refine go ?_
     have B275 := (B115.kx u273)
     have D276 := (((((((((((hshn.keep u5 (fun _ h => h)).keep u10 (fun _ h => h)).keep u18 (fun h9 => show ¬ (hn.g = bp) by have := hnehn h9; have := hshn.lt h9; omega)).keep u49 (fun h9 => show ¬ (hn.g = bp) by have := hnehn h9; have := hshn.lt h9; omega)).keep u61 (fun _ h => h)).keep u83 (fun _ h => h)).keep u89 (fun _ h => h)).keep u95 (fun _ h => h)).keep u109 (fun _ h => h)).keep u116 (fun _ h => h)).keep u273 (fun _ h => h))
     refine t_copy (enc := encI) (z := .int .i64 0) (bytes := 8) (k := 1) (ys := hn.r.s) underlying37 (by kernel_rfl) rfl (by decide) (fun _ => rfl) (by intro x; simp [encI, Value.oneCell']) rfl rfl rfl rfl B275 D276 (by omega) (by decide) (fun ao277 gb278 cp279 w280 A281 u282 gegb278 => ?_)
     have zu282 := u282.size
     have lt_gb278 := A281.lt
     have B284 := (B272.keep u282 (by omega))
     have hne12 := Acc.neBlk A281 B284 (by decide) (by omega)
     refine go ?_
     refine x_l fun bk285 w286 ebk285 sbk285 B287 u288 => ?_
     refine go ?_
     have D290 := (A281.keep u288 (fun _ h => h))
     refine t_append (z := .int .i64 0) (bytes := 8) (k := 1) (base := bk113) (k : Int) underlying37 (by kernel_rfl) rfl (by decide) (fun _ => rfl) (by intro x; simp [encI, Value.oneCell']) rfl rfl rfl rfl D290 B287 (by omega) (by omega) (by decide) (fun ao291 gb292 cp293 w294 A295 u296 gegb292 lngb292 => ?_)
     have zu296 := u296.size
     have lt_gb292 := A295.lt
     refine go ?_
     refine x_s fun w298 sw298 B300 u299 => ?_
     refine go ?_
     have D302 := (A295.keep u299 (fun hb => show ¬ (gb292 = bk270) by first | omega | assumption))
     exact hK105 bk270 ao291 gb292 cp293 ⟨B300, (D302.sl (fun _ => rfl)), (fun h9 => by have := D302.ge h9; omega), (by omega)⟩ (hu := ((((((((Upd.refl _ _).nx u109).nx u116).nx u273).next u282 (fun i hi (h : (i = bk113 ∧ bk113 ≤ i)) => show w94.heap.size ≤ i by first | omega | assumption)).nx u288).next u296 (fun i hi (h : (i = gb278 ∧ bk113 ≤ i)) => show w94.heap.size ≤ i by first | omega | assumption)).next u299 (fun i hi (h : i = bk270) => show w94.heap.size ≤ i by first | omega | assumption)))
    refine go ?_
    refine x_l fun bk303 w304 ebk303 sbk303 B305 u306 => ?_
    refine go ?_
    have B308 := ((B115.kx u273).kx u306)
    have D309 := ((((((((((((hshn.keep u5 (fun _ h => h)).keep u10 (fun _ h => h)).keep u18 (fun h9 => show ¬ (hn.g = bp) by have := hnehn h9; have := hshn.lt h9; omega)).keep u49 (fun h9 => show ¬ (hn.g = bp) by have := hnehn h9; have := hshn.lt h9; omega)).keep u61 (fun _ h => h)).keep u83 (fun _ h => h)).keep u89 (fun _ h => h)).keep u95 (fun _ h => h)).keep u109 (fun _ h => h)).keep u116 (fun _ h => h)).keep u273 (fun _ h => h)).keep u306 (fun _ h => h))
    refine t_copy (enc := encI) (z := .int .i64 0) (bytes := 8) (k := 1) (ys := hn.r.s) underlying37 (by kernel_rfl) rfl (by decide) (fun _ => rfl) (by intro x; simp [encI, Value.oneCell']) rfl rfl rfl rfl B308 D309 (by omega) (by decide) (fun ao310 gb311 cp312 w313 A314 u315 gegb311 => ?_)
    have zu315 := u315.size
    have lt_gb311 := A314.lt
    have B317 := ((B272.kx u306).keep u315 (by omega))
    have hne12 := Acc.neBlk A314 B317 (by decide) (by omega)
    refine go ?_
    have B318 := (B305.keep u315 (by omega))
    refine t_append (z := .int .i64 0) (bytes := 8) (k := 1) (base := bk113) (k : Int) underlying37 (by kernel_rfl) rfl (by decide) (fun _ => rfl) (by intro x; simp [encI, Value.oneCell']) rfl rfl rfl rfl A314 B318 (by omega) (by omega) (by decide) (fun ao319 gb320 cp321 w322 A323 u324 gegb320 lngb320 => ?_)
    have zu324 := u324.size
    have lt_gb320 := A323.lt
    refine go ?_
    refine x_s fun w326 sw326 B328 u327 => ?_
    refine go ?_
    have D330 := (A323.keep u327 (fun hb => show ¬ (gb320 = bk270) by first | omega | assumption))
    exact hK105 bk270 ao319 gb320 cp321 ⟨B328, (D330.sl (fun _ => rfl)), (fun h9 => by have := D330.ge h9; omega), (by omega)⟩ (hu := ((((((((Upd.refl _ _).nx u109).nx u116).nx u273).nx u306).next u315 (fun i hi (h : (i = bk113 ∧ bk113 ≤ i)) => show w94.heap.size ≤ i by first | omega | assumption)).next u324 (fun i hi (h : (i = gb311 ∧ bk113 ≤ i)) => show w94.heap.size ≤ i by first | omega | assumption)).next u327 (fun i hi (h : i = bk270) => show w94.heap.size ≤ i by first | omega | assumption)))
   refine s_or ?_ ?_
   ·
    refine go ?_
    refine x_l fun bk331 w332 ebk331 sbk331 B333 u334 => ?_
    refine go ?_
    refine s_or ?_ ?_
    ·
     refine go ?_
     refine x_l fun bk336 w337 ebk336 sbk336 B338 u339 => ?_
     refine go ?_
     refine s_or ?_ ?_
     ·
      refine go ?_
      have D341 := (((((((((((hshn.keep u5 (fun _ h => h)).keep u10 (fun _ h => h)).keep u18 (fun h9 => show ¬ (hn.g = bp) by have := hnehn h9; have := hshn.lt h9; omega)).keep u49 (fun h9 => show ¬ (hn.g = bp) by have := hnehn h9; have := hshn.lt h9; omega)).keep u61 (fun _ h => h)).keep u83 (fun _ h => h)).keep u89 (fun _ h => h)).keep u95 (fun _ h => h)).keep u109 (fun _ h => h)).keep u334 (fun _ h => h)).keep u339 (fun _ h => h))
      refine t_copy (enc := encI) (z := .int .i64 0) (bytes := 8) (k := 1) (ys := hn.r.s) underlying37 (by kernel_rfl) rfl (by decide) (fun _ => rfl) (by intro x; simp [encI, Value.oneCell']) rfl rfl rfl rfl B338 D341 (by omega) (by decide) (fun ao342 gb343 cp344 w345 A346 u347 gegb343 => ?_)
      have zu347 := u347.size
      have lt_gb343 := A346.lt
      refine go ?_
      refine s_or ?_ ?_
      ·
       refine go ?_
       have B349 := ((B333.kx u339).keep u347 (by omega))
       refine t_append (z := .int .i64 0) (bytes := 8) (k := 1) (base := bk336) (k : Int) underlying37 (by kernel_rfl) rfl (by decide) (fun _ => rfl) (by intro x; simp [encI, Value.oneCell']) rfl rfl rfl rfl A346 B349 (by omega) (by omega) (by decide) (fun ao350 gb351 cp352 w353 A354 u355 gegb351 lngb351 => ?_)
       have zu355 := u355.size
       have lt_gb351 := A354.lt
       refine go ?_
       refine x_n fun bk357 w358 ebk357 sbk357 B359 u360 => ?_
       refine go ?_
       refine x_s fun w362 sw362 B364 u363 => ?_
       refine go ?_
       have D366 := ((A354.keep u360 (fun _ h => h)).keep u363 (fun hb => show ¬ (gb351 = bk357) by first | omega | assumption))
       exact hK105 bk357 ao350 gb351 cp352 ⟨B364, (D366.sl (fun _ => rfl)), (fun h9 => by have := D366.ge h9; omega), (by omega)⟩ (hu := ((((((((Upd.refl _ _).nx u109).nx u334).nx u339).next u347 (fun i hi (h : (i = bk336 ∧ bk336 ≤ i)) => show w94.heap.size ≤ i by first | omega | assumption)).next u355 (fun i hi (h : (i = gb343 ∧ bk336 ≤ i)) => show w94.heap.size ≤ i by first | omega | assumption)).nx u360).next u363 (fun i hi (h : i = bk357) => show w94.heap.size ≤ i by first | omega | assumption)))
      refine go ?_
      refine x_n fun bk367 w368 ebk367 sbk367 B369 u370 => ?_
      refine go ?_
      have D372 := (A346.keep u370 (fun _ h => h))
      have B373 := (((B333.kx u339).keep u347 (by omega)).kx u370)
      refine t_append (z := .int .i64 0) (bytes := 8) (k := 1) (base := bk336) (k : Int) underlying37 (by kernel_rfl) rfl (by decide) (fun _ => rfl) (by intro x; simp [encI, Value.oneCell']) rfl rfl rfl rfl D372 B373 (by omega) (by omega) (by decide) (fun ao374 gb375 cp376 w377 A378 u379 gegb375 lngb375 => ?_)
      have zu379 := u379.size
      have lt_gb375 := A378.lt
      refine go ?_
      refine x_s fun w381 sw381 B383 u382 => ?_
      refine go ?_
      have D385 := (A378.keep u382 (fun hb => show ¬ (gb375 = bk367) by first | omega | assumption))
      exact hK105 bk367 ao374 gb375 cp376 ⟨B383, (D385.sl (fun _ => rfl)), (fun h9 => by have := D385.ge h9; omega), (by omega)⟩ (hu := ((((((((Upd.refl _ _).nx u109).nx u334).nx u339).next u347 (fun i hi (h : (i = bk336 ∧ bk336 ≤ i)) => show w94.heap.size ≤ i by first | omega | assumption)).nx u370).next u379 (fun i hi (h : (i = gb343 ∧ bk336 ≤ i)) => show w94.heap.size ≤ i by first | omega | assumption)).next u382 (fun i hi (h : i = bk367) => show w94.heap.size ≤ i by first | omega | assumption)))
     refine go ?_
     refine x_n fun bk386 w387 ebk386 sbk386 B388 u389 => ?_
     refine go ?_
     have B391 := (B338.kx u389)
     have D392 := ((((((((((((hshn.keep u5 (fun _ h => h)).keep u10 (fun _ h => h)).keep u18 (fun h9 => show ¬ (hn.g = bp) by have := hnehn h9; have := hshn.lt h9; omega)).keep u49 (fun h9 => show ¬ (hn.g = bp) by have := hnehn h9; have := hshn.lt h9; omega)).keep u61 (fun _ h => h)).keep u83 (fun _ h => h)).keep u89 (fun _ h => h)).keep u95 (fun _ h => h)).keep u109 (fun _ h => h)).keep u334 (fun _ h => h)).keep u339 (fun _ h => h)).keep u389 (fun _ h => h))
     refine t_copy (enc := encI) (z := .int .i64 0) (bytes := 8) (k := 1) (ys := hn.r.s) underlying37 (by kernel_rfl) rfl (by decide) (fun _ => rfl) (by intro x; simp [encI, Value.oneCell']) rfl rfl rfl rfl B391 D392 (by omega) (by decide) (fun ao393 gb394 cp395 w396 A397 u398 gegb394 => ?_)
     have zu398 := u398.size
     have lt_gb394 := A397.lt
     have B400 := (B388.keep u398 (by omega))
     have hne12 := Acc.neBlk A397 B400 (by decide) (by omega)
     refine go ?_
     have B401 := (((B333.kx u339).kx u389).keep u398 (by omega))
     refine t_append (z := .int .i64 0) (bytes := 8) (k := 1) (base := bk336) (k : Int) underlying37 (by kernel_rfl) rfl (by decide) (fun _ => rfl) (by intro x; simp [encI, Value.oneCell']) rfl rfl rfl rfl A397 B401 (by omega) (by omega) (by decide) (fun ao402 gb403 cp404 w405 A406 u407 gegb403 lngb403 => ?_)
     have zu407 := u407.size
     have lt_gb403 := A406.lt
     refine go ?_
     refine x_s fun w409 sw409 B411 u410 => ?_
     refine go ?_
     have D413 := (A406.keep u410 (fun hb => show ¬ (gb403 = bk386) by first | omega | assumption))
     exact hK105 bk386 ao402 gb403 cp404 ⟨B411, (D413.sl (fun _ => rfl)), (fun h9 => by have := D413.ge h9; omega), (by omega)⟩ (hu := ((((((((Upd.refl _ _).nx u109).nx u334).nx u339).nx u389).next u398 (fun i hi (h : (i = bk336 ∧ bk336 ≤ i)) => show w94.heap.size ≤ i by first | omega | assumption)).next u407 (fun i hi (h : (i = gb394 ∧ bk336 ≤ i)) => show w94.heap.size ≤ i by first | omega | assumption)).next u410 (fun i hi (h : i = bk386) => show w94.heap.size ≤ i by first | omega | assumption)))
    refine go ?_
    refine x_n fun bk414 w415 ebk414 sbk414 B416 u417 => ?_
    refine go ?_
    refine x_l fun bk419 w420 ebk419 sbk419 B421 u422 => ?_
    refine go ?_
    have D424 := ((((((((((((hshn.keep u5 (fun _ h => h)).keep u10 (fun _ h => h)).keep u18 (fun h9 => show ¬ (hn.g = bp) by have := hnehn h9; have := hshn.lt h9; omega)).keep u49 (fun h9 => show ¬ (hn.g = bp) by have := hnehn h9; have := hshn.lt h9; omega)).keep u61 (fun _ h => h)).keep u83 (fun _ h => h)).keep u89 (fun _ h => h)).keep u95 (fun _ h => h)).keep u109 (fun _ h => h)).keep u334 (fun _ h => h)).keep u417 (fun _ h => h)).keep u422 (fun _ h => h))
    refine t_copy (enc := encI) (z := .int .i64 0) (bytes := 8) (k := 1) (ys := hn.r.s) underlying37 (by kernel_rfl) rfl (by decide) (fun _ => rfl) (by intro x; simp [encI, Value.oneCell']) rfl rfl rfl rfl B421 D424 (by omega) (by decide) (fun ao425 gb426 cp427 w428 A429 u430 gegb426 => ?_)
    have zu430 := u430.size
    have lt_gb426 := A429.lt
    have B432 := ((B416.kx u422).keep u430 (by omega))
    have hne12 := Acc.neBlk A429 B432 (by decide) (by omega)
    refine go ?_
    have B433 := (((B333.kx u417).kx u422).keep u430 (by omega))
    refine t_append (z := .int .i64 0) (bytes := 8) (k := 1) (base := bk419) (k : Int) underlying37 (by kernel_rfl) rfl (by decide) (fun _ => rfl) (by intro x; simp [encI, Value.oneCell']) rfl rfl rfl rfl A429 B433 (by omega) (by omega) (by decide) (fun ao434 gb435 cp436 w437 A438 u439 gegb435 lngb435 => ?_)
    have zu439 := u439.size
    have lt_gb435 := A438.lt
    refine go ?_
    refine x_s fun w441 sw441 B443 u442 => ?_
    refine go ?_
    have D445 := (A438.keep u442 (fun hb => show ¬ (gb435 = bk414) by first | omega | assumption))
    exact hK105 bk414 ao434 gb435 cp436 ⟨B443, (D445.sl (fun _ => rfl)), (fun h9 => by have := D445.ge h9; omega), (by omega)⟩ (hu := ((((((((Upd.refl _ _).nx u109).nx u334).nx u417).nx u422).next u430 (fun i hi (h : (i = bk419 ∧ bk419 ≤ i)) => show w94.heap.size ≤ i by first | omega | assumption)).next u439 (fun i hi (h : (i = gb426 ∧ bk419 ≤ i)) => show w94.heap.size ≤ i by first | omega | assumption)).next u442 (fun i hi (h : i = bk414) => show w94.heap.size ≤ i by first | omega | assumption)))
   refine go ?_
   refine x_n fun bk446 w447 ebk446 sbk446 B448 u449 => ?_
   refine go ?_
   refine s_or ?_ ?_
   ·
    refine go ?_
    refine x_l fun bk451 w452 ebk451 sbk451 B453 u454 => ?_
    refine go ?_
    refine s_or ?_ ?_
    ·
     refine go ?_
     have D456 := (((((((((((hshn.keep u5 (fun _ h => h)).keep u10 (fun _ h => h)).keep u18 (fun h9 => show ¬ (hn.g = bp) by have := hnehn h9; have := hshn.lt h9; omega)).keep u49 (fun h9 => show ¬ (hn.g = bp) by have := hnehn h9; have := hshn.lt h9; omega)).keep u61 (fun _ h => h)).keep u83 (fun _ h => h)).keep u89 (fun _ h => h)).keep u95 (fun _ h => h)).keep u109 (fun _ h => h)).keep u449 (fun _ h => h)).keep u454 (fun _ h => h))
     refine t_copy (enc := encI) (z := .int .i64 0) (bytes := 8) (k := 1) (ys := hn.r.s) underlying37 (by kernel_rfl) rfl (by decide) (fun _ => rfl) (by intro x; simp [encI, Value.oneCell']) rfl rfl rfl rfl B453 D456 (by omega) (by decide) (fun ao457 gb458 cp459 w460 A461 u462 gegb458 => ?_)
     have zu462 := u462.size
     have lt_gb458 := A461.lt
     have B464 := ((B448.kx u454).keep u462 (by omega))
     have hne12 := Acc.neBlk A461 B464 (by decide) (by omega)
     refine go ?_
     refine x_l fun bk465 w466 ebk465 sbk465 B467 u468 => ?_
     refine go ?_
     have D470 := (A461.keep u468 (fun _ h => h))
     refine t_append (z := .int .i64 0) (bytes := 8) (k := 1) (base := bk451) (k : Int) underlying37 (by kernel_rfl) rfl (by decide) (fun _ => rfl) (by intro x; simp [encI, Value.oneCell']) rfl rfl rfl rfl D470 B467 (by omega) (by omega) (by decide) (fun ao471 gb472 cp473 w474 A475 u476 gegb472 lngb472 => ?_)
     have zu476 := u476.size
     have lt_gb472 := A475.lt
     refine go ?_
     refine x_s fun w478 sw478 B480 u479 => ?_
     refine go ?_
     have D482 := (A475.keep u479 (fun hb => show ¬ (gb472 = bk446) by first | omega | assumption))
     exact hK105 bk446 ao471 gb472 cp473 ⟨B480, (D482.sl (fun _ => rfl)), (fun h9 => by have := D482.ge h9; omega), (by omega)⟩ (hu := ((((((((Upd.refl _ _).nx u109).nx u449).nx u454).next u462 (fun i hi (h : (i = bk451 ∧ bk451 ≤ i)) => show w94.heap.size ≤ i by first | omega | assumption)).nx u468).next u476 (fun i hi (h : (i = gb458 ∧ bk451 ≤ i)) => show w94.heap.size ≤ i by first | omega | assumption)).next u479 (fun i hi (h : i = bk446) => show w94.heap.size ≤ i by first | omega | assumption)))
    refine go ?_
    refine x_l fun bk483 w484 ebk483 sbk483 B485 u486 => ?_
    refine go ?_
    have B488 := (B453.kx u486)
    have D489 := ((((((((((((hshn.keep u5 (fun _ h => h)).keep u10 (fun _ h => h)).keep u18 (fun h9 => show ¬ (hn.g = bp) by have := hnehn h9; have := hshn.lt h9; omega)).keep u49 (fun h9 => show ¬ (hn.g = bp) by have := hnehn h9; have := hshn.lt h9; omega)).keep u61 (fun _ h => h)).keep u83 (fun _ h => h)).keep u89 (fun _ h => h)).keep u95 (fun _ h => h)).keep u109 (fun _ h => h)).keep u449 (fun _ h => h)).keep u454 (fun _ h => h)).keep u486 (fun _ h => h))
    refine t_copy (enc := encI) (z := .int .i64 0) (bytes := 8) (k := 1) (ys := hn.r.s) underlying37 (by kernel_rfl) rfl (by decide) (fun _ => rfl) (by intro x; simp [encI, Value.oneCell']) rfl rfl rfl rfl B488 D489 (by omega) (by decide) (fun ao490 gb491 cp492 w493 A494 u495 gegb491 => ?_)
    have zu495 := u495.size
    have lt_gb491 := A494.lt
    have B497 := (((B448.kx u454).kx u486).keep u495 (by omega))
    have hne12 := Acc.neBlk A494 B497 (by decide) (by omega)
    refine go ?_
    have B498 := (B485.keep u495 (by omega))
    refine t_append (z := .int .i64 0) (bytes := 8) (k := 1) (base := bk451) (k : Int) underlying37 (by kernel_rfl) rfl (by decide) (fun _ => rfl) (by intro x; simp [encI, Value.oneCell']) rfl rfl rfl rfl A494 B498 (by omega) (by omega) (by decide) (fun ao499 gb500 cp501 w502 A503 u504 gegb500 lngb500 => ?_)
    have zu504 := u504.size
    have lt_gb500 := A503.lt
    refine go ?_
    refine x_s fun w506 sw506 B508 u507 => ?_
    refine go ?_
    have D510 := (A503.keep u507 (fun hb => show ¬ (gb500 = bk446) by first | omega | assumption))
    exact hK105 bk446 ao499 gb500 cp501 ⟨B508, (D510.sl (fun _ => rfl)), (fun h9 => by have := D510.ge h9; omega), (by omega)⟩ (hu := ((((((((Upd.refl _ _).nx u109).nx u449).nx u454).nx u486).next u495 (fun i hi (h : (i = bk451 ∧ bk451 ≤ i)) => show w94.heap.size ≤ i by first | omega | assumption)).next u504 (fun i hi (h : (i = gb491 ∧ bk451 ≤ i)) => show w94.heap.size ≤ i by first | omega | assumption)).next u507 (fun i hi (h : i = bk446) => show w94.heap.size ≤ i by first | omega | assumption)))
   refine go ?_
   refine x_l fun bk511 w512 ebk511 sbk511 B513 u514 => ?_
   refine go ?_
   refine x_l fun bk516 w517 ebk516 sbk516 B518 u519 => ?_
   refine go ?_
   have D521 := ((((((((((((hshn.keep u5 (fun _ h => h)).keep u10 (fun _ h => h)).keep u18 (fun h9 => show ¬ (hn.g = bp) by have := hnehn h9; have := hshn.lt h9; omega)).keep u49 (fun h9 => show ¬ (hn.g = bp) by have := hnehn h9; have := hshn.lt h9; omega)).keep u61 (fun _ h => h)).keep u83 (fun _ h => h)).keep u89 (fun _ h => h)).keep u95 (fun _ h => h)).keep u109 (fun _ h => h)).keep u449 (fun _ h => h)).keep u514 (fun _ h => h)).keep u519 (fun _ h => h))
   refine t_copy (enc := encI) (z := .int .i64 0) (bytes := 8) (k := 1) (ys := hn.r.s) underlying37 (by kernel_rfl) rfl (by decide) (fun _ => rfl) (by intro x; simp [encI, Value.oneCell']) rfl rfl rfl rfl B518 D521 (by omega) (by decide) (fun ao522 gb523 cp524 w525 A526 u527 gegb523 => ?_)
   have zu527 := u527.size
   have lt_gb523 := A526.lt
   have B529 := (((B448.kx u514).kx u519).keep u527 (by omega))
   have hne12 := Acc.neBlk A526 B529 (by decide) (by omega)
   refine go ?_
   have B530 := ((B513.kx u519).keep u527 (by omega))
   refine t_append (z := .int .i64 0) (bytes := 8) (k := 1) (base := bk516) (k : Int) underlying37 (by kernel_rfl) rfl (by decide) (fun _ => rfl) (by intro x; simp [encI, Value.oneCell']) rfl rfl rfl rfl A526 B530 (by omega) (by omega) (by decide) (fun ao531 gb532 cp533 w534 A535 u536 gegb532 lngb532 => ?_)
   have zu536 := u536.size
   have lt_gb532 := A535.lt
   refine go ?_
   refine x_s fun w538 sw538 B540 u539 => ?_
   refine go ?_
   have D542 := (A535.keep u539 (fun hb => show ¬ (gb532 = bk446) by first | omega | assumption))
   exact hK105 bk446 ao531 gb532 cp533 ⟨B540, (D542.sl (fun _ => rfl)), (fun h9 => by have := D542.ge h9; omega), (by omega)⟩ (hu := ((((((((Upd.refl _ _).nx u109).nx u449).nx u514).nx u519).next u527 (fun i hi (h : (i = bk516 ∧ bk516 ≤ i)) => show w94.heap.size ≤ i by first | omega | assumption)).next u536 (fun i hi (h : (i = gb523 ∧ bk516 ≤ i)) => show w94.heap.size ≤ i by first | omega | assumption)).next u539 (fun i hi (h : i = bk446) => show w94.heap.size ≤ i by first | omega | assumption)))
  rintro b12 a3 g3 c3 w106 ⟨hB12, hnx, hgx, hb12n⟩ u107 zu107
  have hB12l := hB12.lt
  refine c_drawnM follows (fun i => i = bp) (OTl [0, 2, 4, 6, 8, 10, 12, 14, 16, 18, 20, 22, 24, 26, 28, 30, 32, 34, 37]) (by kernel_rfl) fun w544 u545 => ?_
  have zu545 := u545.size
  refine go ?_
  have D547 := ((D97.keep u107 (fun h9 => show ¬ (w94.heap.size ≤ bl) by have := hblb h9; omega)).keep u545 (fun _ h => h))
  refine y_i k D547 (fun _ => ?_)
  refine go ?_
  refine y_i k D547 (fun _ => ?_)
  refine go ?_
  have B550 := ((((((I50.kx u61).kx u83).kx u89).kx u95).keep u107 (show ¬ (w94.heap.size ≤ bp) by first | omega | assumption)).kx u545)
  have D551 := ((((((hsx2.keep u61 (fun _ h => h)).keep u83 (fun _ h => h)).keep u89 (fun _ h => h)).keep u95 (fun _ h => h)).keep u107 (fun h9 => show ¬ (w94.heap.size ≤ x2.g) by have := hnex2 h9; have := hsx2.lt h9; omega)).keep u545 (fun _ h => h))
  have D552 := (hnx.keep u545 (fun _ h => h))
  refine x_c func69 rfl rfl (ih (⟨⟨(hn.r.s ++ [(k : Int)]), (hn.r.g + (nth l k).p - farH h (nth l k) * h.c)⟩, a3, g3, 0, c3⟩ : HR) (by rw [show ((hn.r.s ++ [(k : Int)])).getLast? = some (k : Int) from by simp]; exact muF_lt (by omega) hokA) (aftH h (nth l k)) x2 _ D547 hblb B550 D551 hnex2 D552 hgx (aftH_ok hh (hok _ (nth_mem (by omega)))) (hnw.next (by omega) hokA hok hh) hlenx2 hz9) ?_
  rintro _ w554 ⟨⟨rfl, x3, hBx3, hsx3, hnex3, hlenx3, hIx3⟩, u555⟩ zu555
  refine go ?_
  exact hK47 (k + 1) x3 ⟨hBx3, (by omega), hsx3, hnex3, hlenx3, (ch_step hokA (by unfold inT; rw [Int.toNat_natCast]; omega) hIx2 hIx3)⟩
 refine go ?_
 refine f_ret0 results69 ?_
 obtain rfl : k = l.length := by omega
 exact ⟨⟨rfl, x2, I50, hsx2, hnex2, hlenx2, ch_fin hIx2⟩, u_d⟩

theorem choose_c (l : List Off) (al : Option Addr) (bl ol cl z bp : Nat) (hok : ∀ x ∈ l, okOff x = true) (hll : l.length ≤ 12) : ∀ (f : Nat) (hn : HR), muF l hn.r.s.getLast? < f → ChooseS l al bl ol cl z bp hn
  | 0, _, h => absurd h (Nat.not_lt_zero _)
  | f + 1, hn, hf => fun h hb w0 h1 h2 h3 h4 h5 h6 h7 h8 h9 h10 h11 => choose_s l al bl ol cl z bp hn h hb w0 h1 hok hll h2 h3 h4 h5 h6 h7 h8 h9 h10 h11 (fun hm q => choose_c l al bl ol cl z bp hok hll f hm (by omega))

theorem rBest_c (l : List Off) (al : Option Addr) (bl ol cl : Nat) (h : Hul) (w0 : World) (hl : Sl encOff 5 w0 al bl ol l) (hok : ∀ x ∈ l, okOff x = true) (hll : l.length ≤ 12) (hh : okHul h) :
    CallsV Tryz.prog 18 [.slice al l.length cl, .agg #[.int .i64 h.p, .int .i64 h.m, .int .i64 h.s, .int .i64 h.c]] w0 (fun v w' => (∃ x : HR, v = .agg #[.slice x.ao x.r.s.length x.cp, .int .i64 x.r.g] ∧ Sl encI 1 w' x.ao x.g x.o x.r.s ∧ x.r = bestP l h) ∧ Ext w0 w') := by
 refine f_n func18 ?_
 refine go ?_
 refine x_b fun bk2 w3 ebk2 sbk2 B4 u5 => ?_
 refine x_n fun bk7 w8 ebk7 sbk7 B9 u10 => ?_
 refine go ?_
 refine x_n fun bk13 w14 ebk13 sbk13 B15 u16 => ?_
 refine x_s fun w18 sw18 B20 u19 => ?_
 refine go ?_
 refine x_c func69 rfl rfl (choose_c l al bl ol cl bk7 bk13 hok hll (muF l none + 1) (⟨⟨[], 0⟩, none, 0, 0, 0⟩ : HR) (Nat.lt_succ_self _) h (⟨⟨[], 0⟩, none, 0, 0, 0⟩ : HR) _ (hl.keep (((((Upd.refl (fun _ => False) w0).nx u5).nx u10).nx u16).next u19 (fun i hi h => by omega)) (fun _ h => h)) (fun h9 => by have := hl.lt h9; omega) B20 (Sl.nil _ _ _ _ _ _) (fun h9 => absurd h9 (by decide)) (Sl.nil _ _ _ _ _ _) (fun h9 => absurd h9 (by decide)) hh ⟨fun i hi => (by cases hi), by have := muF_le l none; show 0 + muF l none ≤ 20; omega, by decide⟩ (by decide) (by omega)) ?_
 rintro _ w24 ⟨⟨rfl, x, hBx, hsx, hnex, hlenx, hIx⟩, u25⟩ zu25
 have hx9 : x.r = bestP l h := ch_all hIx
 refine go ?_
 refine x_s fun w29 sw29 B31 u30 => ?_
 refine go ?_
 refine f_ret1 (v := .agg #[.slice x.ao x.r.s.length x.cp, .int .i64 x.r.g]) results18 ⟨_, _, rfl, run_loadVarN (vs := [.slice x.ao x.r.s.length x.cp, .int .i64 x.r.g]) isAgg44 sizeOf44 rfl (B31.at.sub 0 2)⟩ ?_
 have D33 := (hsx.keep u30 (fun h9 => show ¬ (x.g = bk7) by have := hnex h9; have := hsx.lt h9; omega))
 exact ⟨⟨x, rfl, D33, hx9⟩, u_d⟩

end Go.Proofs.YtgoajalaomakpaaGreat
