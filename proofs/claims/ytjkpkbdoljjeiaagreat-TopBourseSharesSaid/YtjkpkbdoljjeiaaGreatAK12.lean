/-
  Part 12 of the proof: contracts and plain laws. Conditions: none.
-/
import Derived.Test.YtjkpkbdoljjeiaaGreatAK11
namespace Go.Proofs.YtjkpkbdoljjeiaaGreat
open Go Go.RowKit

/-- Laytime minute by minute: what is used, and over, of the minutes behind the begin. -/
structure MnS where
  u : Int
  o : Int
def mnK (L b : Int) (p : Int → Bool) : Nat → MnS
  | 0 => ⟨0, 0⟩
  | i + 1 => if (mnK L b p i).u = L then ⟨L, (mnK L b p i).o + 1⟩ else if p (b + (i : Int)) = true then mnK L b p i else ⟨(mnK L b p i).u + 1, (mnK L b p i).o⟩
theorem mnK_run {L b : Int} {p : Int → Bool} {i : Nat} {u : Int} (h : mnK L b p i = ⟨u, 0⟩) : ∀ (m : Nat), u + (m : Int) ≤ L → (∀ j : Nat, j < m → p (b + (i : Int) + (j : Int)) = false) → mnK L b p (i + m) = ⟨u + (m : Int), 0⟩
  | 0, _, _ => by simpa using h
  | m + 1, hu, hp => by
    have ih := mnK_run h m (by omega) (fun j hj => hp j (by omega))
    have h1 := hp m (by omega)
    rw [← Nat.add_assoc, mnK, ih]
    rw [if_neg (show ¬ u + (m : Int) = L by omega), show b + ((i + m : Nat) : Int) = b + (i : Int) + (m : Int) by omega, h1]
    simp only [Bool.false_eq_true, if_false, MnS.mk.injEq, and_true]
    omega
theorem mnK_idle {L b : Int} {p : Int → Bool} {i : Nat} {s : MnS} (h : mnK L b p i = s) (hu : s.u ≠ L) : ∀ (m : Nat), (∀ j : Nat, j < m → p (b + (i : Int) + (j : Int)) = true) → mnK L b p (i + m) = s
  | 0, _ => h
  | m + 1, hp => by
    have ih := mnK_idle h hu m (fun j hj => hp j (by omega))
    have h1 := hp m (by omega)
    rw [← Nat.add_assoc, mnK, ih, if_neg hu, show b + ((i + m : Nat) : Int) = b + (i : Int) + (m : Int) by omega, if_pos h1]
theorem mnK_over {L b : Int} {p : Int → Bool} {i : Nat} {o : Int} (h : mnK L b p i = ⟨L, o⟩) : ∀ (m : Nat), mnK L b p (i + m) = ⟨L, o + (m : Int)⟩
  | 0 => by simpa using h
  | m + 1 => by
    rw [← Nat.add_assoc, mnK, mnK_over h m, if_pos rfl]
    simp only [MnS.mk.injEq, true_and]
    omega
/-- A minute that is excepted. -/
def exc (fs : List Fre) (t : Int) : Bool := fs.any fun f => decide (f.f ≤ t ∧ t < f.t)
theorem exc_no {fs : List Fre} {t : Int} (h : ∀ f ∈ fs, ¬ (f.f ≤ t ∧ t < f.t)) : exc fs t = false := by
  unfold exc
  rw [List.any_eq_false]
  intro f hf
  simpa using h f hf
theorem exc_yes {fs : List Fre} {f : Fre} {t : Int} (hf : f ∈ fs) (h : f.f ≤ t ∧ t < f.t) : exc fs t = true := List.any_eq_true.2 ⟨f, hf, decide_eq_true h⟩
theorem exc_same {fs gs : List Fre} (h : ∀ f, f ∈ fs ↔ f ∈ gs) : exc fs = exc gs := by
  funext t
  rw [Bool.eq_iff_iff]
  unfold exc
  rw [List.any_eq_true, List.any_eq_true]
  exact ⟨fun ⟨f, h1, h2⟩ => ⟨f, (h f).1 h1, h2⟩, fun ⟨f, h1, h2⟩ => ⟨f, (h f).2 h1, h2⟩⟩
def lcM (L en b : Int) (p : Int → Bool) : Lc := ⟨b, (mnK L b p (en - b).toNat).u, (mnK L b p (en - b).toNat).o, if (mnK L b p (en - b).toNat).o = 0 then L - (mnK L b p (en - b).toNat).u else 0⟩
structure CtI (L en b : Int) (ys : List Fre) (k : Nat) (s : CtS) : Prop where
  a1 : b ≤ s.a
  a2 : s.a ≤ max b en
  u0 : 0 ≤ s.u ∧ s.u ≤ L
  mn : mnK L b (exc ys) (s.a - b).toNat = ⟨s.u, 0⟩
  ex : s.u < L → ∀ j, j < k → j < ys.length → ∀ t, s.a ≤ t → t < en → ¬ ((nth ys j).f ≤ t ∧ t < (nth ys j).t)
  fin : s.u < L → k = ys.length + 1 → en ≤ s.a
theorem nth_app1 {α : Type} [Inhabited α] {xs ys : List α} {i : Nat} (h : i < xs.length) : nth (xs ++ ys) i = nth xs i := by
  rw [nth_eq (by rw [List.length_append]; omega), nth_eq h, List.getElem_append_left h]
theorem nth_app2 {α : Type} [Inhabited α] {xs : List α} {y : α} : nth (xs ++ [y]) xs.length = y := by
  rw [nth_eq (by simp)]; simp
theorem ctI_step {L en b : Int} {ys : List Fre} (hs : Asc cmpFr ys) {k : Nat} (hk : k < ys.length + 1) {s : CtS} (h : CtI L en b ys k s) : CtI L en b ys (k + 1) (ctStep L en s (nth (ys ++ [⟨en, en⟩]) k)) := by
  by_cases hu : s.u = L
  · rw [ctStep, if_pos hu]
    exact ⟨h.a1, h.a2, h.u0, h.mn, fun q => by omega, fun q => by omega⟩
  · rw [ctStep, if_neg hu]
    have hx : (k < ys.length ∧ nth (ys ++ [(⟨en, en⟩ : Fre)]) k = nth ys k) ∨ (k = ys.length ∧ nth (ys ++ [(⟨en, en⟩ : Fre)]) k = ⟨en, en⟩) := by
      rcases Nat.lt_or_ge k ys.length with q | q
      · exact .inl ⟨q, nth_app1 q⟩
      · obtain rfl : k = ys.length := by omega
        exact .inr ⟨rfl, nth_app2⟩
    generalize nth (ys ++ [(⟨en, en⟩ : Fre)]) k = f at hx
    obtain ⟨h1, h2, h3, h4, h5, h6⟩ := h
    have hlt : s.u < L := by omega
    have hm0 : 0 ≤ ctUse L en s f ∧ ctUse L en s f ≤ L - s.u ∧ ctUse L en s f ≤ max 0 (min f.f en - s.a) ∧ (ctUse L en s f < L - s.u → ctUse L en s f = max 0 (min f.f en - s.a)) := by
      unfold ctUse; omega
    generalize ctUse L en s f = m at hm0
    obtain ⟨m1, m2, m3, m4⟩ := hm0
    -- minutes that count
    have hfree : ∀ j : Nat, j < m.toNat → exc ys (b + ((s.a - b).toNat : Int) + (j : Int)) = false := fun j hj => exc_no fun y hy q => by
      obtain ⟨i, hi, rfl⟩ := List.mem_iff_getElem.1 hy
      rw [← nth_eq hi] at q
      rcases Nat.lt_or_ge i k with hik | hik
      · exact h5 hlt i hik hi (b + ((s.a - b).toNat : Int) + (j : Int)) (by omega) (by omega) q
      · rcases hx with ⟨hk9, rfl⟩ | ⟨hk9, _⟩
        · rcases Nat.lt_or_eq_of_le hik with q9 | q9
          · have := hs k i q9 hi
            unfold cmpFr at this
            omega
          · subst q9; omega
        · omega
    have hrun := mnK_run (p := exc ys) h4 m.toNat (by omega) hfree
    have e1 : (s.a + m - b).toNat = (s.a - b).toNat + m.toNat := by omega
    have e2 : s.u + (m.toNat : Int) = s.u + m := by omega
    rw [← e1, e2] at hrun
    by_cases hq : s.u + m < L
    · have hm9 := m4 (by omega)
      simp only [if_pos hq]
      have hidle := mnK_idle hrun (show s.u + m ≠ L by omega) (max (s.a + m) (min f.t en) - (s.a + m)).toNat (fun j hj => by
        rcases hx with ⟨hk9, rfl⟩ | ⟨hk9, rfl⟩
        · exact exc_yes (nth_mem hk9) (by omega)
        · simp only at hj hm9; omega)
      have e3 : (s.a + m - b).toNat + (max (s.a + m) (min f.t en) - (s.a + m)).toNat = (max (s.a + m) (min f.t en) - b).toNat := by omega
      rw [e3] at hidle
      refine ⟨by show b ≤ max _ _; omega, by show max _ _ ≤ _; omega, by show 0 ≤ s.u + m ∧ s.u + m ≤ L; omega, hidle, fun _ j hj hjl t ht1 ht2 q => ?_, fun _ hk9 => ?_⟩
      · simp only at ht1
        rcases Nat.lt_succ_iff_lt_or_eq.1 hj with q9 | q9
        · exact h5 hlt j q9 hjl t (by omega) ht2 q
        · subst q9
          rcases hx with ⟨_, rfl⟩ | ⟨hk9, _⟩
          · omega
          · omega
      · rcases hx with ⟨_, _⟩ | ⟨_, rfl⟩
        · omega
        · show en ≤ max (s.a + m) (min en en); omega
    · simp only [if_neg hq]
      exact ⟨by show b ≤ s.a + m; omega, by show s.a + m ≤ _; omega, by show 0 ≤ s.u + m ∧ s.u + m ≤ L; omega, hrun, fun q => absurd q (by show ¬ s.u + m < L; omega), fun q => absurd q (by show ¬ s.u + m < L; omega)⟩
theorem ctI_all {L en b : Int} {ys : List Fre} (hL : 0 ≤ L) (hs : Asc cmpFr ys) : ∀ k, k ≤ ys.length + 1 → CtI L en b ys k (ctS L en b (ys ++ [⟨en, en⟩]) k)
  | 0, _ => ⟨Int.le_refl _, by show b ≤ max b en; omega, ⟨Int.le_refl _, hL⟩, by show mnK L b _ (b - b).toNat = _; rw [Int.sub_self]; rfl, fun _ j hj => absurd hj (Nat.not_lt_zero _), fun _ h => by omega⟩
  | k + 1, hk => ctI_step hs (by omega) (ctI_all hL hs k (by omega))
/-- Laytime counted from one excepted time to the next one is laytime counted minute by minute. -/
theorem cntP_mn {L en b : Int} {ys : List Fre} (hL : 0 ≤ L) (hs : Asc cmpFr ys) : cntP L en b ys = lcM L en b (exc ys) := by
  obtain ⟨h1, h2, h3, h4, h5, h6⟩ := ctI_all (en := en) (b := b) hL hs (ys.length + 1) (Nat.le_refl _)
  unfold cntP lcM
  generalize ctS L en b (ys ++ [⟨en, en⟩]) (ys.length + 1) = s at *
  by_cases hu : s.u = L
  · have hN : mnK L b (exc ys) (en - b).toNat = ⟨L, max 0 (en - s.a)⟩ := by
      rw [hu] at h4
      by_cases q : s.a ≤ en
      · have := mnK_over h4 (en - s.a).toNat
        rw [show (s.a - b).toNat + (en - s.a).toNat = (en - b).toNat by omega] at this
        rw [this]
        simp only [MnS.mk.injEq, true_and]; omega
      · rw [show (en - b).toNat = (s.a - b).toNat by omega, h4]
        simp only [MnS.mk.injEq, true_and]; omega
    simp only [hN, hu, if_true]
  · have ha := h6 (by omega) rfl
    have hN : mnK L b (exc ys) (en - b).toNat = ⟨s.u, 0⟩ := by rw [show (en - b).toNat = (s.a - b).toNat by omega, h4]
    simp only [hN, if_neg hu]

end Go.Proofs.YtjkpkbdoljjeiaaGreat
namespace Go.Proofs.YtjkpkbdoljjeiaaGreat
open Go Go.RowKit

def onErrB (l : List Msg) (k : Nat) : Bool := !(decide ((nth l k).k = 2 ∨ (nth l k).k = 3)) && (gtG (onS l k) (nth l k).k).isSome
theorem onErr_iff {l : List Msg} {k : Nat} : onErr l k ↔ onErrB l k = true := by
  unfold onErr onErrB
  cases gtG (onS l k) (nth l k).k <;> simp
instance (la k : Int) : Decidable (opGo la k) := by unfold opGo; infer_instance
instance (en : Int) (fr : List Fre) (l : List Msg) (k : Nat) : Decidable (opBad en fr l k) := by unfold opBad; infer_instance
theorem any_range {n : Nat} {p : Nat → Bool} : (List.range n).any p = true ↔ ∃ k, k < n ∧ p k = true := by
  rw [List.any_eq_true]
  exact ⟨fun ⟨k, h1, h2⟩ => ⟨k, List.mem_range.1 h1, h2⟩, fun ⟨k, h1, h2⟩ => ⟨k, List.mem_range.2 h1, h2⟩⟩
/-- The error of the order of facts. -/
def opEB (fr : List Fre) (l : List Msg) : Int := if (List.range l.length).any (fun k => onErrB l k) = true then 6 else match gtG (onS l l.length) 1, gtG (onS l l.length) 4 with
  | some _, some en => if (List.range l.length).any (fun k => decide (opBad en.m fr l k)) = true then 9 else 0
  | _, _ => 7
theorem no_any {l : List Msg} (h : ∀ k, k < l.length → ¬ onErr l k) : ¬ (List.range l.length).any (fun k => onErrB l k) = true := fun q => by
  obtain ⟨k, h1, h2⟩ := any_range.1 q
  exact h k h1 (onErr_iff.2 h2)
theorem OpE.eq {fr : List Fre} {l : List Msg} {e : Int} (h : OpE fr l e) : e = opEB fr l ∧ e ≠ 0 := by
  unfold opEB
  rcases h with ⟨rfl, k, hk, hq⟩ | ⟨rfl, hn, hq⟩ | ⟨rfl, hn, n1, en, h1, h4, k, hk, hq⟩
  · rw [if_pos (any_range.2 ⟨k, hk, onErr_iff.1 hq⟩)]; exact ⟨rfl, by decide⟩
  · rw [if_neg (no_any hn)]
    rcases hq with hq | hq
    · rw [hq]; exact ⟨rfl, by decide⟩
    · rw [hq]
      refine ⟨?_, by decide⟩
      cases gtG (onS l l.length) 1 <;> rfl
  · rw [if_neg (no_any hn), h1, h4]
    simp only
    rw [if_pos (any_range.2 ⟨k, hk, decide_eq_true hq⟩)]; exact ⟨rfl, by decide⟩
theorem OpOk.eq {fr ex : List Fre} {l : List Msg} (h : OpOk fr l ex) : opEB fr l = 0 := by
  obtain ⟨hn, n1, en, h1, h4, hb, _⟩ := h
  unfold opEB
  rw [if_neg (no_any hn), h1, h4]
  simp only
  rw [if_neg (fun q => by obtain ⟨k, q1, q2⟩ := any_range.1 q; exact hb k q1 (of_decide_eq_true q2))]
/-- Laytime by facts. -/
def LtF (c : Chr) (fr : List Fre) (out : List Msg) (lc : Lc) : Prop := ∃ n1 en, gtG (onS out out.length) 1 = some n1 ∧ gtG (onS out out.length) 4 = some en ∧ lc = lcM c.l en.m (n1.m + c.o) (exc (opS en.m fr out out.length).ex)
theorem LtR.ok {c : Chr} {ws : List Low} {fr : List Fre} {l : List Msg} {lc : Lc} {e : Int} (h : LtR c ws fr l lc e) (h1 : chkCh c ws = 0) (h2 : chkFr fr = 0) (h3 : rdE l = 0) (h4 : NoEd l) (h5 : oneC l = true) :
    ∃ out, RdR l out 0 ∧ e = opEB fr out ∧ ((e ≠ 0 ∧ lc = ⟨0, 0, 0, 0⟩) ∨ (e = 0 ∧ LtF c fr out lc)) := by
  rcases h with ⟨he, hs, hl⟩ | ⟨rfl, _, _, _, out, ex, n1, en, ys, hR, hO, g1, g4, hp, ha, rfl⟩
  · rcases hs with ⟨q, _⟩ | ⟨_, q, _⟩ | ⟨_, _, _, o, hR⟩ | ⟨_, _, out, hR, ⟨q, _⟩ | ⟨_, hO⟩⟩
    · exact absurd h1 q
    · exact absurd h2 q
    · rcases hR.err with ⟨q, _⟩ | ⟨_, q, _⟩ | ⟨_, _, q⟩
      · exact absurd h3 q
      · exact absurd h4 q
      · exact absurd q he
    · rw [h5] at q; cases q
    · exact ⟨out, hR, hO.eq.1, .inl ⟨he, hl⟩⟩
  · refine ⟨out, hR, hO.eq.symm, .inr ⟨rfl, n1, en, g1, g4, ?_⟩⟩
    obtain ⟨_, n1', en', g1', g4', _, rfl⟩ := hO
    rw [g4] at g4'
    simp only [Option.some.injEq] at g4'
    subst g4'
    rw [cntP_mn (okCh_rng h1).2.2.2.2.1.1.1 ha, exc_same (fun f => hp.mem_iff)]
/-- A bill by facts. -/
def BlF (c : Chr) (ws : List Low) (fr : List Fre) (out : List Msg) (b : Bl) (e : Int) : Prop := ∃ n1 en, gtG (onS out out.length) 1 = some n1 ∧ gtG (onS out out.length) 4 = some en ∧
  ((e = 7 ∧ b = ⟨0, 0, 0, 0, 0, 0⟩ ∧ (gtG (onS out out.length) 5 = none ∨ (gtG (onS out out.length) 6 = none ∧ 0 < ws.length))) ∨
    (e = 0 ∧ ∃ t5, gtG (onS out out.length) 5 = some t5 ∧ (gtG (onS out out.length) 6 = none → ws.length = 0) ∧ b = blP c ws t5.v (lvP (onS out out.length)) (lcM c.l en.m (n1.m + c.o) (exc (opS en.m fr out out.length).ex))))
theorem BlR.toF {c : Chr} {ws : List Low} {fr ex : List Fre} {out : List Msg} {n1 en : Msg} {b : Bl} {e : Int} (h : BlR c ws ex (onS out out.length) n1 en b e) (hL : 0 ≤ c.l) (hO : OpOk fr out ex) (g1 : gtG (onS out out.length) 1 = some n1) (g4 : gtG (onS out out.length) 4 = some en) : BlF c ws fr out b e := by
  obtain ⟨_, n1', en', g1', g4', _, rfl⟩ := hO
  rw [g4] at g4'
  simp only [Option.some.injEq] at g4'
  subst g4'
  refine ⟨n1, en, g1, g4, ?_⟩
  rcases h with q | ⟨he, t5, ys, h5, h6, hp, ha, hb⟩
  · exact .inl q
  · refine .inr ⟨he, t5, h5, h6, ?_⟩
    rw [hb, cntP_mn hL ha, exc_same (fun f => hp.mem_iff)]
theorem BiR.ok {c : Chr} {ws : List Low} {fr : List Fre} {l : List Msg} {b : Bl} {e : Int} (h : BiR c ws fr l b e) (h1 : chkCh c ws = 0) (h2 : chkFr fr = 0) (h3 : rdE l = 0) (h4 : NoEd l) (h5 : oneC l = true) :
    ∃ out, RdR l out 0 ∧ ((e ≠ 0 ∧ e = opEB fr out ∧ b = ⟨0, 0, 0, 0, 0, 0⟩) ∨ (opEB fr out = 0 ∧ BlF c ws fr out b e)) := by
  rcases h with ⟨he, hs, hl⟩ | ⟨_, _, _, out, ex, n1, en, hR, hO, g1, g4, hb⟩
  · rcases hs with ⟨q, _⟩ | ⟨_, q, _⟩ | ⟨_, _, _, o, hR⟩ | ⟨_, _, out, hR, ⟨q, _⟩ | ⟨_, hO⟩⟩
    · exact absurd h1 q
    · exact absurd h2 q
    · rcases hR.err with ⟨q, _⟩ | ⟨_, q, _⟩ | ⟨_, _, q⟩
      · exact absurd h3 q
      · exact absurd h4 q
      · exact absurd q he
    · rw [h5] at q; cases q
    · exact ⟨out, hR, .inl ⟨he, hO.eq.1, hl⟩⟩
  · exact ⟨out, hR, .inr ⟨hO.eq, hb.toF (okCh_rng h1).2.2.2.2.1.1.1 hO g1 g4⟩⟩

end Go.Proofs.YtjkpkbdoljjeiaaGreat
namespace Go.Proofs.YtjkpkbdoljjeiaaGreat
open Go Go.RowKit

theorem cmpC_lt {c d : Clr} : cmpC c d < 0 ↔ d.t < c.t ∨ (d.t = c.t ∧ (c.g < d.g ∨ (c.g = d.g ∧ c.p < d.p))) := by
  unfold cmpC; rw [or3_lt, cmp_lt, cmp_eq, cmp_lt, cmp_eq, cmp_lt]
theorem minK_least {l : List Clr} : ∀ {k : Nat}, k < l.length → ∀ i, i ≤ k → ¬ cmpC (nth l i) (minK l k) < 0
  | 0, _, i, hi => by
    rw [show i = 0 by omega, minK, cmpC_lt]; omega
  | k + 1, hk, i, hi => by
    have ih := minK_least (l := l) (k := k) (by omega)
    unfold minK
    split
    · rename_i q
      rcases Nat.lt_or_eq_of_le hi with q2 | q2
      · have := ih i (by omega)
        rw [cmpC_lt] at *; omega
      · rw [q2, cmpC_lt]; omega
    · rename_i q
      rcases Nat.lt_or_eq_of_le hi with q2 | q2
      · exact ih i (by omega)
      · rw [q2]; exact q

theorem mtE0 {lb la : List Bid} (h : mtErr lb la = 0) : lb.length ≤ 30 ∧ la.length ≤ 30 ∧ (∀ x ∈ lb ++ la, okBid x = true) ∧ (lb.map Bid.p).Nodup ∧ (la.map Bid.p).Nodup ∧ (lb ++ la).length ≠ 0 ∧ (mtBest lb la).t ≠ 0 := by
  unfold mtErr at h
  split at h
  · omega
  · split at h
    · omega
    · split at h
      · omega
      · split at h
        · omega
        · rename_i h1 h2 h3 h4
          refine ⟨by omega, by omega, fun x hx => ?_, Classical.byContradiction fun q => h3 (.inl q), Classical.byContradiction fun q => h3 (.inr q), fun q => h4 (.inl q), fun q => h4 (.inr q)⟩
          cases q : okBid x
          · exact absurd (List.any_eq_true.2 ⟨x, hx, by simp [q]⟩) h2
          · rfl
theorem mtS_ok {M : Int} {yb ya : List Bid} {nb na : Nat} (h0 : MtOk nb na (mtS M yb ya 0)) : ∀ {k : Nat}, (∀ j, j < k → 0 < (mtS M yb ya j).l) → MtOk nb na (mtS M yb ya k)
  | 0, _ => h0
  | k + 1, h => (mtS_ok h0 fun j hj => h j (by omega)).step (h k (by omega))
theorem mtS_len {M : Int} {yb ya : List Bid} : ∀ k, (mtS M yb ya k).ts.length = k
  | 0 => rfl
  | k + 1 => by
    have := mtS_len (M := M) (yb := yb) (ya := ya) k
    show ((mtS M yb ya k).ts ++ [_]).length = k + 1
    rw [List.length_append, List.length_singleton]; omega
/-- There are few trades. -/
theorem MtR.len {lb la : List Bid} {p e : Int} {ts : List Trd} (h : MtR lb la p ts e) : ts.length ≤ 61 := by
  obtain ⟨he, h⟩ := h
  rcases h with ⟨_, _, rfl⟩ | ⟨a1, a2, yb, ya, a3, a4, a5, a6, k, a7, a8, a9⟩
  · exact Nat.zero_le _
  · obtain ⟨h1, h2, h3, _, _, h6, _⟩ := mtE0 (he.symm.trans a1)
    subst a2
    have hc := crs_len lb la
    have h0 := MtOk.init h3 (by omega) a3 a5
    have hl := mtS_len (M := (mtBest lb la).t) (yb := yb) (ya := ya) k
    rw [a9, hl]
    cases k with
    | zero => omega
    | succ k =>
      have hm := mtS_ok h0 (k := k) fun j hj => a8 j (by omega)
      have h4 := hm.tl (a8 k (by omega))
      rw [mtS_len] at h4
      have h5 := hm.ib
      have h6 := hm.ia
      have h7 : yb.length ≤ 30 := by rw [a3.length_eq]; exact Nat.le_trans (List.length_filter_le _ _) h1
      have h8 : ya.length ≤ 30 := by rw [a5.length_eq]; exact Nat.le_trans (List.length_filter_le _ _) h2
      omega

/-- What a party trades. -/
def byP (f : Trd → Int) : List Trd → Int → Int
  | [], _ => 0
  | t :: ts, q => (if f t = q then t.n else 0) + byP f ts q
def turn : List Trd → Int
  | [] => 0
  | t :: ts => t.n + turn ts
theorem byP_app (f : Trd → Int) (a b : List Trd) (q : Int) : byP f (a ++ b) q = byP f a q + byP f b q := by
  induction a with
  | nil => simp [byP]
  | cons t l ih => simp only [List.cons_append, byP, ih]; omega
theorem turn_app (a b : List Trd) : turn (a ++ b) = turn a + turn b := by
  induction a with
  | nil => simp [turn]
  | cons t l ih => simp only [List.cons_append, turn, ih]; omega
theorem byP_one (f : Trd → Int) (t : Trd) (q : Int) : byP f [t] q = if f t = q then t.n else 0 := by simp [byP]
theorem byP_nn {f : Trd → Int} {q : Int} : ∀ {ts : List Trd}, (∀ t ∈ ts, 0 ≤ t.n) → 0 ≤ byP f ts q ∧ byP f ts q ≤ turn ts
  | [], _ => ⟨Int.le_refl _, Int.le_refl _⟩
  | t :: ts, h => by
    have h1 := byP_nn (f := f) (q := q) (ts := ts) fun x hx => h x (List.mem_cons_of_mem _ hx)
    have h2 := h t List.mem_cons_self
    unfold byP turn
    split <;> omega
theorem nd_ne {ys : List Bid} (hd : (ys.map Bid.p).Nodup) {i j : Nat} (hi : i < ys.length) (hj : j < ys.length) (h : i ≠ j) : (nth ys i).p ≠ (nth ys j).p := by
  unfold List.Nodup at hd
  rw [List.pairwise_map, List.pairwise_iff_getElem] at hd
  rw [nth_eq hi, nth_eq hj]
  rcases Nat.lt_or_gt_of_ne h with q | q
  · exact hd i j hi hj q
  · exact (hd j i hj hi q).symm
theorem mem_nth {ys : List Bid} {x : Bid} (h : x ∈ ys) : ∃ j, j < ys.length ∧ nth ys j = x := by
  obtain ⟨i, hi, e⟩ := List.getElem_of_mem h
  exact ⟨i, hi, by rw [nth_eq hi, e]⟩
theorem nd_inj {l : List Bid} (hd : (l.map Bid.p).Nodup) {x y : Bid} (hx : x ∈ l) (hy : y ∈ l) (e : x.p = y.p) : x = y := by
  obtain ⟨i, hi, rfl⟩ := mem_nth hx
  obtain ⟨j, hj, rfl⟩ := mem_nth hy
  by_cases q : i = j
  · rw [q]
  · exact absurd e (nd_ne hd hi hj q)
/-- One side of the trading: who has traded what. -/
structure SideOk (ys zs : List Bid) (i : Nat) (B : Int → Int) : Prop where
  len : zs.length = ys.length
  p : ∀ j, j < ys.length → (nth zs j).p = (nth ys j).p
  b : ∀ j, j < ys.length → B (nth ys j).p = (nth ys j).n - (nth zs j).n
  lo : ∀ j, j < ys.length → j < i → (nth zs j).n = 0
  hi : ∀ j, j < ys.length → i < j → (nth zs j).n = (nth ys j).n
  nn : ∀ j, j < ys.length → 0 ≤ (nth zs j).n
  out : ∀ q, q ∉ ys.map Bid.p → B q = 0
theorem SideOk.step {ys zs : List Bid} {i : Nat} {B : Int → Int} (h : SideOk ys zs i B) (hd : (ys.map Bid.p).Nodup) (hi : i < zs.length) {t : Int} (ht : 1 ≤ t ∧ t ≤ (nth zs i).n) : SideOk ys (takeZ zs i t) (takeI zs i t) (fun q => B q + if (nth zs i).p = q then t else 0) := by
  have hl := h.len
  have hi2 : i < ys.length := by omega
  have z1 : nth (takeZ zs i t) i = takeB (nth zs i) t := takeZ_nth hi
  have z2 : ∀ j, i ≠ j → nth (takeZ zs i t) j = nth zs j := fun j q => takeZ_ne q
  have hI : (takeI zs i t = i + 1 ∧ (nth zs i).n - t = 0) ∨ takeI zs i t = i := by
    unfold takeI
    split
    · exact .inl ⟨rfl, by assumption⟩
    · exact .inr rfl
  refine ⟨by rw [takeZ_len, hl], fun j hj => ?_, fun j hj => ?_, fun j hj q => ?_, fun j hj q => ?_, fun j hj => ?_, fun q hq => ?_⟩
  · by_cases q : i = j
    · subst q; rw [z1]; exact h.p i hj
    · rw [z2 j q]; exact h.p j hj
  · by_cases q : i = j
    · subst q
      rw [if_pos (h.p i hj), h.b i hj, z1]
      show _ = _ - ((nth zs i).n - t)
      omega
    · rw [if_neg (by rw [h.p i hi2]; exact nd_ne hd hi2 hj q), z2 j q, h.b j hj]
      omega
  · by_cases r : i = j
    · subst r
      rw [z1]
      show (nth zs i).n - t = 0
      omega
    · rw [z2 j r]; exact h.lo j hj (by omega)
  · rw [z2 j (by omega)]; exact h.hi j hj (by omega)
  · by_cases q : i = j
    · subst q; rw [z1]; show 0 ≤ (nth zs i).n - t; omega
    · rw [z2 j q]; exact h.nn j hj
  · rw [h.out q hq, if_neg]
    · rfl
    · intro e
      rw [h.p i hi2] at e
      exact hq (e ▸ List.mem_map_of_mem (nth_mem hi2))
/-- The trades so far. -/
structure TrOk (yb ya : List Bid) (M : Int) (s : MtS) : Prop where
  b : SideOk yb s.zb s.ib (byP Trd.b s.ts)
  a : SideOk ya s.za s.ia (byP Trd.s s.ts)
  l : turn s.ts = M - s.l
  ok : ∀ t ∈ s.ts, (1 ≤ t.n ∧ t.n ≤ 1000000) ∧ t.b ∈ yb.map Bid.p ∧ t.s ∈ ya.map Bid.p
theorem TrOk.step {yb ya : List Bid} {M : Int} {s : MtS} {nb na : Nat} (h : TrOk yb ya M s) (hm : MtOk nb na s) (h0 : 0 < s.l) (hb : (yb.map Bid.p).Nodup) (ha : (ya.map Bid.p).Nodup) : TrOk yb ya M (mtStep s) := by
  obtain ⟨h1, h2, h3, h4, h5, h6, h7, h8, _⟩ := hm.heads h0
  have e1 : (fun q => byP Trd.b s.ts q + if (nth s.zb s.ib).p = q then mtN s else 0) = byP Trd.b (mtStep s).ts := funext fun q => by
    show _ = byP Trd.b (s.ts ++ [_]) q
    rw [byP_app, byP_one]
  have e2 : (fun q => byP Trd.s s.ts q + if (nth s.za s.ia).p = q then mtN s else 0) = byP Trd.s (mtStep s).ts := funext fun q => by
    show _ = byP Trd.s (s.ts ++ [_]) q
    rw [byP_app, byP_one]
  have hb1 : s.ib < yb.length := by rw [← h.b.len]; exact h1
  have ha1 : s.ia < ya.length := by rw [← h.a.len]; exact h2
  refine ⟨e1 ▸ h.b.step hb h1 ⟨h5, h7⟩, e2 ▸ h.a.step ha h2 ⟨h5, h8⟩, ?_, fun t ht => ?_⟩
  · show turn (s.ts ++ [_]) = M - (s.l - mtN s)
    rw [turn_app, h.l]
    simp only [turn]
    omega
  · rcases List.mem_append.1 ht with q | q
    · exact h.ok t q
    · rw [List.mem_singleton.1 q]
      refine ⟨by dsimp only; omega, ?_, ?_⟩
      · dsimp only; rw [h.b.p _ hb1]; exact List.mem_map_of_mem (nth_mem hb1)
      · dsimp only; rw [h.a.p _ ha1]; exact List.mem_map_of_mem (nth_mem ha1)
theorem trS_ok {yb ya : List Bid} {M : Int} {nb na : Nat} (h0 : MtOk nb na (mtS M yb ya 0)) (hb : (yb.map Bid.p).Nodup) (ha : (ya.map Bid.p).Nodup) : ∀ {k : Nat}, (∀ j, j < k → 0 < (mtS M yb ya j).l) → TrOk yb ya M (mtS M yb ya k)
  | 0, _ => by
    have side : ∀ ys : List Bid, (∀ x ∈ ys, 0 ≤ x.n) → SideOk ys ys 0 (fun _ => 0) := fun ys h => ⟨rfl, fun _ _ => rfl, fun _ _ => by omega, fun _ _ q => by omega, fun _ _ _ => rfl, fun j hj => h _ (nth_mem hj), fun _ _ => rfl⟩
    refine ⟨side yb fun x hx => ?_, side ya fun x hx => ?_, ?_, fun t ht => (by cases ht)⟩
    · have := h0.ob x hx; omega
    · have := h0.oa x hx; omega
    · show (0 : Int) = M - M; omega
  | k + 1, h => (trS_ok h0 hb ha fun j hj => h j (by omega)).step (mtS_ok h0 fun j hj => h j (by omega)) (h k (by omega)) hb ha
/-- One side at the end: nobody beyond the own order, the best are served before others. -/
theorem side_end {sg : Int} (hsg : sg = 1 ∨ sg = -1) {l ys zs : List Bid} {i : Nat} {B : Int → Int} {pr : Int} (hp : ys.Perm (l.filter fun x => trd sg x pr)) (ha : Asc (cmpB sg) ys) (hn : (l.map Bid.p).Nodup) (hok : ∀ x ∈ l, 1 ≤ x.n) (h : SideOk ys zs i B) :
    (∀ x ∈ l, B x.p ≤ x.n ∧ (0 < B x.p → sg * x.r ≤ sg * pr)) ∧ (∀ x ∈ l, ∀ y ∈ l, sg * y.r < sg * x.r → B y.p < y.n → ¬ 0 < B x.p) := by
  have mem : ∀ {x}, x ∈ ys ↔ x ∈ l ∧ sg * x.r ≤ sg * pr := fun {x} => by
    rw [hp.mem_iff, List.mem_filter]
    unfold trd
    rw [decide_eq_true_eq]
  have out : ∀ {x}, x ∈ l → ¬ sg * x.r ≤ sg * pr → B x.p = 0 := fun {x} hx q => h.out _ fun e => by
    obtain ⟨y, hy, e⟩ := List.mem_map.1 e
    have := mem.1 hy
    rw [nd_inj hn this.1 hx e] at this
    exact q this.2
  refine ⟨fun x hx => ?_, fun x hx y hy q1 q2 q3 => ?_⟩
  · by_cases q : sg * x.r ≤ sg * pr
    · obtain ⟨j, hj, rfl⟩ := mem_nth (mem.2 ⟨hx, q⟩)
      have := h.nn j hj
      rw [h.b j hj]
      exact ⟨by omega, fun _ => q⟩
    · rw [out hx q]
      have := hok x hx
      exact ⟨by omega, fun e => by omega⟩
  · have hx2 : sg * x.r ≤ sg * pr := Classical.byContradiction fun e => by rw [out hx e] at q3; omega
    obtain ⟨j, hj, rfl⟩ := mem_nth (mem.2 ⟨hx, hx2⟩)
    obtain ⟨m, hm, rfl⟩ := mem_nth (mem.2 ⟨hy, (by omega)⟩)
    rw [h.b j hj] at q3
    rw [h.b m hm] at q2
    have h1 : ¬ i < j := fun e => by rw [h.hi j hj e] at q3; omega
    have h2 : ¬ m < i := fun e => by rw [h.lo m hm e] at q2; omega
    have h3 : m ≠ j := fun e => by rw [e] at q1; omega
    have h4 := ha j m (by omega) hm
    rw [cmpB_lt hsg] at h4
    exact h4 (.inl q1)
def sB (B : Int → Int) : List Bid → Int
  | [] => 0
  | x :: l => B x.p + sB B l
theorem sB_app (B : Int → Int) (a b : List Bid) : sB B (a ++ b) = sB B a + sB B b := by
  induction a with
  | nil => simp [sB]
  | cons t l ih => simp only [List.cons_append, sB, ih]; omega
theorem sB_take {B : Int → Int} {l : List Bid} {k : Nat} (h : k < l.length) : sB B (l.take (k + 1)) = sB B (l.take k) + B (nth l k).p := by
  rw [take_nth h, sB_app]
  simp [sB]
theorem sB_add (F G : Int → Int) (l : List Bid) : sB (fun q => F q + G q) l = sB F l + sB G l := by
  induction l with
  | nil => rfl
  | cons t l ih => simp only [sB, ih]; omega
theorem sB_zero (l : List Bid) : sB (fun _ => 0) l = 0 := by
  induction l with
  | nil => rfl
  | cons t l ih => simp only [sB, ih]; omega
theorem sB_one {c n : Int} : ∀ {l : List Bid}, (l.map Bid.p).Nodup → sB (fun q => if c = q then n else 0) l = if c ∈ l.map Bid.p then n else 0
  | [], _ => rfl
  | x :: l, h => by
    rw [List.map_cons, List.nodup_cons] at h
    have ih := sB_one (c := c) (n := n) h.2
    rw [sB, ih, List.map_cons]
    by_cases q : c = x.p
    · rw [if_pos q, if_neg (by rw [q]; exact h.1), if_pos (by rw [q]; exact List.mem_cons_self), Int.add_zero]
    · rw [if_neg q, Int.zero_add]
      by_cases r : c ∈ l.map Bid.p
      · rw [if_pos r, if_pos (List.mem_cons_of_mem _ r)]
      · rw [if_neg r, if_neg (fun e => (List.mem_cons.1 e).elim q r)]
theorem sB_turn {f : Trd → Int} {l : List Bid} (hn : (l.map Bid.p).Nodup) : ∀ {ts : List Trd}, (∀ t ∈ ts, f t ∈ l.map Bid.p) → sB (byP f ts) l = turn ts
  | [], _ => sB_zero l
  | t :: ts, h => by
    have ih := sB_turn (f := f) hn (ts := ts) fun x hx => h x (List.mem_cons_of_mem _ hx)
    have e : byP f (t :: ts) = fun q => (if f t = q then t.n else 0) + byP f ts q := rfl
    rw [e, sB_add, sB_one hn, if_pos (h t List.mem_cons_self), ih, turn]
theorem sumN_mono {f g : Bid → Bool} : ∀ {l : List Bid}, (∀ x ∈ l, f x = true → g x = true) → (∀ x ∈ l, 0 ≤ x.n) → sumN (l.filter f) ≤ sumN (l.filter g)
  | [], _, _ => Int.le_refl _
  | x :: l, h, hn => by
    have ih := sumN_mono (f := f) (g := g) (l := l) (fun y hy => h y (List.mem_cons_of_mem _ hy)) fun y hy => hn y (List.mem_cons_of_mem _ hy)
    have h1 := h x List.mem_cons_self
    have h2 := hn x List.mem_cons_self
    rw [List.filter_cons, List.filter_cons]
    by_cases q : f x = true
    · rw [if_pos q, if_pos (h1 q)]; simp only [sumN]; omega
    · rw [if_neg q]
      split
      · simp only [sumN]; omega
      · exact ih
theorem least_r {p : Int} : ∀ {l : List Bid}, (∃ x ∈ l, p ≤ x.r) → ∃ x ∈ l, p ≤ x.r ∧ ∀ y ∈ l, p ≤ y.r → x.r ≤ y.r
  | [], h => by obtain ⟨x, hx, _⟩ := h; cases hx
  | a :: l, h => by
    by_cases q : ∃ x ∈ l, p ≤ x.r
    · obtain ⟨x, h1, h2, h3⟩ := least_r q
      by_cases r : p ≤ a.r ∧ a.r < x.r
      · refine ⟨a, List.mem_cons_self, r.1, fun y hy e => ?_⟩
        rcases List.mem_cons.1 hy with rfl | hy
        · exact Int.le_refl _
        · have := h3 y hy e; omega
      · refine ⟨x, List.mem_cons_of_mem _ h1, h2, fun y hy e => ?_⟩
        rcases List.mem_cons.1 hy with rfl | hy
        · omega
        · exact h3 y hy e
    · obtain ⟨x, hx, e⟩ := h
      rcases List.mem_cons.1 hx with rfl | hx
      · refine ⟨x, List.mem_cons_self, e, fun y hy e2 => ?_⟩
        rcases List.mem_cons.1 hy with rfl | hy
        · exact Int.le_refl _
        · exact absurd ⟨y, hy, e2⟩ q
      · exact absurd ⟨x, hx, e⟩ q
theorem trd_n {x : Bid} {p : Int} : trd (-1) x p = true ↔ p ≤ x.r := by unfold trd; rw [decide_eq_true_eq]; omega
theorem trd_p {x : Bid} {p : Int} : trd 1 x p = true ↔ x.r ≤ p := by unfold trd; rw [decide_eq_true_eq]; omega
theorem tonK_all (sg p : Int) (l : List Bid) : tonK sg p l l.length = sumN (l.filter fun x => trd sg x p) := by rw [tonK_sum sg p l (Nat.le_refl _), List.take_length]
/-- At no price is there a greater turnover. -/
theorem best_any {lb la : List Bid} (hb : ∀ x ∈ lb ++ la, okBid x = true) (p : Int) : min (tonK (-1) p lb lb.length) (tonK 1 p la la.length) ≤ if (lb ++ la).length = 0 then 0 else (mtBest lb la).t := by
  have hlen := crs_len lb la
  by_cases q : ∃ x ∈ lb, p ≤ x.r
  · obtain ⟨x, h1, h2, h3⟩ := least_r q
    obtain ⟨j, hj, ej⟩ := mem_nth (List.mem_append_left la h1)
    rw [if_neg (by omega)]
    have h4 := minK_least (l := crs lb la) (k := (crs lb la).length - 1) (by omega) j (by omega)
    rw [show minK (crs lb la) ((crs lb la).length - 1) = mtBest lb la from rfl, crs_nth hj, ej, cmpC_lt] at h4
    have e1 : tonK (-1) x.r lb lb.length = tonK (-1) p lb lb.length := by
      rw [tonK_all, tonK_all]
      congr 1
      refine List.filter_congr fun y hy => ?_
      rw [Bool.eq_iff_iff, trd_n, trd_n]
      exact ⟨fun e => by omega, h3 y hy⟩
    have e2 : tonK 1 p la la.length ≤ tonK 1 x.r la la.length := by
      rw [tonK_all, tonK_all]
      refine sumN_mono (fun y hy e => ?_) fun y hy => ?_
      · rw [trd_p] at *; omega
      · have := (okBid_ok (hb y (List.mem_append_right _ hy))).2.1; omega
    have h5 : min (tonK (-1) x.r lb lb.length) (tonK 1 x.r la la.length) ≤ (mtBest lb la).t := by
      show (clP lb la x.r).t ≤ _
      omega
    omega
  · have e : tonK (-1) p lb lb.length = 0 := by
      rw [tonK_all, List.filter_eq_nil_iff.2]
      · rfl
      · intro y hy e
        exact q ⟨y, hy, trd_n.1 e⟩
    rw [e]
    split
    · omega
    · rename_i h
      have := (mtBest_t hb (by omega)).2.2
      omega
/-- What the law says of one matching. -/
structure Clear (lb la : List Bid) (p : Int) (ts : List Trd) (e : Int) : Prop where
  err : e = 0 ∨ (e = 7 ∧ p = 0 ∧ ts = [])
  ok : ∀ t ∈ ts, (1 ≤ t.n ∧ t.n ≤ 1000000) ∧ (0 ≤ t.b ∧ t.b ≤ 99) ∧ (0 ≤ t.s ∧ t.s ≤ 99)
  b1 : ∀ x ∈ lb, byP Trd.b ts x.p ≤ x.n ∧ (0 < byP Trd.b ts x.p → p ≤ x.r)
  b2 : ∀ x ∈ lb, ∀ y ∈ lb, x.r < y.r → byP Trd.b ts y.p < y.n → ¬ 0 < byP Trd.b ts x.p
  a1 : ∀ x ∈ la, byP Trd.s ts x.p ≤ x.n ∧ (0 < byP Trd.s ts x.p → x.r ≤ p)
  a2 : ∀ x ∈ la, ∀ y ∈ la, y.r < x.r → byP Trd.s ts y.p < y.n → ¬ 0 < byP Trd.s ts x.p
  sb : sB (byP Trd.b ts) lb = turn ts
  sa : sB (byP Trd.s ts) la = turn ts
  any : ∀ q, min (tonK (-1) q lb lb.length) (tonK 1 q la la.length) ≤ turn ts
  pos : e = 0 → 0 < turn ts
  len : ts.length ≤ 61
theorem MtR.clear {lb la : List Bid} {p e : Int} {ts : List Trd} (h : MtR lb la p ts e) (hb : ∀ x ∈ lb ++ la, okBid x = true) (h1 : (lb.map Bid.p).Nodup) (h2 : (la.map Bid.p).Nodup) (h3 : lb.length ≤ 20) (h4 : la.length ≤ 20) : Clear lb la p ts e := by
  have hl := h.len
  have hany : ¬ ((lb ++ la).any fun x => !okBid x) = true := fun q => by
    obtain ⟨x, hx, e⟩ := List.any_eq_true.1 q
    simp [hb x hx] at e
  have he : mtErr lb la = if (lb ++ la).length = 0 ∨ (mtBest lb la).t = 0 then 7 else 0 := by
    unfold mtErr
    rw [if_neg (by omega), if_neg hany, if_neg (fun q => q.elim (fun r => r h1) (fun r => r h2))]
  have hany2 := best_any hb
  obtain ⟨e0, h⟩ := h
  rw [he] at e0
  rcases h with ⟨c1, rfl, rfl⟩ | ⟨c1, c2, yb, ya, c3, c4, c5, c6, k, c7, c8, c9⟩
  · have hz : (lb ++ la).length = 0 ∨ (mtBest lb la).t = 0 := Classical.byContradiction fun q => by rw [if_neg q] at e0; exact c1 e0
    rw [if_pos hz] at e0
    refine ⟨.inr ⟨e0, rfl, rfl⟩, fun t ht => (by cases ht), fun x hx => ?_, fun x _ y _ _ _ q => by simp [byP] at q, fun x hx => ?_, fun x _ y _ _ _ q => by simp [byP] at q, sB_zero lb, sB_zero la, fun q => ?_, fun q => by omega, hl⟩
    · have := (okBid_ok (hb x (List.mem_append_left _ hx))).2.1
      simp only [byP]; omega
    · have := (okBid_ok (hb x (List.mem_append_right _ hx))).2.1
      simp only [byP]; omega
    · have := hany2 q
      simp only [turn]
      split at this
      · omega
      · rcases hz with r | r
        · omega
        · omega
  · have hz : ¬ ((lb ++ la).length = 0 ∨ (mtBest lb la).t = 0) := fun q => by rw [if_pos q] at e0; omega
    have hlen := crs_len lb la
    have hc : (crs lb la).length ≠ 0 := by omega
    have ht0 := (mtBest_t hb hc).2.2
    subst c2
    have h0 := MtOk.init hb hc c3 c5
    have sub : ∀ {l : List Bid} {f : Bid → Bool}, (l.map Bid.p).Nodup → ((l.filter f).map Bid.p).Nodup := fun h => h.sublist (List.Sublist.map _ List.filter_sublist)
    have nb : (yb.map Bid.p).Nodup := (c3.map Bid.p).nodup_iff.2 (sub h1)
    have na : (ya.map Bid.p).Nodup := (c5.map Bid.p).nodup_iff.2 (sub h2)
    have ht := trS_ok h0 nb na c8
    have hturn := ht.l
    have hok := ht.ok
    have hsb := ht.b
    have hsa := ht.a
    rw [← c9] at hturn hok hsb hsa
    rw [c7] at hturn
    have mb : ∀ q, q ∈ yb.map Bid.p → q ∈ lb.map Bid.p := fun q hq => by
      obtain ⟨x, hx, e⟩ := List.mem_map.1 hq
      exact e ▸ List.mem_map_of_mem (List.mem_filter.1 (c3.mem_iff.1 hx)).1
    have ma : ∀ q, q ∈ ya.map Bid.p → q ∈ la.map Bid.p := fun q hq => by
      obtain ⟨x, hx, e⟩ := List.mem_map.1 hq
      exact e ▸ List.mem_map_of_mem (List.mem_filter.1 (c5.mem_iff.1 hx)).1
    obtain ⟨b1, b2⟩ := side_end (.inr rfl) c3 c4 h1 (fun x hx => (okBid_ok (hb x (List.mem_append_left _ hx))).2.1.1) hsb
    obtain ⟨a1, a2⟩ := side_end (.inl rfl) c5 c6 h2 (fun x hx => (okBid_ok (hb x (List.mem_append_right _ hx))).2.1.1) hsa
    refine ⟨.inl c1, fun t q => ?_, fun x hx => ⟨(b1 x hx).1, fun q => by have := (b1 x hx).2 q; omega⟩, fun x hx y hy q => b2 x hx y hy (by omega), fun x hx => ⟨(a1 x hx).1, fun q => by have := (a1 x hx).2 q; omega⟩, fun x hx y hy q => a2 x hx y hy (by omega), sB_turn h1 fun t q => mb _ (hok t q).2.1, sB_turn h2 fun t q => ma _ (hok t q).2.2, fun q => ?_, fun _ => by omega, hl⟩
    · obtain ⟨k1, k2, k3⟩ := hok t q
      obtain ⟨x, hx, ex⟩ := List.mem_map.1 (mb _ k2)
      obtain ⟨y, hy, ey⟩ := List.mem_map.1 (ma _ k3)
      have := (okBid_ok (hb x (List.mem_append_left _ hx))).1
      have := (okBid_ok (hb y (List.mem_append_right _ hy))).1
      exact ⟨k1, by omega, by omega⟩
    · have := hany2 q
      rw [if_neg (by omega)] at this
      omega

/-- The sum of the first weights. -/
def preS (ws : List Int) : Nat → Int
  | 0 => 0
  | k + 1 => preS ws k + nth ws k
/-- The share of a weight, and the first shares. -/
def spK (n a : Int) (ws : List Int) (k : Nat) : Int := n * preS ws (k + 1) / a - n * preS ws k / a
def spA (n a : Int) (ws : List Int) : Nat → List Int
  | 0 => []
  | k + 1 => spA n a ws k ++ [spK n a ws k]
theorem spA_len {n a : Int} {ws : List Int} : ∀ k, (spA n a ws k).length = k
  | 0 => rfl
  | k + 1 => by rw [spA, List.length_append, spA_len k]; rfl
theorem nth_sn1 {α : Type} [Inhabited α] {xs : List α} {y : α} {i : Nat} (h : i < xs.length) : nth (xs ++ [y]) i = nth xs i := by
  rw [nth_eq (by rw [List.length_append]; omega), nth_eq h, List.getElem_append_left h]
theorem nth_sn2 {α : Type} [Inhabited α] {xs : List α} {y : α} : nth (xs ++ [y]) xs.length = y := by
  rw [nth_eq (by simp)]; simp
theorem spA_nth {n a : Int} {ws : List Int} {j : Nat} : ∀ {k : Nat}, j < k → nth (spA n a ws k) j = spK n a ws j
  | k + 1, h => by
    rw [spA]
    rcases Nat.lt_succ_iff_lt_or_eq.1 h with q | rfl
    · rw [nth_sn1 (by rw [spA_len]; exact q), spA_nth q]
    · have := nth_sn2 (xs := spA n a ws j) (y := spK n a ws j)
      rw [spA_len] at this
      exact this
theorem preS_up {ws : List Int} (h : ∀ x ∈ ws, 0 ≤ x) : ∀ {j k : Nat}, j ≤ k → k ≤ ws.length → 0 ≤ preS ws j ∧ preS ws j ≤ preS ws k
  | j, 0, hj, _ => by rw [show j = 0 by omega]; unfold preS; omega
  | j, k + 1, hj, hk => by
    have hm := h _ (nth_mem (xs := ws) (i := k) (by omega))
    rcases Nat.lt_or_eq_of_le hj with q | rfl
    · have := preS_up h (j := j) (k := k) (by omega) (by omega)
      rw [preS]; omega
    · have := preS_up h (j := k) (k := k) (by omega) (by omega)
      rw [preS]; omega
/-- Money that is a price times all weights is split to the price times each. -/
theorem spK_mul {p a : Int} {ws : List Int} {k : Nat} (ha : 0 < a) : spK (p * a) a ws k = p * nth ws k := by
  have e : ∀ b : Int, p * a * b / a = p * b := fun b => by
    rw [Int.mul_assoc, Int.mul_comm a b, ← Int.mul_assoc, Int.mul_ediv_cancel _ (by omega)]
  unfold spK
  rw [e, e, preS, Int.mul_add]
  omega
/-- Of no more than all weights nobody's share is more than the weight. -/
theorem spK_le {n a : Int} {ws : List Int} {k : Nat} (ha : 0 < a) (hn : 0 ≤ n ∧ n ≤ a) (h : 0 ≤ nth ws k) : 0 ≤ spK n a ws k ∧ spK n a ws k ≤ nth ws k := by
  unfold spK
  rw [preS]
  have h1 : n * preS ws k ≤ n * (preS ws k + nth ws k) := Int.mul_le_mul_of_nonneg_left (by omega) hn.1
  have h2 : n * (preS ws k + nth ws k) ≤ n * preS ws k + nth ws k * a := by
    rw [Int.mul_add, Int.mul_comm (nth ws k) a]
    have := Int.mul_le_mul_of_nonneg_right hn.2 h
    omega
  have h3 := Int.ediv_le_ediv ha h1
  have h4 := Int.ediv_le_ediv ha h2
  rw [Int.add_mul_ediv_right _ _ (by omega)] at h4
  omega
theorem spK_sum {n a : Int} {ws : List Int} : ∀ k, preS (spA n a ws k) k = n * preS ws k / a
  | 0 => by unfold preS; simp
  | k + 1 => by
    have e : ∀ j, j ≤ k → preS (spA n a ws (k + 1)) j = preS (spA n a ws k) j := by
      intro j
      induction j with
      | zero => intro _; rfl
      | succ j ih =>
        intro hj
        rw [preS, preS, ih (by omega), spA_nth (by omega), spA_nth (by omega)]
    rw [preS, e k (Nat.le_refl _), spK_sum k, spA_nth (Nat.lt_succ_self k)]
    unfold spK
    omega
/-- A note, and the sums of an interest's notes by their kinds. -/
structure Nt where
  k : Int
  i : Int
  a : Int
instance : Inhabited Nt := ⟨⟨default, default, default⟩⟩
structure It where
  z : Int
  v : Int
  d : Int
  s : Int
  e : Int
instance : Inhabited It := ⟨⟨default, default, default, default, default⟩⟩
def itAdd (x : It) (n : Nt) : It := if n.k = 1 then ⟨x.z, x.v + n.a, x.d, x.s, x.e⟩ else if n.k = 2 then ⟨x.z, x.v, x.d + n.a, x.s, x.e⟩ else if n.k = 3 then ⟨x.z, x.v, x.d, x.s + n.a, x.e⟩ else ⟨x.z, x.v, x.d, x.s, x.e + n.a⟩
/-- The notes of the sellers' average: the values that are there, and what one of them has paid. -/
def vlN (sh : List Int) : Nat → List Nt
  | 0 => []
  | k + 1 => if 0 < nth sh k then vlN sh k ++ [⟨1, (k : Int), nth sh k⟩] else vlN sh k
/-- The first one with a share. -/
def fsN (sh : List Int) : Nat → Int
  | 0 => -1
  | k + 1 => if 0 < nth sh k ∧ fsN sh k < 0 then (k : Int) else fsN sh k
theorem fsN_at {sh : List Int} : ∀ {k : Nat}, (fsN sh k = -1 ∧ ∀ j, j < k → ¬ 0 < nth sh j) ∨ (∃ j : Nat, j < k ∧ fsN sh k = (j : Int) ∧ 0 < nth sh j)
  | 0 => .inl ⟨rfl, fun j h => absurd h (Nat.not_lt_zero _)⟩
  | k + 1 => by
    rw [fsN]
    rcases fsN_at (sh := sh) (k := k) with ⟨h1, h2⟩ | ⟨j, h1, h2, h3⟩
    · by_cases q : 0 < nth sh k
      · rw [if_pos ⟨q, by omega⟩]; exact .inr ⟨k, by omega, rfl, q⟩
      · rw [if_neg (fun h => q h.1)]
        refine .inl ⟨h1, fun j hj => ?_⟩
        rcases Nat.lt_succ_iff_lt_or_eq.1 hj with r | rfl
        · exact h2 j r
        · exact q
    · rw [if_neg (by omega)]; exact .inr ⟨j, by omega, h2, h3⟩
/-- The sums of all interests behind the first notes. -/
def gaS (m : Nat) (l : List Nt) : Nat → List It
  | 0 => List.replicate m ⟨0, 0, 0, 0, 0⟩
  | k + 1 => (gaS m l k).set (nth l k).i.toNat (itAdd (nth (gaS m l k) (nth l k).i.toNat) (nth l k))
theorem gaS_len {m : Nat} {l : List Nt} : ∀ k, (gaS m l k).length = m
  | 0 => List.length_replicate ..
  | k + 1 => by rw [gaS, List.length_set, gaS_len k]
/-- What the notes of an interest add up to. -/
def itS (j : Nat) : List Nt → It → It
  | [], x => x
  | n :: l, x => itS j l (if n.i.toNat = j then itAdd x n else x)
theorem itS_app {j : Nat} : ∀ {l1 l2 : List Nt} {x : It}, itS j (l1 ++ l2) x = itS j l2 (itS j l1 x)
  | [], _, _ => rfl
  | n :: l1, l2, x => by show itS j (l1 ++ l2) _ = _; rw [itS_app]; rfl
theorem nth_setI {α : Type} [Inhabited α] {xs : List α} {i j : Nat} {v : α} (h : j < xs.length) : nth (xs.set i v) j = if i = j then v else nth xs j := by
  rw [nth_eq (by rw [List.length_set]; exact h), nth_eq h, List.getElem_set]
theorem gaS_at {m : Nat} {l : List Nt} {j : Nat} (hj : j < m) : ∀ {k : Nat}, k ≤ l.length → nth (gaS m l k) j = itS j (l.take k) ⟨0, 0, 0, 0, 0⟩
  | 0, _ => by
    rw [gaS, nth_eq (by rw [List.length_replicate]; exact hj), List.getElem_replicate]
    rfl
  | k + 1, h => by
    rw [gaS, nth_setI (by rw [gaS_len]; exact hj), take_nth (by omega), itS_app, ← gaS_at hj (k := k) (by omega)]
    by_cases q : (nth l k).i.toNat = j
    · rw [if_pos q]
      show _ = (if (nth l k).i.toNat = j then itAdd (nth (gaS m l k) j) (nth l k) else nth (gaS m l k) j)
      rw [if_pos q, q]
    · rw [if_neg q]
      show _ = (if (nth l k).i.toNat = j then itAdd (nth (gaS m l k) j) (nth l k) else nth (gaS m l k) j)
      rw [if_neg q]
theorem vlN_at {sh : List Int} {j : Nat} (h : ∀ i, i < sh.length → 0 ≤ nth sh i) : ∀ {k : Nat}, k ≤ sh.length → itS j (vlN sh k) ⟨0, 0, 0, 0, 0⟩ = if j < k then ⟨0, nth sh j, 0, 0, 0⟩ else ⟨0, 0, 0, 0, 0⟩
  | 0, _ => rfl
  | k + 1, hk => by
    have ih := vlN_at (j := j) h (k := k) (by omega)
    have h0 := h k (by omega)
    rw [vlN]
    by_cases q : 0 < nth sh k
    · rw [if_pos q, itS_app, ih]
      show (if ((k : Int)).toNat = j then itAdd _ _ else _) = _
      by_cases r : k = j
      · subst r
        rw [if_pos (by omega), if_neg (Nat.lt_irrefl _), if_pos (Nat.lt_succ_self _)]
        simp [itAdd]
      · rw [if_neg (by omega)]
        by_cases s : j < k
        · rw [if_pos s, if_pos (by omega)]
        · rw [if_neg s, if_neg (by omega)]
    · rw [if_neg q, ih]
      by_cases r : k = j
      · subst r
        rw [if_neg (Nat.lt_irrefl _), if_pos (Nat.lt_succ_self _), show nth sh k = 0 by omega]
      · by_cases s : j < k
        · rw [if_pos s, if_pos (by omega)]
        · rw [if_neg s, if_neg (by omega)]
/-- The sums of the sellers' average. -/
theorem av_at {sh : List Int} {j f : Nat} {part : Int} (h : ∀ i, i < sh.length → 0 ≤ nth sh i) (hj : j < sh.length) :
    nth (gaS sh.length (vlN sh sh.length ++ [⟨4, (f : Int), part⟩]) (vlN sh sh.length ++ [(⟨4, (f : Int), part⟩ : Nt)]).length) j = ⟨0, nth sh j, 0, 0, if f = j then part else 0⟩ := by
  rw [gaS_at hj (Nat.le_refl _), List.take_length, itS_app, vlN_at h (Nat.le_refl _), if_pos hj]
  show (if ((f : Int)).toNat = j then itAdd _ _ else _) = _
  by_cases q : f = j
  · rw [if_pos (by omega), if_pos q]; simp [itAdd]
  · rw [if_neg (by omega), if_neg q]
theorem vlN_ok {sh : List Int} {B : Int} (h : ∀ i, i < sh.length → 0 ≤ nth sh i ∧ nth sh i ≤ B) : ∀ {k : Nat}, k ≤ sh.length → (vlN sh k).length ≤ k ∧ ∀ n ∈ vlN sh k, n.k = 1 ∧ (0 ≤ n.i ∧ n.i < (k : Int)) ∧ (1 ≤ n.a ∧ n.a ≤ B)
  | 0, _ => ⟨Nat.le_refl _, fun n hn => (by cases hn)⟩
  | k + 1, hk => by
    obtain ⟨h1, h2⟩ := vlN_ok h (k := k) (by omega)
    have h0 := h k (by omega)
    rw [vlN]
    by_cases q : 0 < nth sh k
    · rw [if_pos q]
      refine ⟨by rw [List.length_append, List.length_singleton]; omega, fun n hn => ?_⟩
      rcases List.mem_append.1 hn with r | r
      · have := h2 n r; omega
      · rw [List.mem_singleton.1 r]; dsimp only; omega
    · rw [if_neg q]
      exact ⟨by omega, fun n hn => by have := h2 n hn; omega⟩

def Numd (l : List Bid) : Prop := ∀ j, j < l.length → (nth l j).p = (j : Int)
theorem numd_nd {l : List Bid} (h : Numd l) : (l.map Bid.p).Nodup := by
  unfold List.Nodup
  rw [List.pairwise_map, List.pairwise_iff_getElem]
  intro i j hi hj hij
  rw [← nth_eq hi, ← nth_eq hj, h i hi, h j hj]
  omega
theorem sB_le {f : Trd → Int} {l : List Bid} (hn : (l.map Bid.p).Nodup) : ∀ {ts : List Trd}, (∀ t ∈ ts, 0 ≤ t.n) → sB (byP f ts) l ≤ turn ts
  | [], _ => Int.le_of_eq (sB_zero l)
  | t :: ts, h => by
    have ih := sB_le (f := f) hn (ts := ts) fun x hx => h x (List.mem_cons_of_mem _ hx)
    have h0 := h t List.mem_cons_self
    have e : byP f (t :: ts) = fun q => (if f t = q then t.n else 0) + byP f ts q := rfl
    rw [e, sB_add, sB_one hn, turn]
    split <;> omega
/-- Where all is traded by those in a list, all trades are theirs. -/
theorem sB_all {f : Trd → Int} {l : List Bid} (hn : (l.map Bid.p).Nodup) : ∀ {ts : List Trd}, (∀ t ∈ ts, 1 ≤ t.n) → sB (byP f ts) l = turn ts → ∀ t ∈ ts, f t ∈ l.map Bid.p
  | [], _, _, _, h => (by cases h)
  | t :: ts, h, hs, x, hx => by
    have h1 : ∀ y ∈ ts, 1 ≤ y.n := fun y hy => h y (List.mem_cons_of_mem _ hy)
    have hle := sB_le (f := f) hn (ts := ts) fun y hy => by have := h1 y hy; omega
    have h0 := h t List.mem_cons_self
    have e : byP f (t :: ts) = fun q => (if f t = q then t.n else 0) + byP f ts q := rfl
    rw [e, sB_add, sB_one hn, turn] at hs
    by_cases q : f t ∈ l.map Bid.p
    · rw [if_pos q] at hs
      rcases List.mem_cons.1 hx with rfl | hx
      · exact q
      · exact sB_all hn h1 (by omega) x hx
    · rw [if_neg q] at hs; omega
theorem numd_mem {l : List Bid} (h : Numd l) {c : Int} (hc : c ∈ l.map Bid.p) : 0 ≤ c ∧ c < (l.length : Int) := by
  obtain ⟨x, hx, rfl⟩ := List.mem_map.1 hc
  obtain ⟨j, hj, rfl⟩ := mem_nth hx
  rw [h j hj]; omega
/-- What each seller has sold. -/
def soK (m : Nat) (ts : List Trd) : Nat → List Int
  | 0 => List.replicate m 0
  | k + 1 => (soK m ts k).set (nth ts k).s.toNat (nth (soK m ts k) (nth ts k).s.toNat + (nth ts k).n)
theorem soK_len {m : Nat} {ts : List Trd} : ∀ k, (soK m ts k).length = m
  | 0 => List.length_replicate ..
  | k + 1 => by rw [soK, List.length_set, soK_len k]
theorem soK_at {m : Nat} {ts : List Trd} (hs : ∀ t ∈ ts, 0 ≤ t.s) {j : Nat} (hj : j < m) : ∀ {k : Nat}, k ≤ ts.length → nth (soK m ts k) j = byP Trd.s (ts.take k) (j : Int)
  | 0, _ => by rw [soK, nth_eq (by rw [List.length_replicate]; exact hj), List.getElem_replicate]; rfl
  | k + 1, h => by
    have h0 := hs _ (nth_mem (xs := ts) (i := k) (by omega))
    rw [soK, nth_setI (by rw [soK_len]; exact hj), take_nth (by omega), byP_app, byP_one, ← soK_at hs hj (k := k) (by omega)]
    by_cases q : (nth ts k).s.toNat = j
    · rw [if_pos q, if_pos (by omega), q]
    · rw [if_neg q, if_neg (by omega), Int.add_zero]
theorem preS_sB {l : List Bid} {ws : List Int} {B : Int → Int} (h : Numd l) (hl : ws.length = l.length) (hw : ∀ j, j < ws.length → nth ws j = B (j : Int)) : ∀ {k : Nat}, k ≤ l.length → preS ws k = sB B (l.take k)
  | 0, _ => by rw [List.take_zero]; rfl
  | k + 1, hk => by rw [preS, sB_take (by omega), preS_sB h hl hw (k := k) (by omega), hw k (by omega), h k (by omega)]
/-- The sellers' tons. -/
structure Sold (la : List Bid) (p : Int) (ts : List Trd) (so : List Int) : Prop where
  len : so.length = la.length
  nn : ∀ j, j < so.length → 0 ≤ nth so j ∧ nth so j ≤ (nth la j).n
  all : preS so so.length = turn ts
  pos : 0 < turn ts
  p : 0 ≤ p ∧ p ≤ 1000000
theorem Clear.sold {lb la : List Bid} {p e : Int} {ts : List Trd} (h : Clear lb la p ts e) (hR : MtR lb la p ts e) (hb : ∀ x ∈ lb ++ la, okBid x = true) (nb : Numd lb) (na : Numd la) (e0 : e = 0) :
    Sold la p ts (soK la.length ts ts.length) ∧ ∀ t ∈ ts, 1 ≤ t.n ∧ (0 ≤ t.s ∧ t.s < (la.length : Int)) ∧ (0 ≤ t.b ∧ t.b < (lb.length : Int)) := by
  have h1 : ∀ t ∈ ts, 1 ≤ t.n := fun t ht => (h.ok t ht).1.1
  have hs := sB_all (numd_nd na) h1 h.sa
  have hbb := sB_all (numd_nd nb) h1 h.sb
  have hts : ∀ t ∈ ts, 1 ≤ t.n ∧ (0 ≤ t.s ∧ t.s < (la.length : Int)) ∧ (0 ≤ t.b ∧ t.b < (lb.length : Int)) := fun t ht => ⟨h1 t ht, numd_mem na (hs t ht), numd_mem nb (hbb t ht)⟩
  have hl := soK_len (m := la.length) (ts := ts) ts.length
  have hat : ∀ j, j < la.length → nth (soK la.length ts ts.length) j = byP Trd.s ts (j : Int) := fun j hj => by
    rw [soK_at (fun t ht => (hts t ht).2.1.1) hj (Nat.le_refl _), List.take_length]
  refine ⟨⟨hl, fun j hj => ?_, ?_, h.pos e0, ?_⟩, hts⟩
  · rw [hl] at hj
    rw [hat j hj]
    have := (h.a1 _ (nth_mem hj)).1
    rw [na j hj] at this
    exact ⟨(byP_nn fun t ht => by have := h1 t ht; omega).1, this⟩
  · rw [hl, preS_sB (B := byP Trd.s ts) na hl (fun j hj => hat j (by rw [hl] at hj; exact hj)) (Nat.le_refl _), List.take_length, h.sa]
  · obtain ⟨_, hc⟩ := hR
    rcases hc with ⟨c, _⟩ | ⟨_, rfl, yb, _, c3, _⟩
    · exact absurd e0 c
    · have hp := h.pos e0
      have hne : (crs lb la).length ≠ 0 := fun q => by
        have : ts = [] := by
          cases ts with
          | nil => rfl
          | cons t ts =>
            obtain ⟨x, hx, _⟩ := List.mem_map.1 (hs t List.mem_cons_self)
            rw [crs_len, List.length_append] at q
            have := List.length_pos_of_mem hx
            omega
        rw [this] at hp
        simp [turn] at hp
      exact (mtBest_ok hb hne).2
/-- Shares of money by tons, and what follows for the average. -/
def shL (p : Int) (so : List Int) (a : Int) : List Int := spA (p * a) a so so.length
theorem Sold.sh {la : List Bid} {p : Int} {ts : List Trd} {so : List Int} (h : Sold la p ts so) : (shL p so (turn ts)).length = so.length ∧ ∀ j, j < so.length → nth (shL p so (turn ts)) j = p * nth so j := ⟨spA_len _, fun j hj => by
  unfold shL
  rw [spA_nth hj, spK_mul h.pos]⟩
theorem Sold.none {la : List Bid} {p : Int} {ts : List Trd} {so : List Int} (h : Sold la p ts so) (hn : ∀ j, j < so.length → ¬ 0 < nth (shL p so (turn ts)) j) : p = 0 := by
  have hp := h.p.1
  rcases Int.lt_or_eq_of_le hp with q | q
  · exfalso
    have hz : ∀ k, k ≤ so.length → preS so k = 0 := by
      intro k
      induction k with
      | zero => intro _; rfl
      | succ k ih =>
        intro hk
        have h1 := hn k (by omega)
        rw [h.sh.2 k (by omega)] at h1
        have h2 := (h.nn k (by omega)).1
        have h3 : ¬ 0 < nth so k := fun r => h1 (Int.mul_pos q r)
        rw [preS, ih (by omega)]; omega
    have := h.all
    rw [hz _ (Nat.le_refl _)] at this
    have := h.pos
    omega
  · exact q.symm

/-- What each owes, of all that was paid. -/
def duL (V G : List Int) : List Int := spA (preS G G.length) (preS V V.length) V V.length
/-- An account. -/
structure Acn where
  v : Int
  g : Int
  d : Int
  b : Int
instance : Inhabited Acn := ⟨⟨default, default, default, default⟩⟩
def acL (V G : List Int) : Nat → List Acn
  | 0 => []
  | k + 1 => acL V G k ++ [⟨nth V k, nth G k, nth (duL V G) k, nth (duL V G) k - nth G k⟩]
theorem acL_len {V G : List Int} : ∀ k, (acL V G k).length = k
  | 0 => rfl
  | k + 1 => by rw [acL, List.length_append, acL_len k]; rfl
theorem acL_nth {V G : List Int} {j : Nat} : ∀ {k : Nat}, j < k → nth (acL V G k) j = ⟨nth V j, nth G j, nth (duL V G) j, nth (duL V G) j - nth G j⟩
  | k + 1, h => by
    rw [acL]
    rcases Nat.lt_succ_iff_lt_or_eq.1 h with q | rfl
    · rw [nth_sn1 (by rw [acL_len]; exact q), acL_nth q]
    · have := nth_sn2 (xs := acL V G j) (y := (⟨nth V j, nth G j, nth (duL V G) j, nth (duL V G) j - nth G j⟩ : Acn))
      rw [acL_len] at this
      exact this
/-- What the average needs of values and what was paid. -/
structure AvOk (V G : List Int) : Prop where
  len : G.length = V.length
  m : 1 ≤ V.length ∧ V.length ≤ 40
  v : ∀ j, j < V.length → 0 ≤ nth V j ∧ nth V j ≤ 100000000
  g : ∀ j, j < G.length → 0 ≤ nth G j ∧ nth G j ≤ 100000000
  pos : 0 < preS V V.length
  le : preS G G.length ≤ preS V V.length
theorem preS_bd {ws : List Int} {B : Int} (h : ∀ j, j < ws.length → 0 ≤ nth ws j ∧ nth ws j ≤ B) : ∀ {k : Nat}, k ≤ ws.length → 0 ≤ preS ws k ∧ preS ws k ≤ B * (k : Int)
  | 0, _ => by unfold preS; omega
  | k + 1, hk => by
    have h1 := preS_bd h (k := k) (by omega)
    have h2 := h k (by omega)
    rw [preS, show B * ((k + 1 : Nat) : Int) = B * (k : Int) + B by rw [Int.natCast_add, Int.mul_add]; simp]
    omega
theorem mem_of_nth {ws : List Int} {p : Int → Prop} (h : ∀ j, j < ws.length → p (nth ws j)) : ∀ x ∈ ws, p x := fun x hx => by
  obtain ⟨i, hi, rfl⟩ := List.getElem_of_mem hx
  rw [← nth_eq hi]; exact h i hi
theorem AvOk.due {V G : List Int} (h : AvOk V G) : (duL V G).length = V.length ∧ (∀ j, j < V.length → 0 ≤ nth (duL V G) j ∧ nth (duL V G) j ≤ nth V j) ∧ preS (duL V G) V.length = preS G G.length := by
  refine ⟨spA_len _, fun j hj => ?_, ?_⟩
  · unfold duL
    rw [spA_nth hj]
    exact spK_le h.pos ⟨(preS_bd h.g (Nat.le_refl _)).1, h.le⟩ (h.v j hj).1
  · unfold duL
    rw [spK_sum, Int.mul_ediv_cancel _ (by have := h.pos; omega)]
/-- One has paid for all. -/
def grL (m f : Nat) (part : Int) : List Int := (List.replicate m 0).set f part
theorem grL_len {m f : Nat} {part : Int} : (grL m f part).length = m := by unfold grL; rw [List.length_set, List.length_replicate]
theorem grL_nth {m f : Nat} {part : Int} {j : Nat} (hj : j < m) : nth (grL m f part) j = if f = j then part else 0 := by
  unfold grL
  rw [nth_setI (by rw [List.length_replicate]; exact hj)]
  by_cases q : f = j
  · rw [if_pos q, if_pos q]
  · rw [if_neg q, if_neg q, nth_eq (by rw [List.length_replicate]; exact hj), List.getElem_replicate]
theorem grL_sum {m f : Nat} {part : Int} : ∀ {k : Nat}, k ≤ m → preS (grL m f part) k = if f < k then part else 0
  | 0, _ => rfl
  | k + 1, h => by
    rw [preS, grL_sum (k := k) (by omega), grL_nth (by omega)]
    by_cases q : f = k
    · rw [if_pos q, if_neg (by omega), if_pos (by omega)]; omega
    · rw [if_neg q]
      by_cases r : f < k
      · rw [if_pos r, if_pos (by omega)]; omega
      · rw [if_neg r, if_neg (by omega)]; omega
instance : DecidableEq Msg := fun a b => if h : a.c = b.c ∧ a.n = b.n ∧ a.r = b.r ∧ a.k = b.k ∧ a.m = b.m ∧ a.v = b.v then isTrue (Msg.eq6 h) else isFalse (fun e => h (by rw [e]; simp))

def mC : Chr := ⟨1, 2, 3, 850, 1200, 1440, 360, 144000, 0, 5⟩
def mW : List Low := [⟨150, 40⟩, ⟨200, 20⟩]
def mR : List Fre := [⟨500, 560⟩, ⟨1000, 1440⟩]
def mM : List Msg := [⟨0, 4, 0, 6, 0, 180⟩, ⟨0, 3, 0, 5, 0, 1000⟩, ⟨0, 2, 0, 4, 3000, 0⟩, ⟨0, 1, 0, 1, 0, 0⟩]
def mF : List Msg := [⟨0, 1, 0, 1, 0, 0⟩, ⟨0, 3, 0, 5, 0, 1000⟩, ⟨0, 4, 0, 6, 0, 180⟩, ⟨0, 2, 0, 4, 3000, 0⟩]
def mX : Bl := ⟨1020000, 204000, 70000, 0, 61200, 1294000⟩
theorem m_rdE : rdE mM = 0 := by kernel_rfl
theorem m_noEd : NoEd mM := by unfold NoEd edK mM; decide
theorem m_mem (x : Msg) : x ∈ mF ↔ LastIn mM x := by
  constructor
  · intro h
    have : ∀ x ∈ mF, x ∈ mM ∧ x.k ≠ 7 ∧ ∀ m ∈ mM, m.c = x.c → m.n = x.n → m.r ≤ x.r := by decide
    exact this x h
  · rintro ⟨h1, h2, h3⟩
    have : ∀ x ∈ mM, (∀ m ∈ mM, m.c = x.c → m.n = x.n → m.r ≤ x.r) → x ∈ mF := by decide
    exact this x h1 h3
theorem m_facts {out : List Msg} (h : RdR mM out 0) : out = mF :=
  sorted_ext FLt.asym h.spec.2.2.1 (by decide) (fun x => by rw [h.spec.2.2.2, m_mem])
theorem m_op : opEB mR mF = 0 := by kernel_rfl
theorem m_lc : lcM 1440 3000 360 (exc (opS 3000 mR mF mF.length).ex) = ⟨360, 1440, 700, 0⟩ := by
  have e : (opS 3000 mR mF mF.length).ex = mR := by kernel_rfl
  have ha : Asc cmpFr mR := fun i j hij hj => by
    have hj2 : j < 2 := hj
    obtain ⟨rfl, rfl⟩ : i = 0 ∧ j = 1 := by omega
    decide
  rw [e]
  exact (cntP_mn (L := 1440) (en := 3000) (b := 360) (by decide) ha).symm.trans (by kernel_rfl)
theorem m_bi {b : Bl} {e : Int} (h : BiR mC mW mR mM b e) : b = mX ∧ e = 0 := by
  obtain ⟨out, hR, h⟩ := h.ok (by kernel_rfl) (by kernel_rfl) m_rdE m_noEd (by kernel_rfl)
  obtain rfl := m_facts hR
  rcases h with ⟨q, he, _⟩ | ⟨_, n1, en, g1, g4, h⟩
  · rw [m_op] at he; exact absurd he q
  · have e1 : gtG (onS mF mF.length) 1 = some ⟨0, 1, 0, 1, 0, 0⟩ := by kernel_rfl
    have e4 : gtG (onS mF mF.length) 4 = some ⟨0, 2, 0, 4, 3000, 0⟩ := by kernel_rfl
    have e5 : gtG (onS mF mF.length) 5 = some ⟨0, 3, 0, 5, 0, 1000⟩ := by kernel_rfl
    have e6 : gtG (onS mF mF.length) 6 = some ⟨0, 4, 0, 6, 0, 180⟩ := by kernel_rfl
    rw [e1] at g1
    rw [e4] at g4
    simp only [Option.some.injEq] at g1 g4
    subst g1 g4
    rcases h with ⟨_, _, q | ⟨q, _⟩⟩ | ⟨he, t5, g5, _, hb⟩
    · rw [e5] at q; cases q
    · rw [e6] at q; cases q
    · rw [e5] at g5
      simp only [Option.some.injEq] at g5
      subst g5
      refine ⟨hb.trans ?_, he⟩
      rw [show lcM mC.l (3000 : Int) (0 + mC.o) (exc (opS 3000 mR mF mF.length).ex) = ⟨360, 1440, 700, 0⟩ from m_lc]
      kernel_rfl

end Go.Proofs.YtjkpkbdoljjeiaaGreat
