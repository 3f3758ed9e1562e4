/-
  Part 15 of the proof: contracts and plain laws. Conditions: none.
-/
import Derived.Test.YtclinbbghnebaaaGreatBK14
namespace Go.Proofs.YtclinbbghnebaaaGreat
open Go Go.RowKit
set_option maxRecDepth 10000

/-- Laytime minute by minute: what is used, and over, of the minutes behind the begin. -/
structure MnS where
  u : Int
  o : Int
def mnK (L b : Int) (p : Int → Bool) : Nat → MnS
  | 0 => ⟨0, 0⟩
  | i + 1 => if (mnK L b p i).u = L then ⟨L, (mnK L b p i).o + 1⟩ else if p (b + (i : Int)) = true then mnK L b p i else ⟨(mnK L b p i).u + 1, (mnK L b p i).o⟩
theorem mnK_run {L b : Int} {p : Int → Bool} {i : Nat} {u : Int} (h : mnK L b p i = ⟨u, 0⟩) : ∀ (m : Nat), u + (m : Int) ≤ L → (∀ j : Nat, j < m → p (b + (i : Int) + (j : Int)) = false) → mnK L b p (i + m) = ⟨u + (m : Int), 0⟩
  | 0, _, _ => by simpa using h
  | m + 1, hu, hp => by
    have ih := mnK_run h m (by omega) (fun j hj => hp j (by omega))
    have h1 := hp m (by omega)
    rw [← Nat.add_assoc, mnK, ih]
    rw [if_neg (show ¬ u + (m : Int) = L by omega), show b + ((i + m : Nat) : Int) = b + (i : Int) + (m : Int) by omega, h1]
    simp only [Bool.false_eq_true, if_false, MnS.mk.injEq, and_true]
    omega
theorem mnK_idle {L b : Int} {p : Int → Bool} {i : Nat} {s : MnS} (h : mnK L b p i = s) (hu : s.u ≠ L) : ∀ (m : Nat), (∀ j : Nat, j < m → p (b + (i : Int) + (j : Int)) = true) → mnK L b p (i + m) = s
  | 0, _ => h
  | m + 1, hp => by
    have ih := mnK_idle h hu m (fun j hj => hp j (by omega))
    have h1 := hp m (by omega)
    rw [← Nat.add_assoc, mnK, ih, if_neg hu, show b + ((i + m : Nat) : Int) = b + (i : Int) + (m : Int) by omega, if_pos h1]
theorem mnK_over {L b : Int} {p : Int → Bool} {i : Nat} {o : Int} (h : mnK L b p i = ⟨L, o⟩) : ∀ (m : Nat), mnK L b p (i + m) = ⟨L, o + (m : Int)⟩
  | 0 => by simpa using h
  | m + 1 => by
    rw [← Nat.add_assoc, mnK, mnK_over h m, if_pos rfl]
    simp only [MnS.mk.injEq, true_and]
    omega
/-- A minute that is excepted. -/
def exc (fs : List Fre) (t : Int) : Bool := fs.any fun f => decide (f.f ≤ t ∧ t < f.t)
theorem exc_no {fs : List Fre} {t : Int} (h : ∀ f ∈ fs, ¬ (f.f ≤ t ∧ t < f.t)) : exc fs t = false := by
  unfold exc
  rw [List.any_eq_false]
  intro f hf
  simpa using h f hf
theorem exc_yes {fs : List Fre} {f : Fre} {t : Int} (hf : f ∈ fs) (h : f.f ≤ t ∧ t < f.t) : exc fs t = true := List.any_eq_true.2 ⟨f, hf, decide_eq_true h⟩
theorem exc_same {fs gs : List Fre} (h : ∀ f, f ∈ fs ↔ f ∈ gs) : exc fs = exc gs := by
  funext t
  rw [Bool.eq_iff_iff]
  unfold exc
  rw [List.any_eq_true, List.any_eq_true]
  exact ⟨fun ⟨f, h1, h2⟩ => ⟨f, (h f).1 h1, h2⟩, fun ⟨f, h1, h2⟩ => ⟨f, (h f).2 h1, h2⟩⟩
def lcM (L en b : Int) (p : Int → Bool) : Lc := ⟨b, (mnK L b p (en - b).toNat).u, (mnK L b p (en - b).toNat).o, if (mnK L b p (en - b).toNat).o = 0 then L - (mnK L b p (en - b).toNat).u else 0⟩
structure CtI (L en b : Int) (ys : List Fre) (k : Nat) (s : CtS) : Prop where
  a1 : b ≤ s.a
  a2 : s.a ≤ max b en
  u0 : 0 ≤ s.u ∧ s.u ≤ L
  mn : mnK L b (exc ys) (s.a - b).toNat = ⟨s.u, 0⟩
  ex : s.u < L → ∀ j, j < k → j < ys.length → ∀ t, s.a ≤ t → t < en → ¬ ((nth ys j).f ≤ t ∧ t < (nth ys j).t)
  fin : s.u < L → k = ys.length + 1 → en ≤ s.a
theorem nth_app1 {α : Type} [Inhabited α] {xs ys : List α} {i : Nat} (h : i < xs.length) : nth (xs ++ ys) i = nth xs i := by
  rw [nth_eq (by rw [List.length_append]; omega), nth_eq h, List.getElem_append_left h]
theorem nth_app2 {α : Type} [Inhabited α] {xs : List α} {y : α} : nth (xs ++ [y]) xs.length = y := by
  rw [nth_eq (by simp)]; simp
theorem ctI_step {L en b : Int} {ys : List Fre} (hs : Asc cmpFr ys) {k : Nat} (hk : k < ys.length + 1) {s : CtS} (h : CtI L en b ys k s) : CtI L en b ys (k + 1) (ctStep L en s (nth (ys ++ [⟨en, en⟩]) k)) := by
  by_cases hu : s.u = L
  · rw [ctStep, if_pos hu]
    exact ⟨h.a1, h.a2, h.u0, h.mn, fun q => by omega, fun q => by omega⟩
  · rw [ctStep, if_neg hu]
    have hx : (k < ys.length ∧ nth (ys ++ [(⟨en, en⟩ : Fre)]) k = nth ys k) ∨ (k = ys.length ∧ nth (ys ++ [(⟨en, en⟩ : Fre)]) k = ⟨en, en⟩) := by
      rcases Nat.lt_or_ge k ys.length with q | q
      · exact .inl ⟨q, nth_app1 q⟩
      · obtain rfl : k = ys.length := by omega
        exact .inr ⟨rfl, nth_app2⟩
    generalize nth (ys ++ [(⟨en, en⟩ : Fre)]) k = f at hx
    obtain ⟨h1, h2, h3, h4, h5, h6⟩ := h
    have hlt : s.u < L := by omega
    have hm0 : 0 ≤ ctUse L en s f ∧ ctUse L en s f ≤ L - s.u ∧ ctUse L en s f ≤ max 0 (min f.f en - s.a) ∧ (ctUse L en s f < L - s.u → ctUse L en s f = max 0 (min f.f en - s.a)) := by
      unfold ctUse; omega
    generalize ctUse L en s f = m at hm0
    obtain ⟨m1, m2, m3, m4⟩ := hm0
    -- minutes that count
    have hfree : ∀ j : Nat, j < m.toNat → exc ys (b + ((s.a - b).toNat : Int) + (j : Int)) = false := fun j hj => exc_no fun y hy q => by
      obtain ⟨i, hi, rfl⟩ := List.mem_iff_getElem.1 hy
      rw [← nth_eq hi] at q
      rcases Nat.lt_or_ge i k with hik | hik
      · exact h5 hlt i hik hi (b + ((s.a - b).toNat : Int) + (j : Int)) (by omega) (by omega) q
      · rcases hx with ⟨hk9, rfl⟩ | ⟨hk9, _⟩
        · rcases Nat.lt_or_eq_of_le hik with q9 | q9
          · have := hs k i q9 hi
            unfold cmpFr at this
            omega
          · subst q9; omega
        · omega
    have hrun := mnK_run (p := exc ys) h4 m.toNat (by omega) hfree
    have e1 : (s.a + m - b).toNat = (s.a - b).toNat + m.toNat := by omega
    have e2 : s.u + (m.toNat : Int) = s.u + m := by omega
    rw [← e1, e2] at hrun
    by_cases hq : s.u + m < L
    · have hm9 := m4 (by omega)
      simp only [if_pos hq]
      have hidle := mnK_idle hrun (show s.u + m ≠ L by omega) (max (s.a + m) (min f.t en) - (s.a + m)).toNat (fun j hj => by
        rcases hx with ⟨hk9, rfl⟩ | ⟨hk9, rfl⟩
        · exact exc_yes (nth_mem hk9) (by omega)
        · simp only at hj hm9; omega)
      have e3 : (s.a + m - b).toNat + (max (s.a + m) (min f.t en) - (s.a + m)).toNat = (max (s.a + m) (min f.t en) - b).toNat := by omega
      rw [e3] at hidle
      refine ⟨by show b ≤ max _ _; omega, by show max _ _ ≤ _; omega, by show 0 ≤ s.u + m ∧ s.u + m ≤ L; omega, hidle, fun _ j hj hjl t ht1 ht2 q => ?_, fun _ hk9 => ?_⟩
      · simp only at ht1
        rcases Nat.lt_succ_iff_lt_or_eq.1 hj with q9 | q9
        · exact h5 hlt j q9 hjl t (by omega) ht2 q
        · subst q9
          rcases hx with ⟨_, rfl⟩ | ⟨hk9, _⟩
          · omega
          · omega
      · rcases hx with ⟨_, _⟩ | ⟨_, rfl⟩
        · omega
        · show en ≤ max (s.a + m) (min en en); omega
    · simp only [if_neg hq]
      exact ⟨by show b ≤ s.a + m; omega, by show s.a + m ≤ _; omega, by show 0 ≤ s.u + m ∧ s.u + m ≤ L; omega, hrun, fun q => absurd q (by show ¬ s.u + m < L; omega), fun q => absurd q (by show ¬ s.u + m < L; omega)⟩
theorem ctI_all {L en b : Int} {ys : List Fre} (hL : 0 ≤ L) (hs : Asc cmpFr ys) : ∀ k, k ≤ ys.length + 1 → CtI L en b ys k (ctS L en b (ys ++ [⟨en, en⟩]) k)
  | 0, _ => ⟨Int.le_refl _, by show b ≤ max b en; omega, ⟨Int.le_refl _, hL⟩, by show mnK L b _ (b - b).toNat = _; rw [Int.sub_self]; rfl, fun _ j hj => absurd hj (Nat.not_lt_zero _), fun _ h => by omega⟩
  | k + 1, hk => ctI_step hs (by omega) (ctI_all hL hs k (by omega))
/-- Laytime counted from one excepted time to the next one is laytime counted minute by minute. -/
theorem cntP_mn {L en b : Int} {ys : List Fre} (hL : 0 ≤ L) (hs : Asc cmpFr ys) : cntP L en b ys = lcM L en b (exc ys) := by
  obtain ⟨h1, h2, h3, h4, h5, h6⟩ := ctI_all (en := en) (b := b) hL hs (ys.length + 1) (Nat.le_refl _)
  unfold cntP lcM
  generalize ctS L en b (ys ++ [⟨en, en⟩]) (ys.length + 1) = s at *
  by_cases hu : s.u = L
  · have hN : mnK L b (exc ys) (en - b).toNat = ⟨L, max 0 (en - s.a)⟩ := by
      rw [hu] at h4
      by_cases q : s.a ≤ en
      · have := mnK_over h4 (en - s.a).toNat
        rw [show (s.a - b).toNat + (en - s.a).toNat = (en - b).toNat by omega] at this
        rw [this]
        simp only [MnS.mk.injEq, true_and]; omega
      · rw [show (en - b).toNat = (s.a - b).toNat by omega, h4]
        simp only [MnS.mk.injEq, true_and]; omega
    simp only [hN, hu, if_true]
  · have ha := h6 (by omega) rfl
    have hN : mnK L b (exc ys) (en - b).toNat = ⟨s.u, 0⟩ := by rw [show (en - b).toNat = (s.a - b).toNat by omega, h4]
    simp only [hN, if_neg hu]

end Go.Proofs.YtclinbbghnebaaaGreat
namespace Go.Proofs.YtclinbbghnebaaaGreat
open Go Go.RowKit
set_option maxRecDepth 10000

def onErrB (l : List Msg) (k : Nat) : Bool := !(decide ((nth l k).k = 2 ∨ (nth l k).k = 3)) && (gtG (onS l k) (nth l k).k).isSome
theorem onErr_iff {l : List Msg} {k : Nat} : onErr l k ↔ onErrB l k = true := by
  unfold onErr onErrB
  cases gtG (onS l k) (nth l k).k <;> simp
instance (la k : Int) : Decidable (opGo la k) := by unfold opGo; infer_instance
instance (en : Int) (fr : List Fre) (l : List Msg) (k : Nat) : Decidable (opBad en fr l k) := by unfold opBad; infer_instance
theorem any_range {n : Nat} {p : Nat → Bool} : (List.range n).any p = true ↔ ∃ k, k < n ∧ p k = true := by
  rw [List.any_eq_true]
  exact ⟨fun ⟨k, h1, h2⟩ => ⟨k, List.mem_range.1 h1, h2⟩, fun ⟨k, h1, h2⟩ => ⟨k, List.mem_range.2 h1, h2⟩⟩
/-- The error of the order of facts. -/
def opEB (fr : List Fre) (l : List Msg) : Int := if (List.range l.length).any (fun k => onErrB l k) = true then 6 else match gtG (onS l l.length) 1, gtG (onS l l.length) 4 with
  | some _, some en => if (List.range l.length).any (fun k => decide (opBad en.m fr l k)) = true then 9 else 0
  | _, _ => 7
theorem no_any {l : List Msg} (h : ∀ k, k < l.length → ¬ onErr l k) : ¬ (List.range l.length).any (fun k => onErrB l k) = true := fun q => by
  obtain ⟨k, h1, h2⟩ := any_range.1 q
  exact h k h1 (onErr_iff.2 h2)
theorem OpE.eq {fr : List Fre} {l : List Msg} {e : Int} (h : OpE fr l e) : e = opEB fr l ∧ e ≠ 0 := by
  unfold opEB
  rcases h with ⟨rfl, k, hk, hq⟩ | ⟨rfl, hn, hq⟩ | ⟨rfl, hn, n1, en, h1, h4, k, hk, hq⟩
  · rw [if_pos (any_range.2 ⟨k, hk, onErr_iff.1 hq⟩)]; exact ⟨rfl, by decide⟩
  · rw [if_neg (no_any hn)]
    rcases hq with hq | hq
    · rw [hq]; exact ⟨rfl, by decide⟩
    · rw [hq]
      refine ⟨?_, by decide⟩
      cases gtG (onS l l.length) 1 <;> rfl
  · rw [if_neg (no_any hn), h1, h4]
    simp only
    rw [if_pos (any_range.2 ⟨k, hk, decide_eq_true hq⟩)]; exact ⟨rfl, by decide⟩
theorem OpOk.eq {fr ex : List Fre} {l : List Msg} (h : OpOk fr l ex) : opEB fr l = 0 := by
  obtain ⟨hn, n1, en, h1, h4, hb, _⟩ := h
  unfold opEB
  rw [if_neg (no_any hn), h1, h4]
  simp only
  rw [if_neg (fun q => by obtain ⟨k, q1, q2⟩ := any_range.1 q; exact hb k q1 (of_decide_eq_true q2))]
/-- Laytime by facts. -/
def LtF (c : Chr) (fr : List Fre) (out : List Msg) (lc : Lc) : Prop := ∃ n1 en, gtG (onS out out.length) 1 = some n1 ∧ gtG (onS out out.length) 4 = some en ∧ lc = lcM c.l en.m (n1.m + c.o) (exc (opS en.m fr out out.length).ex)
theorem LtR.ok {c : Chr} {ws : List Low} {fr : List Fre} {l : List Msg} {lc : Lc} {e : Int} (h : LtR c ws fr l lc e) (h1 : chkCh c ws = 0) (h2 : chkFr fr = 0) (h3 : rdE l = 0) (h4 : NoEd l) (h5 : oneC l = true) :
    ∃ out, RdR l out 0 ∧ e = opEB fr out ∧ ((e ≠ 0 ∧ lc = ⟨0, 0, 0, 0⟩) ∨ (e = 0 ∧ LtF c fr out lc)) := by
  rcases h with ⟨he, hs, hl⟩ | ⟨rfl, _, _, _, out, ex, n1, en, ys, hR, hO, g1, g4, hp, ha, rfl⟩
  · rcases hs with ⟨q, _⟩ | ⟨_, q, _⟩ | ⟨_, _, _, o, hR⟩ | ⟨_, _, out, hR, ⟨q, _⟩ | ⟨_, hO⟩⟩
    · exact absurd h1 q
    · exact absurd h2 q
    · rcases hR.err with ⟨q, _⟩ | ⟨_, q, _⟩ | ⟨_, _, q⟩
      · exact absurd h3 q
      · exact absurd h4 q
      · exact absurd q he
    · rw [h5] at q; cases q
    · exact ⟨out, hR, hO.eq.1, .inl ⟨he, hl⟩⟩
  · refine ⟨out, hR, hO.eq.symm, .inr ⟨rfl, n1, en, g1, g4, ?_⟩⟩
    obtain ⟨_, n1', en', g1', g4', _, rfl⟩ := hO
    rw [g4] at g4'
    simp only [Option.some.injEq] at g4'
    subst g4'
    rw [cntP_mn (okCh_rng h1).2.2.2.2.1.1.1 ha, exc_same (fun f => hp.mem_iff)]
/-- A bill by facts. -/
def BlF (c : Chr) (ws : List Low) (fr : List Fre) (out : List Msg) (b : Bl) (e : Int) : Prop := ∃ n1 en, gtG (onS out out.length) 1 = some n1 ∧ gtG (onS out out.length) 4 = some en ∧
  ((e = 7 ∧ b = ⟨0, 0, 0, 0, 0, 0⟩ ∧ (gtG (onS out out.length) 5 = none ∨ (gtG (onS out out.length) 6 = none ∧ 0 < ws.length))) ∨
    (e = 0 ∧ ∃ t5, gtG (onS out out.length) 5 = some t5 ∧ (gtG (onS out out.length) 6 = none → ws.length = 0) ∧ b = blP c ws t5.v (lvP (onS out out.length)) (lcM c.l en.m (n1.m + c.o) (exc (opS en.m fr out out.length).ex))))
theorem BlR.toF {c : Chr} {ws : List Low} {fr ex : List Fre} {out : List Msg} {n1 en : Msg} {b : Bl} {e : Int} (h : BlR c ws ex (onS out out.length) n1 en b e) (hL : 0 ≤ c.l) (hO : OpOk fr out ex) (g1 : gtG (onS out out.length) 1 = some n1) (g4 : gtG (onS out out.length) 4 = some en) : BlF c ws fr out b e := by
  obtain ⟨_, n1', en', g1', g4', _, rfl⟩ := hO
  rw [g4] at g4'
  simp only [Option.some.injEq] at g4'
  subst g4'
  refine ⟨n1, en, g1, g4, ?_⟩
  rcases h with q | ⟨he, t5, ys, h5, h6, hp, ha, hb⟩
  · exact .inl q
  · refine .inr ⟨he, t5, h5, h6, ?_⟩
    rw [hb, cntP_mn hL ha, exc_same (fun f => hp.mem_iff)]
theorem BiR.ok {c : Chr} {ws : List Low} {fr : List Fre} {l : List Msg} {b : Bl} {e : Int} (h : BiR c ws fr l b e) (h1 : chkCh c ws = 0) (h2 : chkFr fr = 0) (h3 : rdE l = 0) (h4 : NoEd l) (h5 : oneC l = true) :
    ∃ out, RdR l out 0 ∧ ((e ≠ 0 ∧ e = opEB fr out ∧ b = ⟨0, 0, 0, 0, 0, 0⟩) ∨ (opEB fr out = 0 ∧ BlF c ws fr out b e)) := by
  rcases h with ⟨he, hs, hl⟩ | ⟨_, _, _, out, ex, n1, en, hR, hO, g1, g4, hb⟩
  · rcases hs with ⟨q, _⟩ | ⟨_, q, _⟩ | ⟨_, _, _, o, hR⟩ | ⟨_, _, out, hR, ⟨q, _⟩ | ⟨_, hO⟩⟩
    · exact absurd h1 q
    · exact absurd h2 q
    · rcases hR.err with ⟨q, _⟩ | ⟨_, q, _⟩ | ⟨_, _, q⟩
      · exact absurd h3 q
      · exact absurd h4 q
      · exact absurd q he
    · rw [h5] at q; cases q
    · exact ⟨out, hR, .inl ⟨he, hO.eq.1, hl⟩⟩
  · exact ⟨out, hR, .inr ⟨hO.eq, hb.toF (okCh_rng h1).2.2.2.2.1.1.1 hO g1 g4⟩⟩

end Go.Proofs.YtclinbbghnebaaaGreat
namespace Go.Proofs.YtclinbbghnebaaaGreat
open Go Go.RowKit Go.Proofs.Tryz
set_option maxRecDepth 10000
instance : DecidableEq Msg := fun a b => if h : a.c = b.c ∧ a.n = b.n ∧ a.r = b.r ∧ a.k = b.k ∧ a.m = b.m ∧ a.v = b.v then isTrue (Msg.eq6 h) else isFalse (fun e => h (by rw [e]; simp))

def mC : Chr := ⟨1, 2, 3, 850, 1200, 1440, 360, 144000, 0, 5⟩
def mW : List Low := [⟨150, 40⟩, ⟨200, 20⟩]
def mR : List Fre := [⟨500, 560⟩, ⟨1000, 1440⟩]
def mM : List Msg := [⟨0, 4, 0, 6, 0, 180⟩, ⟨0, 3, 0, 5, 0, 1000⟩, ⟨0, 2, 0, 4, 3000, 0⟩, ⟨0, 1, 0, 1, 0, 0⟩]
def mF : List Msg := [⟨0, 1, 0, 1, 0, 0⟩, ⟨0, 3, 0, 5, 0, 1000⟩, ⟨0, 4, 0, 6, 0, 180⟩, ⟨0, 2, 0, 4, 3000, 0⟩]
def mX : Bl := ⟨1020000, 204000, 70000, 0, 61200, 1294000⟩
theorem m_rdE : rdE mM = 0 := by kernel_rfl
theorem m_noEd : NoEd mM := by unfold NoEd edK mM; decide
theorem m_mem (x : Msg) : x ∈ mF ↔ LastIn mM x := by
  constructor
  · intro h
    have : ∀ x ∈ mF, x ∈ mM ∧ x.k ≠ 7 ∧ ∀ m ∈ mM, m.c = x.c → m.n = x.n → m.r ≤ x.r := by decide
    exact this x h
  · rintro ⟨h1, h2, h3⟩
    have : ∀ x ∈ mM, (∀ m ∈ mM, m.c = x.c → m.n = x.n → m.r ≤ x.r) → x ∈ mF := by decide
    exact this x h1 h3
theorem m_facts {out : List Msg} (h : RdR mM out 0) : out = mF :=
  sorted_ext FLt.asym h.spec.2.2.1 (by decide) (fun x => by rw [h.spec.2.2.2, m_mem])
theorem m_op : opEB mR mF = 0 := by kernel_rfl
theorem m_lc : lcM 1440 3000 360 (exc (opS 3000 mR mF mF.length).ex) = ⟨360, 1440, 700, 0⟩ := by
  have e : (opS 3000 mR mF mF.length).ex = mR := by kernel_rfl
  have ha : Asc cmpFr mR := fun i j hij hj => by
    have hj2 : j < 2 := hj
    obtain ⟨rfl, rfl⟩ : i = 0 ∧ j = 1 := by omega
    decide
  rw [e]
  exact (cntP_mn (L := 1440) (en := 3000) (b := 360) (by decide) ha).symm.trans (by kernel_rfl)
theorem m_bi {b : Bl} {e : Int} (h : BiR mC mW mR mM b e) : b = mX ∧ e = 0 := by
  obtain ⟨out, hR, h⟩ := h.ok (by kernel_rfl) (by kernel_rfl) m_rdE m_noEd (by kernel_rfl)
  obtain rfl := m_facts hR
  rcases h with ⟨q, he, _⟩ | ⟨_, n1, en, g1, g4, h⟩
  · rw [m_op] at he; exact absurd he q
  · have e1 : gtG (onS mF mF.length) 1 = some ⟨0, 1, 0, 1, 0, 0⟩ := by kernel_rfl
    have e4 : gtG (onS mF mF.length) 4 = some ⟨0, 2, 0, 4, 3000, 0⟩ := by kernel_rfl
    have e5 : gtG (onS mF mF.length) 5 = some ⟨0, 3, 0, 5, 0, 1000⟩ := by kernel_rfl
    have e6 : gtG (onS mF mF.length) 6 = some ⟨0, 4, 0, 6, 0, 180⟩ := by kernel_rfl
    rw [e1] at g1
    rw [e4] at g4
    simp only [Option.some.injEq] at g1 g4
    subst g1 g4
    rcases h with ⟨_, _, q | ⟨q, _⟩⟩ | ⟨he, t5, g5, _, hb⟩
    · rw [e5] at q; cases q
    · rw [e6] at q; cases q
    · rw [e5] at g5
      simp only [Option.some.injEq] at g5
      subst g5
      refine ⟨hb.trans ?_, he⟩
      rw [show lcM mC.l (3000 : Int) (0 + mC.o) (exc (opS 3000 mR mF mF.length).ex) = ⟨360, 1440, 700, 0⟩ from m_lc]
      kernel_rfl

/-- The messages of a call. -/
def mcL (c r e t l : Int) : List Msg := [⟨c, 4, 0, 6, 0, l⟩, ⟨c, 3, 0, 5, 0, t⟩, ⟨c, 2, 0, 4, e, 0⟩, ⟨c, 1, 0, 1, r, 0⟩]
theorem eqIn28 (n : Nat) (a0 : Int) (a1 : Int) (b0 : Int) (b1 : Int) (w : World) : (Op.equalIn (n + 2) 28 (.agg #[.int .i64 a0, .int .i64 a1]) (.agg #[.int .i64 b0, .int .i64 b1])).run Tryz.prog w = .ok (decide (a0 = b0) && decide (a1 = b1)) w := by
  have hS : Tryz.prog.underlying 28 = some (.struct (Tryz.prog.fieldsOf 28)) := by kernel_rfl
  have hp : Tryz.prog.stoodInHeld 28 = false := by kernel_rfl
  have p0 : ∀ (a0 : Int) (a1 : Int), (part 3 #[.int .i64 a0, .int .i64 a1] 0).run Tryz.prog w = .ok (.int .i64 a0) w := fun _ _ => by simp [part, isAgg3]
  have p1 : ∀ (a0 : Int) (a1 : Int), (part 3 #[.int .i64 a0, .int .i64 a1] 1).run Tryz.prog w = .ok (.int .i64 a1) w := fun _ _ => by simp [part, isAgg3]
  have e3 := fun a b w => equal_i64 underlying3 (n + 0) a b w
  rw [run_equalIn_struct w (n + 1) 28 _ _ hS hp]
  simp only [Program.fieldsOf, underlying28]
  simp only [Op.eqFields, Sem.run_bind, Sem.run_ite, p0, p1, e3, Result.andThen_ok]
  by_cases h0 : a0 = b0 <;> by_cases h1 : a1 = b1 <;> simp [h0, h1]
theorem eqIn243 (n : Nat) (a0 : Int) (a1 : Int) (a2 : Int) (a3 : Int) (a4 : Int) (b0 : Int) (b1 : Int) (b2 : Int) (b3 : Int) (b4 : Int) (w : World) : (Op.equalIn (n + 3) 243 (.agg #[.int .i64 a0, .int .i64 a1, .int .i64 a2, .int .i64 a3, .int .i64 a4]) (.agg #[.int .i64 b0, .int .i64 b1, .int .i64 b2, .int .i64 b3, .int .i64 b4])).run Tryz.prog w = .ok ((decide (a0 = b0) && decide (a1 = b1)) && (decide (a2 = b2) && decide (a3 = b3)) && decide (a4 = b4)) w := by
  have hS : Tryz.prog.underlying 243 = some (.struct (Tryz.prog.fieldsOf 243)) := by kernel_rfl
  have hp : Tryz.prog.stoodInHeld 243 = false := by kernel_rfl
  have p0 : ∀ (a0 : Int) (a1 : Int) (a2 : Int) (a3 : Int) (a4 : Int), (part 28 #[.int .i64 a0, .int .i64 a1, .int .i64 a2, .int .i64 a3, .int .i64 a4] 0).run Tryz.prog w = .ok (.agg #[.int .i64 a0, .int .i64 a1]) w := fun _ _ _ _ _ => by simp [part, isAgg28, sizeOf28]
  have p1 : ∀ (a0 : Int) (a1 : Int) (a2 : Int) (a3 : Int) (a4 : Int), (part 28 #[.int .i64 a0, .int .i64 a1, .int .i64 a2, .int .i64 a3, .int .i64 a4] 2).run Tryz.prog w = .ok (.agg #[.int .i64 a2, .int .i64 a3]) w := fun _ _ _ _ _ => by simp [part, isAgg28, sizeOf28]
  have p2 : ∀ (a0 : Int) (a1 : Int) (a2 : Int) (a3 : Int) (a4 : Int), (part 3 #[.int .i64 a0, .int .i64 a1, .int .i64 a2, .int .i64 a3, .int .i64 a4] 4).run Tryz.prog w = .ok (.int .i64 a4) w := fun _ _ _ _ _ => by simp [part, isAgg3]
  have e3 := fun a b w => equal_i64 underlying3 (n + 1) a b w
  have e28 := eqIn28 (n + 0)
  rw [run_equalIn_struct w (n + 2) 243 _ _ hS hp]
  simp only [Program.fieldsOf, underlying243]
  simp only [Op.eqFields, Sem.run_bind, Sem.run_ite, p0, p1, p2, e3, e28, Result.andThen_ok]
  by_cases h0 : (decide (a0 = b0) && decide (a1 = b1)) = true <;> by_cases h1 : (decide (a2 = b2) && decide (a3 = b3)) = true <;> by_cases h2 : a4 = b4 <;> simp [h0, h1, h2]
theorem eqIn58 (n : Nat) (a0 : Int) (a1 : Int) (a2 : Int) (a3 : Int) (a4 : Int) (a5 : Int) (b0 : Int) (b1 : Int) (b2 : Int) (b3 : Int) (b4 : Int) (b5 : Int) (w : World) : (Op.equalIn (n + 2) 58 (.agg #[.int .i64 a0, .int .i64 a1, .int .i64 a2, .int .i64 a3, .int .i64 a4, .int .i64 a5]) (.agg #[.int .i64 b0, .int .i64 b1, .int .i64 b2, .int .i64 b3, .int .i64 b4, .int .i64 b5])).run Tryz.prog w = .ok (decide (a0 = b0) && decide (a1 = b1) && decide (a2 = b2) && decide (a3 = b3) && decide (a4 = b4) && decide (a5 = b5)) w := by
  have hS : Tryz.prog.underlying 58 = some (.struct (Tryz.prog.fieldsOf 58)) := by kernel_rfl
  have hp : Tryz.prog.stoodInHeld 58 = false := by kernel_rfl
  have p0 : ∀ (a0 : Int) (a1 : Int) (a2 : Int) (a3 : Int) (a4 : Int) (a5 : Int), (part 3 #[.int .i64 a0, .int .i64 a1, .int .i64 a2, .int .i64 a3, .int .i64 a4, .int .i64 a5] 0).run Tryz.prog w = .ok (.int .i64 a0) w := fun _ _ _ _ _ _ => by simp [part, isAgg3]
  have p1 : ∀ (a0 : Int) (a1 : Int) (a2 : Int) (a3 : Int) (a4 : Int) (a5 : Int), (part 3 #[.int .i64 a0, .int .i64 a1, .int .i64 a2, .int .i64 a3, .int .i64 a4, .int .i64 a5] 1).run Tryz.prog w = .ok (.int .i64 a1) w := fun _ _ _ _ _ _ => by simp [part, isAgg3]
  have p2 : ∀ (a0 : Int) (a1 : Int) (a2 : Int) (a3 : Int) (a4 : Int) (a5 : Int), (part 3 #[.int .i64 a0, .int .i64 a1, .int .i64 a2, .int .i64 a3, .int .i64 a4, .int .i64 a5] 2).run Tryz.prog w = .ok (.int .i64 a2) w := fun _ _ _ _ _ _ => by simp [part, isAgg3]
  have p3 : ∀ (a0 : Int) (a1 : Int) (a2 : Int) (a3 : Int) (a4 : Int) (a5 : Int), (part 3 #[.int .i64 a0, .int .i64 a1, .int .i64 a2, .int .i64 a3, .int .i64 a4, .int .i64 a5] 3).run Tryz.prog w = .ok (.int .i64 a3) w := fun _ _ _ _ _ _ => by simp [part, isAgg3]
  have p4 : ∀ (a0 : Int) (a1 : Int) (a2 : Int) (a3 : Int) (a4 : Int) (a5 : Int), (part 3 #[.int .i64 a0, .int .i64 a1, .int .i64 a2, .int .i64 a3, .int .i64 a4, .int .i64 a5] 4).run Tryz.prog w = .ok (.int .i64 a4) w := fun _ _ _ _ _ _ => by simp [part, isAgg3]
  have p5 : ∀ (a0 : Int) (a1 : Int) (a2 : Int) (a3 : Int) (a4 : Int) (a5 : Int), (part 3 #[.int .i64 a0, .int .i64 a1, .int .i64 a2, .int .i64 a3, .int .i64 a4, .int .i64 a5] 5).run Tryz.prog w = .ok (.int .i64 a5) w := fun _ _ _ _ _ _ => by simp [part, isAgg3]
  have e3 := fun a b w => equal_i64 underlying3 (n + 0) a b w
  rw [run_equalIn_struct w (n + 1) 58 _ _ hS hp]
  simp only [Program.fieldsOf, underlying58]
  simp only [Op.eqFields, Sem.run_bind, Sem.run_ite, p0, p1, p2, p3, p4, p5, e3, Result.andThen_ok]
  by_cases h0 : a0 = b0 <;> by_cases h1 : a1 = b1 <;> by_cases h2 : a2 = b2 <;> by_cases h3 : a3 = b3 <;> by_cases h4 : a4 = b4 <;> by_cases h5 : a5 = b5 <;> simp [h0, h1, h2, h3, h4, h5]

theorem moorOne_c (n : Int) (w0 : World) :
    CallsV Tryz.prog 7 [.int .i64 n] w0 (fun v w' => v = .agg #[.int .i64 n, .int .i64 n] ∧ Ext w0 w') := by
 refine f_n func7 ?_
 refine go ?_
 refine x_n fun bk2 w3 ebk2 sbk2 B4 u5 => ?_
 refine go ?_
 refine x_s fun w8 sw8 B10 u9 => ?_
 refine go ?_
 refine f_ret1 (v := .agg #[.int .i64 n, .int .i64 n]) results7 ⟨_, _, rfl, run_loadVarN (vs := [.int .i64 n, .int .i64 n]) isAgg28 sizeOf28 rfl (B10.at.sub 0 2)⟩ ?_
 exact ⟨rfl, u_d⟩

theorem moorCall_c (c r e t l : Int) (w0 : World) :
    CallsV Tryz.prog 13 [.int .i64 c, .int .i64 r, .int .i64 e, .int .i64 t, .int .i64 l] w0 (fun v w' => (∃ g, v = .slice (some ⟨g, 0, none⟩) (mcL c r e t l).length 4 ∧ w0.heap.size ≤ g ∧ Sl encMsg 6 w' (some ⟨g, 0, none⟩) g 0 (mcL c r e t l)) ∧ Ext w0 w') := by
 refine f_n func13 ?_
 refine go ?_
 refine x_l fun bk3 w4 ebk3 sbk3 B5 u6 => ?_
 refine go ?_
 refine f_1 results13 ?_
 exact ⟨⟨bk3, rfl, by omega, Sl.ofBlk (enc := encMsg) (xs := mcL c r e t l) (fun _ => rfl) B5⟩, u_d⟩

set_option maxHeartbeats 4000000 in
theorem moorPays_c  (w0 : World) :
    CallsV Tryz.prog 15 [] w0 (fun v w' => v = .bool true ∧ Ext w0 w') := by
 refine f_n func15 ?_
 refine go ?_
 refine x_l fun bk3 w4 ebk3 sbk3 B5 u6 => ?_
 refine go ?_
 refine x_n fun bk8 w9 ebk8 sbk8 B10 u11 => ?_
 refine x_s fun w13 sw13 B15 u14 => ?_
 refine go ?_
 refine c_drawnM follows (fun _ => False) (.look 0 (.look 1 (.look 2 (.act 3 (.act 4 (.act 5 (.look 6 (.look 7 (.look 8 (.act 9 (.act 10 (.look 11 .done) .stop) .stop)))) (.act 9 (.act 5 (.look 6 (.look 7 (.look 8 (.act 10 (.look 11 .done) .stop)))) .stop) .stop)) (.act 9 (.act 4 (.act 5 (.look 6 (.look 7 (.look 8 (.act 10 (.look 11 .done) .stop)))) .stop) .stop) .stop)) (.act 4 (.act 3 (.act 5 (.look 6 (.look 7 (.look 8 (.act 9 (.act 10 (.look 11 .done) .stop) .stop)))) (.act 9 (.act 5 (.look 6 (.look 7 (.look 8 (.act 10 (.look 11 .done) .stop)))) .stop) .stop)) (.act 9 (.act 3 (.act 5 (.look 6 (.look 7 (.look 8 (.act 10 (.look 11 .done) .stop)))) .stop) .stop) .stop)) (.act 9 (.act 3 (.act 4 (.act 5 (.look 6 (.look 7 (.look 8 (.act 10 (.look 11 .done) .stop)))) .stop) .stop) (.act 4 (.act 3 (.act 5 (.look 6 (.look 7 (.look 8 (.act 10 (.look 11 .done) .stop)))) .stop) .stop) .stop)) .stop)))))) (by kernel_rfl) fun w18 u19 => ?_
 have zu19 := u19.size
 refine go ?_
 refine s_or ?_ ?_
 ·
  refine go ?_
  refine x_l fun bk21 w22 ebk21 sbk21 B23 u24 => ?_
  refine go ?_
  refine s_or ?_ ?_
  ·
   refine go ?_
   refine x_c func13 rfl rfl (moorCall_c 0 0 3000 1000 180 _) ?_
   rintro _ w28 ⟨⟨gM26, rfl, hgM26, hM26⟩, u29⟩ zu29
   have hgM26l := hM26.lt (by decide)
   refine go ?_
   refine s_or ?_ ?_
   ·
    refine go ?_
    have B32 := (((((B5.kx u11).keep u14 (by omega)).kx u19).kx u24).kx u29)
    have B33 := (B23.kx u29)
    refine x_c func14 rfl rfl (Bill_c mC mW (some ⟨bk3, 0, none⟩) bk3 0 2 mR (some ⟨bk21, 0, none⟩) bk21 0 2 mM (some ⟨gM26, 0, none⟩) gM26 0 4 _ (Sl.ofBlk (enc := encLow) (xs := mW) (fun _ => rfl) B32) (by decide) (Sl.ofBlk (enc := encFre) (xs := mR) (fun _ => rfl) B33) (by decide) hM26 (by decide) (by omega)) ?_
    rintro _ w35 ⟨⟨bB, eB, rfl, hRb⟩, u36⟩ zu36
    obtain ⟨rfl, rfl⟩ := m_bi hRb
    refine go ?_
    refine x_n fun bk39 w40 ebk39 sbk39 B41 u42 => ?_
    refine go ?_
    refine x_s fun w44 sw44 B46 u45 => ?_
    refine go ?_
    refine t_eqS (xs := [.int .i64 1020000, .int .i64 204000, .int .i64 70000, .int .i64 0, .int .i64 61200, .int .i64 1294000]) (ys := [.int .i64 1020000, .int .i64 204000, .int .i64 70000, .int .i64 0, .int .i64 61200, .int .i64 1294000]) (by kernel_rfl) (eqIn58 9998 1020000 204000 70000 0 61200 1294000 1020000 204000 70000 0 61200 1294000) rfl rfl rfl rfl (t_samehd (v := .bool true) rfl ?_)
    refine go ?_
    refine f_1 results15 ?_
    exact ⟨rfl, u_d⟩
   refine go ?_
   refine x_n fun bk49 w50 ebk49 sbk49 B51 u52 => ?_
   refine go ?_
   have B54 := ((((((B5.kx u11).keep u14 (by omega)).kx u19).kx u24).kx u29).kx u52)
   have B55 := ((B23.kx u29).kx u52)
   have D56 := (hM26.keep u52 (fun _ h => h))
   refine x_c func14 rfl rfl (Bill_c mC mW (some ⟨bk3, 0, none⟩) bk3 0 2 mR (some ⟨bk21, 0, none⟩) bk21 0 2 mM (some ⟨gM26, 0, none⟩) gM26 0 4 _ (Sl.ofBlk (enc := encLow) (xs := mW) (fun _ => rfl) B54) (by decide) (Sl.ofBlk (enc := encFre) (xs := mR) (fun _ => rfl) B55) (by decide) D56 (by decide) (by omega)) ?_
   rintro _ w58 ⟨⟨bB, eB, rfl, hRb⟩, u59⟩ zu59
   obtain ⟨rfl, rfl⟩ := m_bi hRb
   refine go ?_
   refine x_s fun w62 sw62 B64 u63 => ?_
   refine go ?_
   refine t_eqS (xs := [.int .i64 1020000, .int .i64 204000, .int .i64 70000, .int .i64 0, .int .i64 61200, .int .i64 1294000]) (ys := [.int .i64 1020000, .int .i64 204000, .int .i64 70000, .int .i64 0, .int .i64 61200, .int .i64 1294000]) (by kernel_rfl) (eqIn58 9998 1020000 204000 70000 0 61200 1294000 1020000 204000 70000 0 61200 1294000) rfl rfl rfl rfl (t_samehd (v := .bool true) rfl ?_)
   refine go ?_
   refine f_1 results15 ?_
   exact ⟨rfl, u_d⟩
  refine go ?_
  refine x_n fun bk67 w68 ebk67 sbk67 B69 u70 => ?_
  refine go ?_
  refine x_c func13 rfl rfl (moorCall_c 0 0 3000 1000 180 _) ?_
  rintro _ w74 ⟨⟨gM72, rfl, hgM72, hM72⟩, u75⟩ zu75
  have hgM72l := hM72.lt (by decide)
  refine go ?_
  have B78 := ((((((B5.kx u11).keep u14 (by omega)).kx u19).kx u24).kx u70).kx u75)
  have B79 := ((B23.kx u70).kx u75)
  refine x_c func14 rfl rfl (Bill_c mC mW (some ⟨bk3, 0, none⟩) bk3 0 2 mR (some ⟨bk21, 0, none⟩) bk21 0 2 mM (some ⟨gM72, 0, none⟩) gM72 0 4 _ (Sl.ofBlk (enc := encLow) (xs := mW) (fun _ => rfl) B78) (by decide) (Sl.ofBlk (enc := encFre) (xs := mR) (fun _ => rfl) B79) (by decide) hM72 (by decide) (by omega)) ?_
  rintro _ w81 ⟨⟨bB, eB, rfl, hRb⟩, u82⟩ zu82
  obtain ⟨rfl, rfl⟩ := m_bi hRb
  refine go ?_
  refine x_s fun w85 sw85 B87 u86 => ?_
  refine go ?_
  refine t_eqS (xs := [.int .i64 1020000, .int .i64 204000, .int .i64 70000, .int .i64 0, .int .i64 61200, .int .i64 1294000]) (ys := [.int .i64 1020000, .int .i64 204000, .int .i64 70000, .int .i64 0, .int .i64 61200, .int .i64 1294000]) (by kernel_rfl) (eqIn58 9998 1020000 204000 70000 0 61200 1294000 1020000 204000 70000 0 61200 1294000) rfl rfl rfl rfl (t_samehd (v := .bool true) rfl ?_)
  refine go ?_
  refine f_1 results15 ?_
  exact ⟨rfl, u_d⟩
 refine s_or ?_ ?_
 ·
  refine go ?_
  refine x_c func13 rfl rfl (moorCall_c 0 0 3000 1000 180 _) ?_
  rintro _ w92 ⟨⟨gM90, rfl, hgM90, hM90⟩, u93⟩ zu93
  have hgM90l := hM90.lt (by decide)
  refine go ?_
  refine s_or ?_ ?_
  ·
   refine go ?_
   refine x_l fun bk96 w97 ebk96 sbk96 B98 u99 => ?_
   refine go ?_
   refine s_or ?_ ?_
   ·
    refine go ?_
    have B101 := (((((B5.kx u11).keep u14 (by omega)).kx u19).kx u93).kx u99)
    have D102 := (hM90.keep u99 (fun _ h => h))
    refine x_c func14 rfl rfl (Bill_c mC mW (some ⟨bk3, 0, none⟩) bk3 0 2 mR (some ⟨bk96, 0, none⟩) bk96 0 2 mM (some ⟨gM90, 0, none⟩) gM90 0 4 _ (Sl.ofBlk (enc := encLow) (xs := mW) (fun _ => rfl) B101) (by decide) (Sl.ofBlk (enc := encFre) (xs := mR) (fun _ => rfl) B98) (by decide) D102 (by decide) (by omega)) ?_
    rintro _ w104 ⟨⟨bB, eB, rfl, hRb⟩, u105⟩ zu105
    obtain ⟨rfl, rfl⟩ := m_bi hRb
    refine go ?_
    refine x_n fun bk108 w109 ebk108 sbk108 B110 u111 => ?_
    refine go ?_
    refine x_s fun w113 sw113 B115 u114 => ?_
    refine go ?_
    refine t_eqS (xs := [.int .i64 1020000, .int .i64 204000, .int .i64 70000, .int .i64 0, .int .i64 61200, .int .i64 1294000]) (ys := [.int .i64 1020000, .int .i64 204000, .int .i64 70000, .int .i64 0, .int .i64 61200, .int .i64 1294000]) (by kernel_rfl) (eqIn58 9998 1020000 204000 70000 0 61200 1294000 1020000 204000 70000 0 61200 1294000) rfl rfl rfl rfl (t_samehd (v := .bool true) rfl ?_)
    refine go ?_
    refine f_1 results15 ?_
    exact ⟨rfl, u_d⟩
   refine go ?_
   refine x_n fun bk118 w119 ebk118 sbk118 B120 u121 => ?_
   refine go ?_
   have B123 := ((((((B5.kx u11).keep u14 (by omega)).kx u19).kx u93).kx u99).kx u121)
   have B124 := (B98.kx u121)
   have D125 := ((hM90.keep u99 (fun _ h => h)).keep u121 (fun _ h => h))
   refine x_c func14 rfl rfl (Bill_c mC mW (some ⟨bk3, 0, none⟩) bk3 0 2 mR (some ⟨bk96, 0, none⟩) bk96 0 2 mM (some ⟨gM90, 0, none⟩) gM90 0 4 _ (Sl.ofBlk (enc := encLow) (xs := mW) (fun _ => rfl) B123) (by decide) (Sl.ofBlk (enc := encFre) (xs := mR) (fun _ => rfl) B124) (by decide) D125 (by decide) (by omega)) ?_
   rintro _ w127 ⟨⟨bB, eB, rfl, hRb⟩, u128⟩ zu128
   obtain ⟨rfl, rfl⟩ := m_bi hRb
   refine go ?_
   refine x_s fun w131 sw131 B133 u132 => ?_
   refine go ?_
   refine t_eqS (xs := [.int .i64 1020000, .int .i64 204000, .int .i64 70000, .int .i64 0, .int .i64 61200, .int .i64 1294000]) (ys := [.int .i64 1020000, .int .i64 204000, .int .i64 70000, .int .i64 0, .int .i64 61200, .int .i64 1294000]) (by kernel_rfl) (eqIn58 9998 1020000 204000 70000 0 61200 1294000 1020000 204000 70000 0 61200 1294000) rfl rfl rfl rfl (t_samehd (v := .bool true) rfl ?_)
   refine go ?_
   refine f_1 results15 ?_
   exact ⟨rfl, u_d⟩
  refine go ?_
  refine x_n fun bk136 w137 ebk136 sbk136 B138 u139 => ?_
  refine go ?_
  refine x_l fun bk141 w142 ebk141 sbk141 B143 u144 => ?_
  refine go ?_
  have B146 := ((((((B5.kx u11).keep u14 (by omega)).kx u19).kx u93).kx u139).kx u144)
  have D147 := ((hM90.keep u139 (fun _ h => h)).keep u144 (fun _ h => h))
  refine x_c func14 rfl rfl (Bill_c mC mW (some ⟨bk3, 0, none⟩) bk3 0 2 mR (some ⟨bk141, 0, none⟩) bk141 0 2 mM (some ⟨gM90, 0, none⟩) gM90 0 4 _ (Sl.ofBlk (enc := encLow) (xs := mW) (fun _ => rfl) B146) (by decide) (Sl.ofBlk (enc := encFre) (xs := mR) (fun _ => rfl) B143) (by decide) D147 (by decide) (by omega)) ?_
  rintro _ w149 ⟨⟨bB, eB, rfl, hRb⟩, u150⟩ zu150
  obtain ⟨rfl, rfl⟩ := m_bi hRb
  refine go ?_
  refine x_s fun w153 sw153 B155 u154 => ?_
  refine go ?_
  refine t_eqS (xs := [.int .i64 1020000, .int .i64 204000, .int .i64 70000, .int .i64 0, .int .i64 61200, .int .i64 1294000]) (ys := [.int .i64 1020000, .int .i64 204000, .int .i64 70000, .int .i64 0, .int .i64 61200, .int .i64 1294000]) (by kernel_rfl) (eqIn58 9998 1020000 204000 70000 0 61200 1294000 1020000 204000 70000 0 61200 1294000) rfl rfl rfl rfl (t_samehd (v := .bool true) rfl ?_)
  refine go ?_
  refine f_1 results15 ?_
  exact ⟨rfl, u_d⟩
 refine go ?_
 refine x_n fun bk158 w159 ebk158 sbk158 B160 u161 => ?_
 refine go ?_
 refine s_or ?_ ?_
 ·
  refine go ?_
  refine x_l fun bk163 w164 ebk163 sbk163 B165 u166 => ?_
  refine go ?_
  refine x_c func13 rfl rfl (moorCall_c 0 0 3000 1000 180 _) ?_
  rintro _ w170 ⟨⟨gM168, rfl, hgM168, hM168⟩, u171⟩ zu171
  have hgM168l := hM168.lt (by decide)
  refine go ?_
  have B174 := ((((((B5.kx u11).keep u14 (by omega)).kx u19).kx u161).kx u166).kx u171)
  have B175 := (B165.kx u171)
  refine x_c func14 rfl rfl (Bill_c mC mW (some ⟨bk3, 0, none⟩) bk3 0 2 mR (some ⟨bk163, 0, none⟩) bk163 0 2 mM (some ⟨gM168, 0, none⟩) gM168 0 4 _ (Sl.ofBlk (enc := encLow) (xs := mW) (fun _ => rfl) B174) (by decide) (Sl.ofBlk (enc := encFre) (xs := mR) (fun _ => rfl) B175) (by decide) hM168 (by decide) (by omega)) ?_
  rintro _ w177 ⟨⟨bB, eB, rfl, hRb⟩, u178⟩ zu178
  obtain ⟨rfl, rfl⟩ := m_bi hRb
  refine go ?_
  refine x_s fun w181 sw181 B183 u182 => ?_
  refine go ?_
  refine t_eqS (xs := [.int .i64 1020000, .int .i64 204000, .int .i64 70000, .int .i64 0, .int .i64 61200, .int .i64 1294000]) (ys := [.int .i64 1020000, .int .i64 204000, .int .i64 70000, .int .i64 0, .int .i64 61200, .int .i64 1294000]) (by kernel_rfl) (eqIn58 9998 1020000 204000 70000 0 61200 1294000 1020000 204000 70000 0 61200 1294000) rfl rfl rfl rfl (t_samehd (v := .bool true) rfl ?_)
  refine go ?_
  refine f_1 results15 ?_
  exact ⟨rfl, u_d⟩
 refine go ?_
 refine x_c func13 rfl rfl (moorCall_c 0 0 3000 1000 180 _) ?_
 rintro _ w188 ⟨⟨gM186, rfl, hgM186, hM186⟩, u189⟩ zu189
 have hgM186l := hM186.lt (by decide)
 refine go ?_
 refine x_l fun bk192 w193 ebk192 sbk192 B194 u195 => ?_
 refine go ?_
 have B197 := ((((((B5.kx u11).keep u14 (by omega)).kx u19).kx u161).kx u189).kx u195)
 have D198 := (hM186.keep u195 (fun _ h => h))
 refine x_c func14 rfl rfl (Bill_c mC mW (some ⟨bk3, 0, none⟩) bk3 0 2 mR (some ⟨bk192, 0, none⟩) bk192 0 2 mM (some ⟨gM186, 0, none⟩) gM186 0 4 _ (Sl.ofBlk (enc := encLow) (xs := mW) (fun _ => rfl) B197) (by decide) (Sl.ofBlk (enc := encFre) (xs := mR) (fun _ => rfl) B194) (by decide) D198 (by decide) (by omega)) ?_
 rintro _ w200 ⟨⟨bB, eB, rfl, hRb⟩, u201⟩ zu201
 obtain ⟨rfl, rfl⟩ := m_bi hRb
 refine go ?_
 refine x_s fun w204 sw204 B206 u205 => ?_
 refine go ?_
 refine t_eqS (xs := [.int .i64 1020000, .int .i64 204000, .int .i64 70000, .int .i64 0, .int .i64 61200, .int .i64 1294000]) (ys := [.int .i64 1020000, .int .i64 204000, .int .i64 70000, .int .i64 0, .int .i64 61200, .int .i64 1294000]) (by kernel_rfl) (eqIn58 9998 1020000 204000 70000 0 61200 1294000 1020000 204000 70000 0 61200 1294000) rfl rfl rfl rfl (t_samehd (v := .bool true) rfl ?_)
 refine go ?_
 refine f_1 results15 ?_
 exact ⟨rfl, u_d⟩

end Go.Proofs.YtclinbbghnebaaaGreat
namespace Go.Proofs.YtclinbbghnebaaaGreat
open Go Go.RowKit Go.Proofs.Tryz
set_option maxRecDepth 10000

def vyA (a s : Int) : Voy := ⟨⟨a, a⟩, [⟨0, 100, ⟨s, s⟩, ⟨0, 0⟩⟩], 100, 10⟩
def vyB (b r : Int) : Voy := ⟨⟨b, b⟩, [⟨100, 0, ⟨r, r⟩, ⟨0, 0⟩⟩], 100, 10⟩
def nrN (n : Int) : Nar := ⟨40, n, 50, true⟩
theorem tak_90 {w s : Int} (hw : -100 ≤ w ∧ w ≤ 100) (hs : 30 ≤ s ∧ s ≤ 89) : 0 ≤ tak w s ∧ tak w s ≤ 200 := by
  unfold tak
  refine ⟨Int.ediv_nonneg (by omega) (by omega), ?_⟩
  have : (60 * max w (-w) + s - 1) / s < 201 := Int.ediv_lt_of_lt_mul (by omega) (by omega)
  omega
theorem tak_pos {w s : Int} (hw : w ≠ 0) (hs : 30 ≤ s) : 1 ≤ tak w s := by
  unfold tak
  exact Int.le_ediv_of_mul_le (by omega) (by omega)
theorem okA {a s : Int} (ha : 0 ≤ a ∧ a ≤ 100000) (hs : 30 ≤ s ∧ s ≤ 89) : okVoy (vyA a s) = true := by
  unfold okVoy
  rw [Bool.and_eq_true]
  constructor
  · unfold okVoy0 vyA
    rw [decide_eq_true_eq]
    dsimp only
    rw [List.length_singleton]
    omega
  · show (okRun 0 (sgn 0 100) ⟨0, 100, ⟨s, s⟩, ⟨0, 0⟩⟩ && true) = true
    rw [Bool.and_true]
    unfold okRun
    rw [decide_eq_true_eq]
    dsimp only
    exact ⟨⟨by omega, by omega⟩, rfl, by omega, rfl, ⟨Int.le_refl _, by omega, by omega⟩, Int.le_refl _, by omega, by omega⟩
theorem okB {b r : Int} (hb : 0 ≤ b ∧ b ≤ 100000) (hr : 30 ≤ r ∧ r ≤ 89) : okVoy (vyB b r) = true := by
  unfold okVoy
  rw [Bool.and_eq_true]
  constructor
  · unfold okVoy0 vyB
    rw [decide_eq_true_eq]
    dsimp only
    rw [List.length_singleton]
    omega
  · show (okRun 100 (sgn 100 0) ⟨100, 0, ⟨r, r⟩, ⟨0, 0⟩⟩ && true) = true
    rw [Bool.and_true]
    unfold okRun
    rw [decide_eq_true_eq]
    dsimp only
    exact ⟨⟨by omega, by omega⟩, rfl, by omega, rfl, ⟨Int.le_refl _, by omega, by omega⟩, Int.le_refl _, by omega, by omega⟩
/-- Where a voyage of one run is on its way. -/
theorem arr_one {m p f s q l wd : Int} (h : q ≠ p) (h2 : max (q - p) (-(q - p)) < max (f - p) (-(f - p)) ∨ q = f) : arr ⟨⟨m, m⟩, [⟨p, f, ⟨s, s⟩, ⟨0, 0⟩⟩], l, wd⟩ q = ⟨m + tak (q - p) s, m + tak (q - p) s⟩ := by
  have w : wayTo ⟨p, f, ⟨s, s⟩, ⟨0, 0⟩⟩ q = q - p := by
    unfold wayTo
    dsimp only
    split
    · rfl
    · rcases h2 with h2 | h2
      · omega
      · omega
  show arrGo q [⟨p, f, ⟨s, s⟩, ⟨0, 0⟩⟩] ⟨m, m⟩ = _
  simp only [arrGo, w]
  rw [if_neg (fun e => h e.symm), if_pos (by omega)]
  simp
theorem tailA (a s : Int) : tail (vyA a s) = 1 := by kernel_rfl
theorem tailB (b r : Int) : tail (vyB b r) = 1 := by kernel_rfl
theorem thrA {a s n : Int} (hn : 41 ≤ n ∧ n ≤ 60) : thrE (vyA a s) (nrN n) = 0 ∧ thrS (vyA a s) (nrN n) = ⟨⟨a + tak 40 s, a + tak 40 s⟩, ⟨a + tak (n + 1) s, a + tak (n + 1) s⟩, true⟩ := by
  have e1 : near (vyA a s) (nrN n) = true := by
    show (if (100 : Int) < 0 then nearU (vyA a s) (nrN n) else (decide ((0 : Int) < n + tail (vyA a s)) && decide ((40 : Int) < 100))) = true
    rw [if_neg (by decide), tailA, decide_eq_true (show (0 : Int) < n + 1 by omega)]
    rfl
  have e2 : entP (vyA a s) (nrN n) = 40 := rfl
  have e3 : leaP (vyA a s) (nrN n) = n + 1 := by
    show n + tail (vyA a s) = n + 1
    rw [tailA]
  have e4 : onWay (vyA a s) [40, n + 1] = true := by
    unfold onWay
    rw [decide_eq_true_eq]
    intro k hk
    show min (0 : Int) 100 ≤ k ∧ k ≤ max (0 : Int) 100
    rcases List.mem_cons.1 hk with h | h
    · omega
    · rw [List.mem_singleton.1 h]; omega
  unfold thrE thrS
  rw [e1, e2, e3, e4]
  refine ⟨rfl, ?_⟩
  rw [show arr (vyA a s) 40 = ⟨a + tak (40 - 0) s, a + tak (40 - 0) s⟩ from arr_one (by decide) (.inl (by decide)), show arr (vyA a s) (n + 1) = ⟨a + tak (n + 1 - 0) s, a + tak (n + 1 - 0) s⟩ from arr_one (by omega) (.inl (by omega))]
  rw [Int.sub_zero, Int.sub_zero]
  rfl
theorem thrB {b r n : Int} (hn : 41 ≤ n ∧ n ≤ 60) : thrE (vyB b r) (nrN n) = 0 ∧ thrS (vyB b r) (nrN n) = ⟨⟨b + tak (n - 100) r, b + tak (n - 100) r⟩, ⟨b + tak (39 - 100) r, b + tak (39 - 100) r⟩, true⟩ := by
  have e1 : near (vyB b r) (nrN n) = true := by
    show (if (0 : Int) < 100 then (decide ((40 : Int) - tail (vyB b r) < 100) && decide ((0 : Int) < n)) else nearD (vyB b r) (nrN n)) = true
    rw [if_pos (by decide), tailB, decide_eq_true (show (0 : Int) < n by omega)]
    rfl
  have e2 : entP (vyB b r) (nrN n) = n := rfl
  have e3 : leaP (vyB b r) (nrN n) = 39 := by
    show (40 : Int) - tail (vyB b r) = 39
    rw [tailB]
    rfl
  have e4 : onWay (vyB b r) [n, 39] = true := by
    unfold onWay
    rw [decide_eq_true_eq]
    intro k hk
    show min (100 : Int) 0 ≤ k ∧ k ≤ max (100 : Int) 0
    rcases List.mem_cons.1 hk with h | h
    · omega
    · rw [List.mem_singleton.1 h]; omega
  unfold thrE thrS
  rw [e1, e2, e3, e4]
  refine ⟨rfl, ?_⟩
  rw [show arr (vyB b r) n = ⟨b + tak (n - 100) r, b + tak (n - 100) r⟩ from arr_one (by omega) (.inl (by omega)), show arr (vyB b r) 39 = ⟨b + tak (39 - 100) r, b + tak (39 - 100) r⟩ from arr_one (by decide) (.inl (by decide))]
  rfl
theorem arrB0 {b r : Int} (hb : 0 ≤ b ∧ b ≤ 100000) (hr : 30 ≤ r ∧ r ≤ 89) : ArrE (vyB b r) 0 = 0 ∧ ArrB (vyB b r) 0 = ⟨b + tak (-100) r, b + tak (-100) r⟩ := by
  have h1 := okB hb hr
  have h2 : onWay (vyB b r) [0] = true := by kernel_rfl
  unfold ArrE ArrB
  rw [if_pos h1, if_pos h2, if_pos h1, if_pos h2]
  exact ⟨rfl, arr_one (by decide) (.inr rfl)⟩
theorem nr_ok {n : Int} (hn : 41 ≤ n ∧ n ≤ 60) : okNar (nrN n) = true := by
  unfold okNar nrN
  rw [decide_eq_true_eq]
  dsimp only
  omega
theorem openK {a s b r n : Int} (ha : 0 ≤ a ∧ a ≤ 100000) (hs : 30 ≤ s ∧ s ≤ 89) (hb : 0 ≤ b ∧ b ≤ 100000) (hr : 30 ≤ r ∧ r ≤ 89) (hn : 41 ≤ n ∧ n ≤ 60) : OpenE [vyA a s, vyB b r] [nrN n] = 0 := by
  unfold OpenE
  rw [if_neg (by simp)]
  have h1 : (([vyA a s, vyB b r].any fun v => decide (chk v ≠ 0)) || ([nrN n].any fun n => !okNar n)) = false := by
    simp [chk, okA ha hs, okB hb hr, nr_ok hn]
  rw [h1]
  simp [opE2, opE1, (thrA (a := a) (s := s) hn).1, (thrB (b := b) (r := r) hn).1]
/-- The holds that the first voyage closes to the second. -/
def clK (a s b r n : Int) : Bnd := ⟨a + tak 40 s - (b + tak (39 - 100) r), a + tak (n + 1) s - (b + tak (n - 100) r)⟩
theorem clK_rng {a s b r n : Int} (ha : 0 ≤ a ∧ a ≤ 255) (hs : 30 ≤ s ∧ s ≤ 89) (hb : 0 ≤ b ∧ b ≤ 255) (hr : 30 ≤ r ∧ r ≤ 89) (hn : 41 ≤ n ∧ n ≤ 60) : (clK a s b r n).hi ≤ 455 := by
  have h1 := tak_90 (w := n + 1) (by omega) hs
  have h2 := tak_90 (w := n - 100) (by omega) hr
  show a + tak (n + 1) s - (b + tak (n - 100) r) ≤ 455
  omega
theorem hold_le {B : Bnd} {h m : Int} (hm : 0 ≤ m) (q : HoldR [B] h) (hB : B.hi ≤ m) : 0 ≤ h ∧ h ≤ m + 1 := by
  refine ⟨q.1, ?_⟩
  rcases Int.lt_or_le (m + 1) h with c | c
  · obtain ⟨x, hx, hc⟩ := q.2.2 (m + 1) (by omega) c
    rw [List.mem_singleton.1 hx] at hc
    omega
  · exact c
theorem hold_nil {h : Int} (q : HoldR [] h) : h = 0 := by
  rcases Int.lt_or_le 0 h with c | c
  · obtain ⟨x, hx, _⟩ := q.2.2 0 (Int.le_refl _) c
    cases hx
  · have := q.1; omega
/-- The holds of two voyages that meet in one narrow. -/
theorem seq_two {vs : List HVoy} {rows : List HSt} {a s b r n : Int} (hv : vs.map HVoy.v = [vyA a s, vyB b r]) (hn : 41 ≤ n ∧ n ≤ 60) (hr : rows.map (·.ss) = vs.map (fun h => [nrN n].map (thrS h.v))) (ls : List Int) :
    clL vs [nrN n] rows ls (nth (ordL vs.length) 0).toNat ((ordL vs.length).take 0) = [] ∧ (nth ls 0 = 0 → clL vs [nrN n] rows ls (nth (ordL vs.length) 1).toNat ((ordL vs.length).take 1) = [clK a s b r n]) := by
  refine ⟨rfl, fun h0 => ?_⟩
  match vs, hv, rows, hr with
  | [x, y], hv, [u, v], hr =>
    simp only [List.map_cons, List.map_nil, List.cons.injEq, and_true] at hv hr
    obtain ⟨h1, h2⟩ := hv
    obtain ⟨h3, h4⟩ := hr
    rw [h1, (thrA hn).2] at h3
    rw [h2, (thrB hn).2] at h4
    have e1 : nth (ordL [x, y].length) 1 = 1 := rfl
    have e2 : (ordL [x, y].length).take 1 = [0] := rfl
    have e3 : nth [u, v] 0 = u := rfl
    have e4 : nth [u, v] 1 = v := rfl
    have e5 : nth [x, y] 0 = x := rfl
    have e6 : nth [x, y] 1 = y := rfl
    rw [e1, e2]
    have hb : barB [x, y] [nrN n] [u, v] 1 0 0 = true := by
      unfold barB
      rw [e3, e4, h3, h4]
      rfl
    show ((List.range 1).filter (barB [x, y] [nrN n] [u, v] 1 0)).map (clB [u, v] ls 1 0) ++ [] = _
    rw [show List.range 1 = [0] from rfl, List.filter_cons_of_pos hb]
    simp only [List.filter_nil, List.map_cons, List.map_nil, List.append_nil]
    unfold clB clK
    rw [e3, e4, h3, h4, h0]
    simp [nth]
  | [], hv, _, _ => cases hv
  | [_], hv, _, _ => simp at hv
  | _ :: _ :: _ :: _, hv, _, _ => simp at hv
  | [_, _], _, [], hr => simp at hr
  | [_, _], _, [_], hr => simp at hr
  | [_, _], _, _ :: _ :: _ :: _, hr => simp at hr
/-- The second voyage held back meets the first no more. -/
theorem conf_held {a s b r n h : Int} (hn : 41 ≤ n ∧ n ≤ 60) (q : HoldR [clK a s b r n] h) : confL [vyA a s, vyB (b + h) r] [nrN n] = [] := by
  have hq := q.2.1 _ (List.mem_singleton.2 rfl)
  have hb : barsV (vyA a s) (vyB (b + h) r) (nrN n) = false := by
    unfold barsV mayB
    rw [(thrA hn).2, (thrB hn).2]
    dsimp only
    have h2 : ¬ (a + tak 40 s - (b + tak (39 - 100) r) ≤ h ∧ h ≤ a + tak (n + 1) s - (b + tak (n - 100) r)) := hq
    by_cases c : a + tak 40 s ≤ b + h + tak (39 - 100) r
    · rw [decide_eq_false (p := b + h + tak (n - 100) r ≤ a + tak (n + 1) s) (by omega)]
      simp
    · rw [decide_eq_false (p := a + tak 40 s ≤ b + h + tak (39 - 100) r) c]
      simp
  show confS [vyA a s, vyB (b + h) r] [nrN n] 0 1 ++ [] ++ ([] ++ []) = []
  unfold confS
  rw [show List.range [nrN n].length = [0] from rfl, List.filter_cons_of_neg (by rw [show barsV (nth [vyA a s, vyB (b + h) r] 0) (nth [vyA a s, vyB (b + h) r] 1) (nth [nrN n] 0) = false from hb]; exact Bool.false_ne_true)]
  rfl
-- a call of four messages, none of them late
def mcF (r e t l : Int) : List Msg := [⟨0, 3, 0, 5, 0, t⟩, ⟨0, 4, 0, 6, 0, l⟩, ⟨0, 1, 0, 1, r, 0⟩, ⟨0, 2, 0, 4, e, 0⟩]
structure McOk (r e t l : Int) : Prop where
  pr : 0 < r
  pe : r ≤ e ∧ e ≤ 100000
  pt : 0 ≤ t ∧ t ≤ 1000000
  pl : 0 ≤ l ∧ l ≤ 1000000
theorem mc_rdE {r e t l : Int} (h : McOk r e t l) : rdE (mcL 0 r e t l) = 0 := by
  have h1 := h.pr; have h2 := h.pe; have h3 := h.pt; have h4 := h.pl
  unfold rdE
  rw [if_neg (by simp [mcL]), if_neg]
  rw [Bool.not_eq_true, List.any_eq_false]
  intro m hm
  simp only [mcL, List.mem_cons, List.not_mem_nil, or_false] at hm
  have : okMsg m = true := by
    unfold okMsg
    rw [decide_eq_true_eq]
    rcases hm with rfl | rfl | rfl | rfl <;> dsimp only <;> omega
  rw [this]; decide
theorem mc_in {r e t l : Int} {x : Msg} (h : x ∈ mcL 0 r e t l) : x = ⟨0, 4, 0, 6, 0, l⟩ ∨ x = ⟨0, 3, 0, 5, 0, t⟩ ∨ x = ⟨0, 2, 0, 4, e, 0⟩ ∨ x = ⟨0, 1, 0, 1, r, 0⟩ := by
  simpa [mcL] using h
theorem mc_noEd {r e t l : Int} : NoEd (mcL 0 r e t l) := by
  intro a ha b hb hk
  have hn : a.n = b.n := congrArg (fun z : Int × Int × Int => z.2.1) hk
  rcases mc_in ha with rfl | rfl | rfl | rfl <;> rcases mc_in hb with rfl | rfl | rfl | rfl <;> first | rfl | (exfalso; revert hn; simp)
theorem mc_facts {r e t l : Int} {out : List Msg} (q : McOk r e t l) (h : RdR (mcL 0 r e t l) out 0) : out = mcF r e t l := by
  have h1 := q.pr; have h2 := q.pe
  refine sorted_ext FLt.asym h.spec.2.2.1 ?_ (fun x => ?_)
  · have p1 : FLt (⟨0, 3, 0, 5, 0, t⟩ : Msg) ⟨0, 4, 0, 6, 0, l⟩ := cmpF_lt.2 (.inr ⟨rfl, .inr ⟨rfl, by show (3 : Int) < 4; decide⟩⟩)
    have p2 : FLt (⟨0, 3, 0, 5, 0, t⟩ : Msg) ⟨0, 1, 0, 1, r, 0⟩ := cmpF_lt.2 (.inr ⟨rfl, .inl h1⟩)
    have p3 : FLt (⟨0, 3, 0, 5, 0, t⟩ : Msg) ⟨0, 2, 0, 4, e, 0⟩ := cmpF_lt.2 (.inr ⟨rfl, .inl (by dsimp only; omega)⟩)
    have p4 : FLt (⟨0, 4, 0, 6, 0, l⟩ : Msg) ⟨0, 1, 0, 1, r, 0⟩ := cmpF_lt.2 (.inr ⟨rfl, .inl h1⟩)
    have p5 : FLt (⟨0, 4, 0, 6, 0, l⟩ : Msg) ⟨0, 2, 0, 4, e, 0⟩ := cmpF_lt.2 (.inr ⟨rfl, .inl (by dsimp only; omega)⟩)
    have p6 : FLt (⟨0, 1, 0, 1, r, 0⟩ : Msg) ⟨0, 2, 0, 4, e, 0⟩ := cmpF_lt.2 (.inr ⟨rfl, by dsimp only; omega⟩)
    unfold mcF
    simp only [List.pairwise_cons, List.mem_cons, List.not_mem_nil, or_false, forall_eq_or_imp, forall_eq, List.Pairwise.nil, and_true, false_implies, implies_true]
    exact ⟨⟨p1, p2, p3⟩, ⟨p4, p5⟩, p6⟩
  · rw [h.spec.2.2.2]
    constructor
    · rintro ⟨hm, _, _⟩
      rcases mc_in hm with rfl | rfl | rfl | rfl <;> simp [mcF]
    · intro hm
      have hm2 : x ∈ mcL 0 r e t l := by
        simp only [mcF, List.mem_cons, List.not_mem_nil, or_false] at hm
        rcases hm with rfl | rfl | rfl | rfl <;> simp [mcL]
      refine ⟨hm2, ?_, fun m hm3 _ _ => ?_⟩
      · rcases mc_in hm2 with rfl | rfl | rfl | rfl <;> dsimp only <;> decide
      · rcases mc_in hm2 with rfl | rfl | rfl | rfl <;> rcases mc_in hm3 with rfl | rfl | rfl | rfl <;> exact Int.le_refl _
theorem mc_op {r e t l : Int} : opEB [] (mcF r e t l) = 0 := by kernel_rfl
theorem mc_lt {c : Chr} {ws : List Low} {r e t l : Int} {lc : Lc} {er : Int} (q : McOk r e t l) (hc : chkCh c ws = 0) (h : LtR c ws [] (mcL 0 r e t l) lc er) : lc = lcM c.l e (r + c.o) (exc []) ∧ er = 0 := by
  obtain ⟨out, hR, he, h⟩ := h.ok hc (by kernel_rfl) (mc_rdE q) mc_noEd (by kernel_rfl)
  obtain rfl := mc_facts q hR
  rw [mc_op] at he
  rcases h with ⟨q9, _⟩ | ⟨_, n1, en, g1, g4, rfl⟩
  · exact absurd he q9
  · have e1 : gtG (onS (mcF r e t l) (mcF r e t l).length) 1 = some ⟨0, 1, 0, 1, r, 0⟩ := by kernel_rfl
    have e4 : gtG (onS (mcF r e t l) (mcF r e t l).length) 4 = some ⟨0, 2, 0, 4, e, 0⟩ := by kernel_rfl
    rw [e1] at g1
    rw [e4] at g4
    simp only [Option.some.injEq] at g1 g4
    subst g1 g4
    exact ⟨rfl, he⟩
theorem mc_bi {c : Chr} {ws : List Low} {r e t l : Int} {b : Bl} {er : Int} (q : McOk r e t l) (hc : chkCh c ws = 0) (h : BiR c ws [] (mcL 0 r e t l) b er) : b = blP c ws t l (lcM c.l e (r + c.o) (exc [])) ∧ er = 0 := by
  obtain ⟨out, hR, h⟩ := h.ok hc (by kernel_rfl) (mc_rdE q) mc_noEd (by kernel_rfl)
  obtain rfl := mc_facts q hR
  rcases h with ⟨q9, he, _⟩ | ⟨_, n1, en, g1, g4, h⟩
  · rw [mc_op] at he; exact absurd he q9
  · have e1 : gtG (onS (mcF r e t l) (mcF r e t l).length) 1 = some ⟨0, 1, 0, 1, r, 0⟩ := by kernel_rfl
    have e4 : gtG (onS (mcF r e t l) (mcF r e t l).length) 4 = some ⟨0, 2, 0, 4, e, 0⟩ := by kernel_rfl
    have e5 : gtG (onS (mcF r e t l) (mcF r e t l).length) 5 = some ⟨0, 3, 0, 5, 0, t⟩ := by kernel_rfl
    have e6 : gtG (onS (mcF r e t l) (mcF r e t l).length) 6 = some ⟨0, 4, 0, 6, 0, l⟩ := by kernel_rfl
    rw [e1] at g1
    rw [e4] at g4
    simp only [Option.some.injEq] at g1 g4
    subst g1 g4
    rcases h with ⟨_, _, q | ⟨q, _⟩⟩ | ⟨he, t5, g5, _, hb⟩
    · rw [e5] at q; cases q
    · rw [e6] at q; cases q
    · rw [e5] at g5
      simp only [Option.some.injEq] at g5
      subst g5
      exact ⟨hb, he⟩
theorem mnK_none {L b : Int} (hL : 0 ≤ L) : ∀ m : Nat, (mnK L b (exc []) m).u = min L (m : Int) ∧ (mnK L b (exc []) m).o = max 0 ((m : Int) - L)
  | 0 => by
    unfold mnK
    dsimp only
    omega
  | m + 1 => by
    have ih := mnK_none (b := b) hL m
    unfold mnK
    by_cases c : (mnK L b (exc []) m).u = L
    · rw [if_pos c]
      dsimp only
      omega
    · rw [if_neg c, if_neg (by simp [exc])]
      dsimp only
      omega
theorem lcM_none {L en b : Int} (hL : 0 ≤ L) : (lcM L en b (exc [])).b = b ∧ (lcM L en b (exc [])).u = min L (max 0 (en - b)) ∧ (lcM L en b (exc [])).o = max 0 (max 0 (en - b) - L) ∧ (lcM L en b (exc [])).s = max 0 (L - max 0 (en - b)) := by
  obtain ⟨h1, h2⟩ := mnK_none (b := b) hL (en - b).toNat
  refine ⟨rfl, ?_, ?_, ?_⟩
  · show (mnK L b (exc []) (en - b).toNat).u = _
    omega
  · show (mnK L b (exc []) (en - b).toNat).o = _
    omega
  · show (if (mnK L b (exc []) (en - b).toNat).o = 0 then L - (mnK L b (exc []) (en - b).toNat).u else 0) = _
    split <;> omega
theorem rnd2_le {a b c : Int} (h : a ≤ b) (hc : 0 < c) : rnd2 a c ≤ rnd2 b c := by
  unfold rnd2
  exact Int.ediv_le_ediv hc (by omega)
/-- A later notice makes no bill greater. -/
theorem bl_later {c : Chr} {ws : List Low} {t l en b b2 : Int} (hL : 0 ≤ c.l) (hd : 0 ≤ c.d) (he : 0 ≤ c.e) (hh : b ≤ b2) : (blP c ws t l (lcM c.l en b2 (exc []))).t ≤ (blP c ws t l (lcM c.l en b (exc []))).t := by
  obtain ⟨_, _, o1, s1⟩ := lcM_none (en := en) (b := b) hL
  obtain ⟨_, _, o2, s2⟩ := lcM_none (en := en) (b := b2) hL
  have h1 : rnd2 ((lcM c.l en b2 (exc [])).o * c.d) 1440 ≤ rnd2 ((lcM c.l en b (exc [])).o * c.d) 1440 := rnd2_le (Int.mul_le_mul_of_nonneg_right (by omega) hd) (by decide)
  have h2 : rnd2 ((lcM c.l en b (exc [])).s * c.e) 1440 ≤ rnd2 ((lcM c.l en b2 (exc [])).s * c.e) 1440 := rnd2_le (Int.mul_le_mul_of_nonneg_right (by omega) he) (by decide)
  unfold blP
  dsimp only
  omega
-- the charter
structure XC where
  x0 : Int
  x1 : Int
  x2 : Int
  x3 : Int
  x4 : Int
def okXC (x : XC) : Prop := (0 ≤ x.x0 ∧ x.x0 ≤ 255) ∧ (0 ≤ x.x1 ∧ x.x1 ≤ 255) ∧ (0 ≤ x.x2 ∧ x.x2 ≤ 255) ∧ (0 ≤ x.x3 ∧ x.x3 ≤ 255) ∧ (0 ≤ x.x4 ∧ x.x4 ≤ 255)
def chX (x : XC) : Chr := ⟨1, 2, 3, 1 + x.x0, 4 * x.x1, 4 * x.x2, x.x3, 500 * x.x4, 200 * x.x4, x.x0 % 20⟩
def wsX : List Low := [⟨100, 30⟩, ⟨180, 10⟩]
theorem chX_ok {x : XC} (h : okXC x) : chkCh (chX x) wsX = 0 := by
  unfold okXC at h
  unfold chkCh
  rw [if_pos]
  unfold okCh chX
  rw [decide_eq_true_eq]
  dsimp only
  refine ⟨by decide, by decide, ?_⟩
  omega
-- the two voyages in memory
def trA (a s : Int) (g : Nat) : HVoy := ⟨vyA a s, some ⟨g, 0, none⟩, g, 0, 1⟩
def trB (b r : Int) (g : Nat) : HVoy := ⟨vyB b r, some ⟨g, 0, none⟩, g, 0, 1⟩
theorem HoldsL_c {a s b r n : Int} {gA gB gn gt cap : Nat} {ao : Option Addr} {w0 : World} (ha : 0 ≤ a ∧ a ≤ 255) (hs : 30 ≤ s ∧ s ≤ 89) (hb : 0 ≤ b ∧ b ≤ 255) (hr : 30 ≤ r ∧ r ≤ 89) (hn : 41 ≤ n ∧ n ≤ 60)
    (ht : Sl encHVoy 5 w0 ao gt 0 [trA a s gA, trB b r gB]) (hA : Sl encRun 6 w0 (some ⟨gA, 0, none⟩) gA 0 (vyA a s).runs) (hB : Sl encRun 6 w0 (some ⟨gB, 0, none⟩) gB 0 (vyB b r).runs) (hN : Sl encNar 4 w0 (some ⟨gn, 0, none⟩) gn 0 [nrN n]) :
    CallsV Tryz.prog 8 [.slice ao [trA a s gA, trB b r gB].length cap, .slice (some ⟨gn, 0, none⟩) [nrN n].length 1, .int .i64 2000] w0 (fun v w' => (∃ g h, v = .tuple #[.slice (some ⟨g, 0, none⟩) 2 2, .int .i64 0, .int .i64 0] ∧ Blk w' g 3 [.int .i64 0, .int .i64 h] ∧ HoldR [clK a s b r n] h ∧ (0 ≤ h ∧ h ≤ 456)) ∧ Ext w0 w') := by
  refine (Holds_c [trA a s gA, trB b r gB] [nrN n] ao (some ⟨gn, 0, none⟩) gt 0 gn 0 cap 1 2000 w0 ht (fun x hx => ?_) (fun x hx => ?_) hN (show (2 : Nat) ≤ 1000000 by decide) (show (1 : Nat) ≤ 1000000 by decide)).mono ?_
  · simp only [List.mem_cons, List.not_mem_nil, or_false] at hx
    rcases hx with rfl | rfl
    · exact hA
    · exact hB
  · simp only [List.mem_cons, List.not_mem_nil, or_false] at hx
    rcases hx with rfl | rfl <;> exact (show (1 : Nat) ≤ 1000000 by decide)
  · rintro v w' ⟨h, u⟩
    refine ⟨?_, u⟩
    have hE := openK (a := a) (s := s) (b := b) (r := r) (n := n) (by omega) hs (by omega) hr hn
    rcases h with ⟨q, _⟩ | ⟨_, q, _⟩ | ⟨_, _, rows, hrow, h⟩
    · exact absurd hE q
    · exact absurd ⟨by decide, by decide⟩ q
    · have key := fun ls => seq_two (vs := [trA a s gA, trB b r gB]) (rows := rows) (a := a) (s := s) (b := b) (r := r) rfl hn hrow ls
      have hc := clK_rng ha hs hb hr hn
      rcases h with ⟨g, ls, rfl, hB, hl, hq, _⟩ | ⟨q, ls, hh, _, hq, hl, hs2, hh1, hh2⟩
      · match ls, hl with
        | [l0, l1], _ =>
          have e0 := (hq 0 (show 0 < 2 by decide)).1
          rw [(key _).1] at e0
          obtain rfl : l0 = 0 := hold_nil e0
          have e1 := (hq 1 (show 1 < 2 by decide)).1
          rw [(key _).2 rfl] at e1
          exact ⟨g, l1, rfl, hB, e1, hold_le (by decide) e1 hc⟩
        | [], hl => cases hl
        | [_], hl => simp at hl
        | _ :: _ :: _ :: _, hl => simp at hl
      · exfalso
        have hq2 : q < 2 := hq
        rcases (show q = 0 ∨ q = 1 by omega) with rfl | rfl
        · rw [(key _).1] at hh1
          have := hold_nil hh1
          omega
        · have e0 := (hs2 0 (by decide)).1
          rw [(key _).1] at e0
          rw [(key _).2 (hold_nil e0)] at hh1
          have := hold_le (by decide) hh1 hc
          omega
theorem ConfL_c {a s b r n h : Int} {gA gB gn gt cap : Nat} {ao : Option Addr} {w0 : World} (ha : 0 ≤ a ∧ a ≤ 255) (hs : 30 ≤ s ∧ s ≤ 89) (hb : 0 ≤ b ∧ b ≤ 255) (hr : 30 ≤ r ∧ r ≤ 89) (hn : 41 ≤ n ∧ n ≤ 60) (hh : 0 ≤ h ∧ h ≤ 456) (hq : HoldR [clK a s b r n] h)
    (ht : Sl encHVoy 5 w0 ao gt 0 [trA a s gA, trB (b + h) r gB]) (hA : Sl encRun 6 w0 (some ⟨gA, 0, none⟩) gA 0 (vyA a s).runs) (hB : Sl encRun 6 w0 (some ⟨gB, 0, none⟩) gB 0 (vyB b r).runs) (hN : Sl encNar 4 w0 (some ⟨gn, 0, none⟩) gn 0 [nrN n]) :
    CallsV Tryz.prog 10 [.slice ao [trA a s gA, trB (b + h) r gB].length cap, .slice (some ⟨gn, 0, none⟩) [nrN n].length 1] w0 (fun v w' => (∃ ao cap, v = .tuple #[.slice ao 0 cap, .int .i64 0]) ∧ Ext w0 w') := by
  refine (ConfU_c [trA a s gA, trB (b + h) r gB] ao gt cap [nrN n] (some ⟨gn, 0, none⟩) gn 0 1 [vyA a s, vyB (b + h) r] w0 rfl ht (fun x hx => ?_) hN (show (2 : Nat) ≤ 1000000 by decide) (fun v hv => ?_) (show (1 : Nat) ≤ 1000000 by decide)).mono ?_
  · simp only [List.mem_cons, List.not_mem_nil, or_false] at hx
    rcases hx with rfl | rfl
    · exact hA
    · exact hB
  · simp only [List.mem_cons, List.not_mem_nil, or_false] at hv
    rcases hv with rfl | rfl <;> exact (show (1 : Nat) ≤ 1000000 by decide)
  · rintro v w' ⟨⟨ms, e, ao, b9, cap, rfl, _, he, _, hc⟩, u⟩
    refine ⟨?_, u⟩
    have hE := openK (a := a) (s := s) (b := b + h) (r := r) (n := n) (by omega) hs (by omega) hr hn
    obtain rfl := he.trans hE
    obtain rfl := (hc rfl).trans (conf_held hn hq)
    exact ⟨ao, cap, rfl⟩

end Go.Proofs.YtclinbbghnebaaaGreat
