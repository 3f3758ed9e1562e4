/-
  Part 14 of the proof: contracts and plain laws. Conditions: none.
-/
import Derived.Test.YtclinbbghnebaaaGreatDK13
namespace Go.Proofs.YtclinbbghnebaaaGreat
open Go Go.RowKit
set_option maxRecDepth 10000

theorem Asc.pw {α : Type} [Inhabited α] {c : α → α → Int} {ys : List α} (h : Asc c ys) : ys.Pairwise (fun a b => ¬ c b a < 0) := List.pairwise_iff_getElem.2 fun i j hi hj hij => by
  have := h i j hij hj
  rwa [nth_eq hi, nth_eq hj] at this
section
variable {α β : Type} [DecidableEq α]
def upR (a : α) (v : β) : List (α × β) → List (α × β)
  | [] => [(a, v)]
  | p :: m => if a = p.1 then (a, v) :: m else p :: upR a v m
def gtR (a : α) : List (α × β) → Option β
  | [] => none
  | p :: m => if a = p.1 then some p.2 else gtR a m
theorem fG_shift (a : α) : ∀ (m : List (α × β)) (i : Nat), fG m a (i + 1) = (fG m a i).map fun p => (p.1 + 1, p.2)
  | [], _ => rfl
  | p :: m, i => by
    unfold fG
    split
    · rfl
    · exact fG_shift a m (i + 1)
theorem gtG_eq (a : α) : ∀ (m : List (α × β)), gtG m a = gtR a m
  | [] => rfl
  | p :: m => by
    unfold gtG fG gtR
    split
    · rfl
    · rw [fG_shift, ← gtG_eq a m]
      unfold gtG
      cases fG m a 0 <;> rfl
theorem upG_eq (a : α) (v : β) : ∀ (m : List (α × β)), upG m a v = upR a v m
  | [] => rfl
  | p :: m => by
    have ih := upG_eq a v m
    unfold upG fG upR
    by_cases q : a = p.1
    · simp [q]
    · simp only [if_neg q]
      rw [fG_shift, ← ih]
      unfold upG
      cases fG m a 0 <;> rfl
theorem gtR_upR (a : α) (v : β) (b : α) : ∀ (m : List (α × β)), gtR b (upR a v m) = if b = a then some v else gtR b m
  | [] => by
    unfold upR gtR
    split <;> rfl
  | p :: m => by
    unfold upR
    split
    · rename_i e
      unfold gtR
      by_cases q : b = a
      · simp [q]
      · rw [if_neg q, if_neg q, if_neg (by rw [← e]; exact q)]
    · rename_i e
      rw [gtR, gtR_upR a v b m]
      by_cases q : b = a
      · subst q; rw [if_neg e, if_pos rfl, if_pos rfl]
      · rw [if_neg q, if_neg q, gtR]
theorem upR_key (a : α) (v : β) : ∀ (m : List (α × β)) {k : α}, k ∈ (upR a v m).map (·.1) → k = a ∨ k ∈ m.map (·.1)
  | [], k, h => by simp [upR] at h; exact .inl h
  | p :: m, k, h => by
    unfold upR at h
    split at h
    · rcases List.mem_cons.1 h with q | q
      · exact .inl q
      · exact .inr (List.mem_cons_of_mem _ q)
    · rcases List.mem_cons.1 h with q | q
      · exact .inr (by rw [q]; simp)
      · exact (upR_key a v m q).imp_right (List.mem_cons_of_mem _)
theorem upR_nodup (a : α) (v : β) : ∀ {m : List (α × β)}, (m.map (·.1)).Nodup → ((upR a v m).map (·.1)).Nodup
  | [], _ => by simp [upR]
  | p :: m, h => by
    rw [List.map_cons, List.nodup_cons] at h
    unfold upR
    split
    · rename_i e
      rw [List.map_cons, List.nodup_cons]
      exact ⟨by rw [e]; exact h.1, h.2⟩
    · rename_i e
      rw [List.map_cons, List.nodup_cons]
      exact ⟨fun q => (upR_key a v m q).elim (fun q => e q.symm) h.1, upR_nodup a v h.2⟩
theorem gtR_mem {a : α} {v : β} : ∀ {m : List (α × β)}, gtR a m = some v → (a, v) ∈ m
  | [], h => by cases h
  | p :: m, h => by
    unfold gtR at h
    split at h
    · rename_i e
      simp only [Option.some.injEq] at h
      rw [e, ← h]; simp
    · exact List.mem_cons_of_mem _ (gtR_mem h)
theorem mem_gtR {a : α} {v : β} : ∀ {m : List (α × β)}, (m.map (·.1)).Nodup → (a, v) ∈ m → gtR a m = some v
  | [], _, h => by cases h
  | p :: m, hn, h => by
    rw [List.map_cons, List.nodup_cons] at hn
    unfold gtR
    rcases List.mem_cons.1 h with q | q
    · rw [← q]; simp
    · rw [if_neg (fun e => hn.1 (by rw [← e]; exact List.mem_map.2 ⟨_, q, rfl⟩))]
      exact mem_gtR hn.2 q
end
/-- What the editions' map holds. -/
theorem edS_at {l : List Msg} : ∀ {k : Nat}, k ≤ l.length → ∀ e, (∀ o, gtR e (edS l k) = some o → o ∈ l.take k ∧ edK o = e) ∧ (gtR e (edS l k) = none → ∀ m ∈ l.take k, edK m ≠ e)
  | 0, _, e => ⟨fun o h => (by cases h), fun _ m h => (by simp at h)⟩
  | k + 1, hk, e => by
    obtain ⟨h1, h2⟩ := edS_at (l := l) (k := k) (by omega) e
    rw [edS, upG_eq, gtR_upR, take_nth (show k < l.length by omega)]
    by_cases q : e = edK (nth l k)
    · rw [if_pos q]
      exact ⟨fun o h => by simp only [Option.some.injEq] at h; subst h; exact ⟨by simp, q.symm⟩, fun h => by cases h⟩
    · rw [if_neg q]
      refine ⟨fun o h => ⟨List.mem_append_left _ (h1 o h).1, (h1 o h).2⟩, fun h m hm => ?_⟩
      rcases List.mem_append.1 hm with hm | hm
      · exact h2 h m hm
      · rw [List.mem_singleton.1 hm]; exact fun e9 => q e9.symm
/-- No two messages of one edition differ. -/
def NoEd (l : List Msg) : Prop := ∀ a ∈ l, ∀ b ∈ l, edK a = edK b → a = b
theorem noEd_of {l : List Msg} (h : ∀ k, k < l.length → ¬ edErr l k) : NoEd l := by
  have key : ∀ k, k ≤ l.length → ∀ a ∈ l.take k, ∀ b ∈ l.take k, edK a = edK b → a = b := by
    intro k
    induction k with
    | zero => intro _ a ha; simp at ha
    | succ k ih =>
      intro hk
      have one : ∀ a ∈ l.take k, edK a = edK (nth l k) → a = nth l k := fun a ha e => by
        obtain ⟨h1, h2⟩ := edS_at (l := l) (k := k) (by omega) (edK (nth l k))
        cases hg : gtR (edK (nth l k)) (edS l k) with
        | none => exact absurd e (h2 hg a ha)
        | some o =>
          obtain ⟨h3, h4⟩ := h1 o hg
          have h5 : o = nth l k := Classical.byContradiction fun q => h k (by omega) ⟨o, by rw [gtG_eq]; exact hg, q⟩
          rw [← h5]
          exact ih (by omega) a ha o h3 (by rw [e, h4])
      intro a ha b hb e
      rw [take_nth (show k < l.length by omega)] at ha hb
      rcases List.mem_append.1 ha with ha | ha <;> rcases List.mem_append.1 hb with hb | hb
      · exact ih (by omega) a ha b hb e
      · rw [List.mem_singleton.1 hb] at e ⊢; exact one a ha e
      · rw [List.mem_singleton.1 ha] at e ⊢; exact (one b hb e.symm).symm
      · rw [List.mem_singleton.1 ha, List.mem_singleton.1 hb]
  have := key l.length (Nat.le_refl _)
  rw [List.take_length] at this
  exact this
theorem not_edErr {l : List Msg} (h : NoEd l) {k : Nat} (hk : k < l.length) : ¬ edErr l k := fun ⟨o, hg, hn⟩ => by
  rw [gtG_eq] at hg
  obtain ⟨h1, h2⟩ := (edS_at (l := l) (k := k) (by omega) _).1 o hg
  exact hn (h o (List.mem_of_mem_take h1) _ (nth_mem hk) h2)
/-- What the map of the latest revisions holds. -/
theorem laS_at {l : List Msg} : ∀ {k : Nat}, k ≤ l.length → ((laS l k).map (·.1)).Nodup ∧ ∀ e, (∀ o, gtR e (laS l k) = some o → o ∈ l.take k ∧ keK o = e ∧ ∀ m ∈ l.take k, keK m = e → m.r ≤ o.r) ∧ (gtR e (laS l k) = none → ∀ m ∈ l.take k, keK m ≠ e)
  | 0, _ => ⟨by simp [laS], fun e => ⟨fun o h => (by cases h), fun _ m h => (by simp at h)⟩⟩
  | k + 1, hk => by
    obtain ⟨h0, h12⟩ := laS_at (l := l) (k := k) (by omega)
    rw [take_nth (show k < l.length by omega)]
    by_cases hq : laOld (laS l k) (nth l k) = true
    · rw [laS, if_pos hq, upG_eq]
      refine ⟨upR_nodup _ _ h0, fun e => ?_⟩
      obtain ⟨h1, h2⟩ := h12 e
      rw [gtR_upR]
      by_cases q : e = keK (nth l k)
      · rw [if_pos q]
        refine ⟨fun o h => ?_, fun h => by cases h⟩
        simp only [Option.some.injEq] at h
        subst h
        refine ⟨by simp, q.symm, fun m hm hk9 => ?_⟩
        rcases List.mem_append.1 hm with hm | hm
        · unfold laOld at hq
          rw [gtG_eq, ← q] at hq
          cases hg : gtR e (laS l k) with
          | none => exact absurd hk9 (h2 hg m hm)
          | some o =>
            rw [hg] at hq
            have h3 := (h1 o hg).2.2 m hm hk9
            simp only [decide_eq_true_eq] at hq
            omega
        · rw [List.mem_singleton.1 hm]; exact Int.le_refl _
      · rw [if_neg q]
        refine ⟨fun o h => ⟨List.mem_append_left _ (h1 o h).1, (h1 o h).2.1, fun m hm hk9 => ?_⟩, fun h m hm => ?_⟩
        · rcases List.mem_append.1 hm with hm | hm
          · exact (h1 o h).2.2 m hm hk9
          · rw [List.mem_singleton.1 hm] at hk9; exact absurd hk9.symm q
        · rcases List.mem_append.1 hm with hm | hm
          · exact h2 h m hm
          · rw [List.mem_singleton.1 hm]; exact fun e9 => q e9.symm
    · rw [laS, if_neg hq]
      refine ⟨h0, fun e => ?_⟩
      obtain ⟨h1, h2⟩ := h12 e
      have old : ∃ v, gtR (keK (nth l k)) (laS l k) = some v ∧ (nth l k).r ≤ v.r := by
        unfold laOld at hq
        rw [gtG_eq] at hq
        cases hg : gtR (keK (nth l k)) (laS l k) with
        | none => rw [hg] at hq; simp at hq
        | some v => rw [hg] at hq; simp only [decide_eq_true_eq] at hq; exact ⟨v, rfl, by omega⟩
      obtain ⟨v, hv, hr⟩ := old
      refine ⟨fun o h => ⟨List.mem_append_left _ (h1 o h).1, (h1 o h).2.1, fun m hm hk9 => ?_⟩, fun h m hm => ?_⟩
      · rcases List.mem_append.1 hm with hm | hm
        · exact (h1 o h).2.2 m hm hk9
        · rw [List.mem_singleton.1 hm] at hk9 ⊢
          rw [hk9, h] at hv
          simp only [Option.some.injEq] at hv
          subst hv; exact hr
      · rcases List.mem_append.1 hm with hm | hm
        · exact h2 h m hm
        · rw [List.mem_singleton.1 hm]
          intro e9
          rw [e9, h] at hv
          cases hv
/-- A fact: the latest revision of its message, and not withdrawn. -/
def LastIn (l : List Msg) (x : Msg) : Prop := x ∈ l ∧ x.k ≠ 7 ∧ ∀ m ∈ l, m.c = x.c → m.n = x.n → m.r ≤ x.r
abbrev FLt (a b : Msg) : Prop := cmpF a b < 0
theorem cmpF_ne {a b : Msg} (h : ¬ cmpF b a < 0) (hn : keK a ≠ keK b) : cmpF a b < 0 := by
  have : ¬ (a.c = b.c ∧ a.n = b.n) := fun q => hn (by unfold keK; rw [q.1, q.2])
  rw [cmpF_lt] at *
  omega
theorem RdR.spec {l out : List Msg} (h : RdR l out 0) : rdE l = 0 ∧ NoEd l ∧ out.Pairwise FLt ∧ ∀ x, x ∈ out ↔ LastIn l x := by
  rcases h with ⟨h1, h2, _⟩ | ⟨_, h2, _⟩ | ⟨h0, _, hne, hp, ha⟩
  · omega
  · omega
  · have hE := noEd_of hne
    obtain ⟨hn, hl⟩ := laS_at (l := l) (k := l.length) (Nat.le_refl _)
    rw [List.take_length] at hl
    have keyp : ∀ p ∈ laS l l.length, p.1 = keK p.2 := fun p hp => ((hl p.1).1 p.2 (mem_gtR hn hp)).2.1.symm
    refine ⟨h0, hE, ?_, fun x => ?_⟩
    · have h3 : out.Pairwise (fun a b => keK a ≠ keK b) := by
        refine hp.symm.pairwise ?_ (fun {a b} q => fun e => q e.symm)
        refine List.Pairwise.filter _ ?_
        rw [List.pairwise_map]
        have h4 := hn
        unfold List.Nodup at h4
        rw [List.pairwise_map] at h4
        exact h4.imp_of_mem (fun ha hb q e => q (by rw [keyp _ ha, keyp _ hb, e]))
      exact (ha.pw.and h3).imp (fun q => cmpF_ne q.1 q.2)
    · rw [hp.mem_iff, List.mem_filter, List.mem_map]
      constructor
      · rintro ⟨⟨p, hp9, rfl⟩, hk⟩
        have h5 := (hl p.1).1 p.2 (mem_gtR hn hp9)
        exact ⟨h5.1, by simpa using hk, fun m hm hc hn9 => h5.2.2 m hm (by rw [keyp p hp9]; unfold keK; rw [hc, hn9])⟩
      · rintro ⟨hx, hk, hr⟩
        refine ⟨?_, by simpa using hk⟩
        cases hg : gtR (keK x) (laS l l.length) with
        | none => exact absurd rfl ((hl (keK x)).2 hg x hx)
        | some o =>
          obtain ⟨h6, h7, h8⟩ := (hl (keK x)).1 o hg
          have hc : o.c = x.c := congrArg Prod.fst h7
          have hn9 : o.n = x.n := congrArg Prod.snd h7
          have h9 := h8 x hx rfl
          have h10 := hr o h6 hc hn9
          have e : o = x := hE o h6 x hx (by unfold edK; rw [hc, hn9, show o.r = x.r by omega])
          exact ⟨_, gtR_mem hg, e⟩
theorem RdR.err {l out : List Msg} {e : Int} (h : RdR l out e) : (rdE l ≠ 0 ∧ e = rdE l ∧ out = []) ∨ (rdE l = 0 ∧ ¬ NoEd l ∧ e = 6 ∧ out = []) ∨ (rdE l = 0 ∧ NoEd l ∧ e = 0) := by
  rcases h with ⟨h1, h2, h3⟩ | ⟨h0, h2, h3, k, hk, he⟩ | ⟨h0, h2, hne, _⟩
  · exact .inl ⟨h1, h2, h3⟩
  · exact .inr (.inl ⟨h0, fun q => not_edErr q hk he, h2, h3⟩)
  · exact .inr (.inr ⟨h0, noEd_of hne, h2⟩)
end Go.Proofs.YtclinbbghnebaaaGreat
namespace Go.Proofs.YtclinbbghnebaaaGreat
open Go Go.RowKit
set_option maxRecDepth 10000

/-- Laytime minute by minute: what is used, and over, of the minutes behind the begin. -/
structure MnS where
  u : Int
  o : Int
def mnK (L b : Int) (p : Int → Bool) : Nat → MnS
  | 0 => ⟨0, 0⟩
  | i + 1 => if (mnK L b p i).u = L then ⟨L, (mnK L b p i).o + 1⟩ else if p (b + (i : Int)) = true then mnK L b p i else ⟨(mnK L b p i).u + 1, (mnK L b p i).o⟩
theorem mnK_run {L b : Int} {p : Int → Bool} {i : Nat} {u : Int} (h : mnK L b p i = ⟨u, 0⟩) : ∀ (m : Nat), u + (m : Int) ≤ L → (∀ j : Nat, j < m → p (b + (i : Int) + (j : Int)) = false) → mnK L b p (i + m) = ⟨u + (m : Int), 0⟩
  | 0, _, _ => by simpa using h
  | m + 1, hu, hp => by
    have ih := mnK_run h m (by omega) (fun j hj => hp j (by omega))
    have h1 := hp m (by omega)
    rw [← Nat.add_assoc, mnK, ih]
    rw [if_neg (show ¬ u + (m : Int) = L by omega), show b + ((i + m : Nat) : Int) = b + (i : Int) + (m : Int) by omega, h1]
    simp only [Bool.false_eq_true, if_false, MnS.mk.injEq, and_true]
    omega
theorem mnK_idle {L b : Int} {p : Int → Bool} {i : Nat} {s : MnS} (h : mnK L b p i = s) (hu : s.u ≠ L) : ∀ (m : Nat), (∀ j : Nat, j < m → p (b + (i : Int) + (j : Int)) = true) → mnK L b p (i + m) = s
  | 0, _ => h
  | m + 1, hp => by
    have ih := mnK_idle h hu m (fun j hj => hp j (by omega))
    have h1 := hp m (by omega)
    rw [← Nat.add_assoc, mnK, ih, if_neg hu, show b + ((i + m : Nat) : Int) = b + (i : Int) + (m : Int) by omega, if_pos h1]
theorem mnK_over {L b : Int} {p : Int → Bool} {i : Nat} {o : Int} (h : mnK L b p i = ⟨L, o⟩) : ∀ (m : Nat), mnK L b p (i + m) = ⟨L, o + (m : Int)⟩
  | 0 => by simpa using h
  | m + 1 => by
    rw [← Nat.add_assoc, mnK, mnK_over h m, if_pos rfl]
    simp only [MnS.mk.injEq, true_and]
    omega
/-- A minute that is excepted. -/
def exc (fs : List Fre) (t : Int) : Bool := fs.any fun f => decide (f.f ≤ t ∧ t < f.t)
theorem exc_no {fs : List Fre} {t : Int} (h : ∀ f ∈ fs, ¬ (f.f ≤ t ∧ t < f.t)) : exc fs t = false := by
  unfold exc
  rw [List.any_eq_false]
  intro f hf
  simpa using h f hf
theorem exc_yes {fs : List Fre} {f : Fre} {t : Int} (hf : f ∈ fs) (h : f.f ≤ t ∧ t < f.t) : exc fs t = true := List.any_eq_true.2 ⟨f, hf, decide_eq_true h⟩
theorem exc_same {fs gs : List Fre} (h : ∀ f, f ∈ fs ↔ f ∈ gs) : exc fs = exc gs := by
  funext t
  rw [Bool.eq_iff_iff]
  unfold exc
  rw [List.any_eq_true, List.any_eq_true]
  exact ⟨fun ⟨f, h1, h2⟩ => ⟨f, (h f).1 h1, h2⟩, fun ⟨f, h1, h2⟩ => ⟨f, (h f).2 h1, h2⟩⟩
def lcM (L en b : Int) (p : Int → Bool) : Lc := ⟨b, (mnK L b p (en - b).toNat).u, (mnK L b p (en - b).toNat).o, if (mnK L b p (en - b).toNat).o = 0 then L - (mnK L b p (en - b).toNat).u else 0⟩
structure CtI (L en b : Int) (ys : List Fre) (k : Nat) (s : CtS) : Prop where
  a1 : b ≤ s.a
  a2 : s.a ≤ max b en
  u0 : 0 ≤ s.u ∧ s.u ≤ L
  mn : mnK L b (exc ys) (s.a - b).toNat = ⟨s.u, 0⟩
  ex : s.u < L → ∀ j, j < k → j < ys.length → ∀ t, s.a ≤ t → t < en → ¬ ((nth ys j).f ≤ t ∧ t < (nth ys j).t)
  fin : s.u < L → k = ys.length + 1 → en ≤ s.a
theorem nth_app1 {α : Type} [Inhabited α] {xs ys : List α} {i : Nat} (h : i < xs.length) : nth (xs ++ ys) i = nth xs i := by
  rw [nth_eq (by rw [List.length_append]; omega), nth_eq h, List.getElem_append_left h]
theorem nth_app2 {α : Type} [Inhabited α] {xs : List α} {y : α} : nth (xs ++ [y]) xs.length = y := by
  rw [nth_eq (by simp)]; simp
theorem ctI_step {L en b : Int} {ys : List Fre} (hs : Asc cmpFr ys) {k : Nat} (hk : k < ys.length + 1) {s : CtS} (h : CtI L en b ys k s) : CtI L en b ys (k + 1) (ctStep L en s (nth (ys ++ [⟨en, en⟩]) k)) := by
  by_cases hu : s.u = L
  · rw [ctStep, if_pos hu]
    exact ⟨h.a1, h.a2, h.u0, h.mn, fun q => by omega, fun q => by omega⟩
  · rw [ctStep, if_neg hu]
    have hx : (k < ys.length ∧ nth (ys ++ [(⟨en, en⟩ : Fre)]) k = nth ys k) ∨ (k = ys.length ∧ nth (ys ++ [(⟨en, en⟩ : Fre)]) k = ⟨en, en⟩) := by
      rcases Nat.lt_or_ge k ys.length with q | q
      · exact .inl ⟨q, nth_app1 q⟩
      · obtain rfl : k = ys.length := by omega
        exact .inr ⟨rfl, nth_app2⟩
    generalize nth (ys ++ [(⟨en, en⟩ : Fre)]) k = f at hx
    obtain ⟨h1, h2, h3, h4, h5, h6⟩ := h
    have hlt : s.u < L := by omega
    have hm0 : 0 ≤ ctUse L en s f ∧ ctUse L en s f ≤ L - s.u ∧ ctUse L en s f ≤ max 0 (min f.f en - s.a) ∧ (ctUse L en s f < L - s.u → ctUse L en s f = max 0 (min f.f en - s.a)) := by
      unfold ctUse; omega
    generalize ctUse L en s f = m at hm0
    obtain ⟨m1, m2, m3, m4⟩ := hm0
    -- minutes that count
    have hfree : ∀ j : Nat, j < m.toNat → exc ys (b + ((s.a - b).toNat : Int) + (j : Int)) = false := fun j hj => exc_no fun y hy q => by
      obtain ⟨i, hi, rfl⟩ := List.mem_iff_getElem.1 hy
      rw [← nth_eq hi] at q
      rcases Nat.lt_or_ge i k with hik | hik
      · exact h5 hlt i hik hi (b + ((s.a - b).toNat : Int) + (j : Int)) (by omega) (by omega) q
      · rcases hx with ⟨hk9, rfl⟩ | ⟨hk9, _⟩
        · rcases Nat.lt_or_eq_of_le hik with q9 | q9
          · have := hs k i q9 hi
            unfold cmpFr at this
            omega
          · subst q9; omega
        · omega
    have hrun := mnK_run (p := exc ys) h4 m.toNat (by omega) hfree
    have e1 : (s.a + m - b).toNat = (s.a - b).toNat + m.toNat := by omega
    have e2 : s.u + (m.toNat : Int) = s.u + m := by omega
    rw [← e1, e2] at hrun
    by_cases hq : s.u + m < L
    · have hm9 := m4 (by omega)
      simp only [if_pos hq]
      have hidle := mnK_idle hrun (show s.u + m ≠ L by omega) (max (s.a + m) (min f.t en) - (s.a + m)).toNat (fun j hj => by
        rcases hx with ⟨hk9, rfl⟩ | ⟨hk9, rfl⟩
        · exact exc_yes (nth_mem hk9) (by omega)
        · simp only at hj hm9; omega)
      have e3 : (s.a + m - b).toNat + (max (s.a + m) (min f.t en) - (s.a + m)).toNat = (max (s.a + m) (min f.t en) - b).toNat := by omega
      rw [e3] at hidle
      refine ⟨by show b ≤ max _ _; omega, by show max _ _ ≤ _; omega, by show 0 ≤ s.u + m ∧ s.u + m ≤ L; omega, hidle, fun _ j hj hjl t ht1 ht2 q => ?_, fun _ hk9 => ?_⟩
      · simp only at ht1
        rcases Nat.lt_succ_iff_lt_or_eq.1 hj with q9 | q9
        · exact h5 hlt j q9 hjl t (by omega) ht2 q
        · subst q9
          rcases hx with ⟨_, rfl⟩ | ⟨hk9, _⟩
          · omega
          · omega
      · rcases hx with ⟨_, _⟩ | ⟨_, rfl⟩
        · omega
        · show en ≤ max (s.a + m) (min en en); omega
    · simp only [if_neg hq]
      exact ⟨by show b ≤ s.a + m; omega, by show s.a + m ≤ _; omega, by show 0 ≤ s.u + m ∧ s.u + m ≤ L; omega, hrun, fun q => absurd q (by show ¬ s.u + m < L; omega), fun q => absurd q (by show ¬ s.u + m < L; omega)⟩
theorem ctI_all {L en b : Int} {ys : List Fre} (hL : 0 ≤ L) (hs : Asc cmpFr ys) : ∀ k, k ≤ ys.length + 1 → CtI L en b ys k (ctS L en b (ys ++ [⟨en, en⟩]) k)
  | 0, _ => ⟨Int.le_refl _, by show b ≤ max b en; omega, ⟨Int.le_refl _, hL⟩, by show mnK L b _ (b - b).toNat = _; rw [Int.sub_self]; rfl, fun _ j hj => absurd hj (Nat.not_lt_zero _), fun _ h => by omega⟩
  | k + 1, hk => ctI_step hs (by omega) (ctI_all hL hs k (by omega))
/-- Laytime counted from one excepted time to the next one is laytime counted minute by minute. -/
theorem cntP_mn {L en b : Int} {ys : List Fre} (hL : 0 ≤ L) (hs : Asc cmpFr ys) : cntP L en b ys = lcM L en b (exc ys) := by
  obtain ⟨h1, h2, h3, h4, h5, h6⟩ := ctI_all (en := en) (b := b) hL hs (ys.length + 1) (Nat.le_refl _)
  unfold cntP lcM
  generalize ctS L en b (ys ++ [⟨en, en⟩]) (ys.length + 1) = s at *
  by_cases hu : s.u = L
  · have hN : mnK L b (exc ys) (en - b).toNat = ⟨L, max 0 (en - s.a)⟩ := by
      rw [hu] at h4
      by_cases q : s.a ≤ en
      · have := mnK_over h4 (en - s.a).toNat
        rw [show (s.a - b).toNat + (en - s.a).toNat = (en - b).toNat by omega] at this
        rw [this]
        simp only [MnS.mk.injEq, true_and]; omega
      · rw [show (en - b).toNat = (s.a - b).toNat by omega, h4]
        simp only [MnS.mk.injEq, true_and]; omega
    simp only [hN, hu, if_true]
  · have ha := h6 (by omega) rfl
    have hN : mnK L b (exc ys) (en - b).toNat = ⟨s.u, 0⟩ := by rw [show (en - b).toNat = (s.a - b).toNat by omega, h4]
    simp only [hN, if_neg hu]

end Go.Proofs.YtclinbbghnebaaaGreat
namespace Go.Proofs.YtclinbbghnebaaaGreat
open Go Go.RowKit
set_option maxRecDepth 10000

def onErrB (l : List Msg) (k : Nat) : Bool := !(decide ((nth l k).k = 2 ∨ (nth l k).k = 3)) && (gtG (onS l k) (nth l k).k).isSome
theorem onErr_iff {l : List Msg} {k : Nat} : onErr l k ↔ onErrB l k = true := by
  unfold onErr onErrB
  cases gtG (onS l k) (nth l k).k <;> simp
instance (la k : Int) : Decidable (opGo la k) := by unfold opGo; infer_instance
instance (en : Int) (fr : List Fre) (l : List Msg) (k : Nat) : Decidable (opBad en fr l k) := by unfold opBad; infer_instance
theorem any_range {n : Nat} {p : Nat → Bool} : (List.range n).any p = true ↔ ∃ k, k < n ∧ p k = true := by
  rw [List.any_eq_true]
  exact ⟨fun ⟨k, h1, h2⟩ => ⟨k, List.mem_range.1 h1, h2⟩, fun ⟨k, h1, h2⟩ => ⟨k, List.mem_range.2 h1, h2⟩⟩
/-- The error of the order of facts. -/
def opEB (fr : List Fre) (l : List Msg) : Int := if (List.range l.length).any (fun k => onErrB l k) = true then 6 else match gtG (onS l l.length) 1, gtG (onS l l.length) 4 with
  | some _, some en => if (List.range l.length).any (fun k => decide (opBad en.m fr l k)) = true then 9 else 0
  | _, _ => 7
theorem no_any {l : List Msg} (h : ∀ k, k < l.length → ¬ onErr l k) : ¬ (List.range l.length).any (fun k => onErrB l k) = true := fun q => by
  obtain ⟨k, h1, h2⟩ := any_range.1 q
  exact h k h1 (onErr_iff.2 h2)
theorem OpE.eq {fr : List Fre} {l : List Msg} {e : Int} (h : OpE fr l e) : e = opEB fr l ∧ e ≠ 0 := by
  unfold opEB
  rcases h with ⟨rfl, k, hk, hq⟩ | ⟨rfl, hn, hq⟩ | ⟨rfl, hn, n1, en, h1, h4, k, hk, hq⟩
  · rw [if_pos (any_range.2 ⟨k, hk, onErr_iff.1 hq⟩)]; exact ⟨rfl, by decide⟩
  · rw [if_neg (no_any hn)]
    rcases hq with hq | hq
    · rw [hq]; exact ⟨rfl, by decide⟩
    · rw [hq]
      refine ⟨?_, by decide⟩
      cases gtG (onS l l.length) 1 <;> rfl
  · rw [if_neg (no_any hn), h1, h4]
    simp only
    rw [if_pos (any_range.2 ⟨k, hk, decide_eq_true hq⟩)]; exact ⟨rfl, by decide⟩
theorem OpOk.eq {fr ex : List Fre} {l : List Msg} (h : OpOk fr l ex) : opEB fr l = 0 := by
  obtain ⟨hn, n1, en, h1, h4, hb, _⟩ := h
  unfold opEB
  rw [if_neg (no_any hn), h1, h4]
  simp only
  rw [if_neg (fun q => by obtain ⟨k, q1, q2⟩ := any_range.1 q; exact hb k q1 (of_decide_eq_true q2))]
/-- Laytime by facts. -/
def LtF (c : Chr) (fr : List Fre) (out : List Msg) (lc : Lc) : Prop := ∃ n1 en, gtG (onS out out.length) 1 = some n1 ∧ gtG (onS out out.length) 4 = some en ∧ lc = lcM c.l en.m (n1.m + c.o) (exc (opS en.m fr out out.length).ex)
theorem LtR.ok {c : Chr} {ws : List Low} {fr : List Fre} {l : List Msg} {lc : Lc} {e : Int} (h : LtR c ws fr l lc e) (h1 : chkCh c ws = 0) (h2 : chkFr fr = 0) (h3 : rdE l = 0) (h4 : NoEd l) (h5 : oneC l = true) :
    ∃ out, RdR l out 0 ∧ e = opEB fr out ∧ ((e ≠ 0 ∧ lc = ⟨0, 0, 0, 0⟩) ∨ (e = 0 ∧ LtF c fr out lc)) := by
  rcases h with ⟨he, hs, hl⟩ | ⟨rfl, _, _, _, out, ex, n1, en, ys, hR, hO, g1, g4, hp, ha, rfl⟩
  · rcases hs with ⟨q, _⟩ | ⟨_, q, _⟩ | ⟨_, _, _, o, hR⟩ | ⟨_, _, out, hR, ⟨q, _⟩ | ⟨_, hO⟩⟩
    · exact absurd h1 q
    · exact absurd h2 q
    · rcases hR.err with ⟨q, _⟩ | ⟨_, q, _⟩ | ⟨_, _, q⟩
      · exact absurd h3 q
      · exact absurd h4 q
      · exact absurd q he
    · rw [h5] at q; cases q
    · exact ⟨out, hR, hO.eq.1, .inl ⟨he, hl⟩⟩
  · refine ⟨out, hR, hO.eq.symm, .inr ⟨rfl, n1, en, g1, g4, ?_⟩⟩
    obtain ⟨_, n1', en', g1', g4', _, rfl⟩ := hO
    rw [g4] at g4'
    simp only [Option.some.injEq] at g4'
    subst g4'
    rw [cntP_mn (okCh_rng h1).2.2.2.2.1.1.1 ha, exc_same (fun f => hp.mem_iff)]
/-- A bill by facts. -/
def BlF (c : Chr) (ws : List Low) (fr : List Fre) (out : List Msg) (b : Bl) (e : Int) : Prop := ∃ n1 en, gtG (onS out out.length) 1 = some n1 ∧ gtG (onS out out.length) 4 = some en ∧
  ((e = 7 ∧ b = ⟨0, 0, 0, 0, 0, 0⟩ ∧ (gtG (onS out out.length) 5 = none ∨ (gtG (onS out out.length) 6 = none ∧ 0 < ws.length))) ∨
    (e = 0 ∧ ∃ t5, gtG (onS out out.length) 5 = some t5 ∧ (gtG (onS out out.length) 6 = none → ws.length = 0) ∧ b = blP c ws t5.v (lvP (onS out out.length)) (lcM c.l en.m (n1.m + c.o) (exc (opS en.m fr out out.length).ex))))
theorem BlR.toF {c : Chr} {ws : List Low} {fr ex : List Fre} {out : List Msg} {n1 en : Msg} {b : Bl} {e : Int} (h : BlR c ws ex (onS out out.length) n1 en b e) (hL : 0 ≤ c.l) (hO : OpOk fr out ex) (g1 : gtG (onS out out.length) 1 = some n1) (g4 : gtG (onS out out.length) 4 = some en) : BlF c ws fr out b e := by
  obtain ⟨_, n1', en', g1', g4', _, rfl⟩ := hO
  rw [g4] at g4'
  simp only [Option.some.injEq] at g4'
  subst g4'
  refine ⟨n1, en, g1, g4, ?_⟩
  rcases h with q | ⟨he, t5, ys, h5, h6, hp, ha, hb⟩
  · exact .inl q
  · refine .inr ⟨he, t5, h5, h6, ?_⟩
    rw [hb, cntP_mn hL ha, exc_same (fun f => hp.mem_iff)]
theorem BiR.ok {c : Chr} {ws : List Low} {fr : List Fre} {l : List Msg} {b : Bl} {e : Int} (h : BiR c ws fr l b e) (h1 : chkCh c ws = 0) (h2 : chkFr fr = 0) (h3 : rdE l = 0) (h4 : NoEd l) (h5 : oneC l = true) :
    ∃ out, RdR l out 0 ∧ ((e ≠ 0 ∧ e = opEB fr out ∧ b = ⟨0, 0, 0, 0, 0, 0⟩) ∨ (opEB fr out = 0 ∧ BlF c ws fr out b e)) := by
  rcases h with ⟨he, hs, hl⟩ | ⟨_, _, _, out, ex, n1, en, hR, hO, g1, g4, hb⟩
  · rcases hs with ⟨q, _⟩ | ⟨_, q, _⟩ | ⟨_, _, _, o, hR⟩ | ⟨_, _, out, hR, ⟨q, _⟩ | ⟨_, hO⟩⟩
    · exact absurd h1 q
    · exact absurd h2 q
    · rcases hR.err with ⟨q, _⟩ | ⟨_, q, _⟩ | ⟨_, _, q⟩
      · exact absurd h3 q
      · exact absurd h4 q
      · exact absurd q he
    · rw [h5] at q; cases q
    · exact ⟨out, hR, .inl ⟨he, hO.eq.1, hl⟩⟩
  · exact ⟨out, hR, .inr ⟨hO.eq, hb.toF (okCh_rng h1).2.2.2.2.1.1.1 hO g1 g4⟩⟩

end Go.Proofs.YtclinbbghnebaaaGreat
namespace Go.Proofs.YtclinbbghnebaaaGreat
open Go Go.RowKit Go.Proofs.Tryz
set_option maxRecDepth 10000
instance : DecidableEq Msg := fun a b => if h : a.c = b.c ∧ a.n = b.n ∧ a.r = b.r ∧ a.k = b.k ∧ a.m = b.m ∧ a.v = b.v then isTrue (Msg.eq6 h) else isFalse (fun e => h (by rw [e]; simp))

theorem eqIn28 (n : Nat) (a0 : Int) (a1 : Int) (b0 : Int) (b1 : Int) (w : World) : (Op.equalIn (n + 2) 28 (.agg #[.int .i64 a0, .int .i64 a1]) (.agg #[.int .i64 b0, .int .i64 b1])).run Tryz.prog w = .ok (decide (a0 = b0) && decide (a1 = b1)) w := by
  have hS : Tryz.prog.underlying 28 = some (.struct (Tryz.prog.fieldsOf 28)) := by kernel_rfl
  have hp : Tryz.prog.stoodInHeld 28 = false := by kernel_rfl
  have p0 : ∀ (a0 : Int) (a1 : Int), (part 3 #[.int .i64 a0, .int .i64 a1] 0).run Tryz.prog w = .ok (.int .i64 a0) w := fun _ _ => by simp [part, isAgg3]
  have p1 : ∀ (a0 : Int) (a1 : Int), (part 3 #[.int .i64 a0, .int .i64 a1] 1).run Tryz.prog w = .ok (.int .i64 a1) w := fun _ _ => by simp [part, isAgg3]
  have e3 := fun a b w => equal_i64 underlying3 (n + 0) a b w
  rw [run_equalIn_struct w (n + 1) 28 _ _ hS hp]
  simp only [Program.fieldsOf, underlying28]
  simp only [Op.eqFields, Sem.run_bind, Sem.run_ite, p0, p1, e3, Result.andThen_ok]
  by_cases h0 : a0 = b0 <;> by_cases h1 : a1 = b1 <;> simp [h0, h1]
end Go.Proofs.YtclinbbghnebaaaGreat
namespace Go.Proofs.YtclinbbghnebaaaGreat
open Go Go.RowKit Go.Proofs.Tryz
set_option maxRecDepth 10000

end Go.Proofs.YtclinbbghnebaaaGreat
namespace Go.Proofs.YtclinbbghnebaaaGreat
open Go Go.RowKit Go.Proofs.Tryz
set_option maxRecDepth 10000
end Go.Proofs.YtclinbbghnebaaaGreat
namespace Go.Proofs.YtclinbbghnebaaaGreat
open Go Go.RowKit Go.Proofs.Tryz
set_option maxRecDepth 10000

def svR : Voy := ⟨⟨0, 10⟩, [⟨0, 100, ⟨50, 100⟩, ⟨0, 0⟩⟩], 200, 22⟩
theorem arr_r : ArrB svR 50 = ⟨30, 70⟩ ∧ ArrE svR 50 = 0 := ⟨by kernel_rfl, by kernel_rfl⟩
theorem haulRest_c  (w0 : World) :
    CallsV Tryz.prog 25 [] w0 (fun v w' => v = .agg #[.int .i64 600, .int .i64 840, .int .i64 600, .int .i64 2880, .int .i64 1000] ∧ Ext w0 w') := by
 refine f_n func25 ?_
 refine go ?_
 refine x_n fun bk2 w3 ebk2 sbk2 B4 u5 => ?_
 refine go ?_
 refine x_s fun w8 sw8 B10 u9 => ?_
 refine go ?_
 refine f_ret1 (v := .agg #[.int .i64 600, .int .i64 840, .int .i64 600, .int .i64 2880, .int .i64 1000]) results25 ⟨_, _, rfl, run_loadVarN (vs := [.int .i64 600, .int .i64 840, .int .i64 600, .int .i64 2880, .int .i64 1000]) isAgg73 sizeOf73 rfl (B10.at.sub 0 5)⟩ ?_
 exact ⟨rfl, u_d⟩

theorem kcrew1_c (a b : Int) (w0 : World) :
    CallsV Tryz.prog 71 [.int .i64 a, .int .i64 b] w0 (fun v w' => v = .agg #[.int .i64 a, .int .i64 a, .int .i64 b, .int .i64 b] ∧ Ext w0 w') := by
 refine f_n func71 ?_
 refine go ?_
 refine x_n fun bk2 w3 ebk2 sbk2 B4 u5 => ?_
 refine go ?_
 refine x_s fun w8 sw8 B10 u9 => ?_
 refine go ?_
 refine f_ret1 (v := .agg #[.int .i64 a, .int .i64 a, .int .i64 b, .int .i64 b]) results71 ⟨_, _, rfl, run_loadVarN (vs := [.int .i64 a, .int .i64 a, .int .i64 b, .int .i64 b]) isAgg77 sizeOf77 rfl (B10.at.sub 0 4)⟩ ?_
 exact ⟨rfl, u_d⟩

theorem knownRiver_c  (w0 : World) :
    CallsV Tryz.prog 72 [] w0 (fun v w' => v = .bool true ∧ Ext w0 w') := by
 refine f_n func72 ?_
 refine go ?_
 refine x_l fun bk3 w4 ebk3 sbk3 B5 u6 => ?_
 refine go ?_
 refine x_n fun bk8 w9 ebk8 sbk8 B10 u11 => ?_
 refine x_s fun w13 sw13 B15 u14 => ?_
 refine go ?_
 have B18 := ((B5.kx u11).keep u14 (by omega))
 refine x_c func109 rfl rfl (Level_c 0 0 0 0 bk3 _ (Sl.ofBlk (enc := encRt) (xs := cvR) (fun _ => rfl) B18) (by decide) (by decide) (by decide)) ?_
 rintro _ w20 ⟨rfl, u21⟩ zu21
 refine go ?_
 refine x_n fun bk24 w25 ebk24 sbk24 B26 u27 => ?_
 refine x_s fun w29 sw29 B31 u30 => ?_
 refine go ?_
 refine x_l fun bk34 w35 ebk34 sbk34 B36 u37 => ?_
 refine go ?_
 refine x_n fun bk39 w40 ebk39 sbk39 B41 u42 => ?_
 refine x_s fun w44 sw44 B46 u45 => ?_
 refine go ?_
 have B49 := ((B36.kx u42).keep u45 (by omega))
 refine x_c func9 rfl rfl (Arrive_c svR (some ⟨bk34, 0, none⟩) bk34 0 1 50 _ (Sl.ofBlk (enc := encRun) (xs := svR.runs) (fun _ => rfl) B49) (by decide)) ?_
 rintro _ w51 ⟨rfl, u52⟩ zu52
 iterate 2 refine st1 ?_
 refine t_same 26 (v := .agg #[.int .i64 30, .int .i64 70]) rfl (congrArg (fun x : Bnd => Value.agg #[.int .i64 x.lo, .int .i64 x.hi]) arr_r.1) ?_
 refine st1 ?_
 refine t_same 27 (v := .int .i64 0) rfl (congrArg (Value.int .i64) arr_r.2) ?_
 refine x_n fun bk55 w56 ebk55 sbk55 B57 u58 => ?_
 refine x_s fun w60 sw60 B62 u61 => ?_
 refine go ?_
 refine t_eqS (xs := [.int .i64 140, .int .i64 160]) (ys := [.int .i64 140, .int .i64 160]) (by kernel_rfl) (eqIn28 9998 140 160 140 160) rfl rfl rfl rfl (t_samehd (v := .bool true) rfl ?_)
 refine go ?_
 refine t_eqS (xs := [.int .i64 30, .int .i64 70]) (ys := [.int .i64 30, .int .i64 70]) (by kernel_rfl) (eqIn28 9998 30 70 30 70) rfl rfl rfl rfl (t_samehd (v := .bool true) rfl ?_)
 refine go ?_
 refine f_1 results72 ?_
 exact ⟨rfl, u_d⟩

theorem knownCrew_c  (w0 : World) :
    CallsV Tryz.prog 23 [] w0 (fun v w' => v = .bool true ∧ Ext w0 w') := by
 refine f_n func23 ?_
 refine go ?_
 refine x_c func25 rfl rfl (haulRest_c _) ?_
 rintro _ w5 ⟨rfl, u6⟩ zu6
 refine go ?_
 refine x_c func71 rfl rfl (kcrew1_c 0 300 _) ?_
 rintro _ w10 ⟨rfl, u11⟩ zu11
 refine go ?_
 refine x_c func71 rfl rfl (kcrew1_c 899 1200 _) ?_
 rintro _ w15 ⟨rfl, u16⟩ zu16
 refine x_l fun bk19 w20 ebk19 sbk19 B21 u22 => ?_
 refine x_c func21 rfl rfl (Rested_c knR knM (some ⟨bk19, 0, none⟩) bk19 0 2 _ (Sl.ofBlk (enc := encDty) (xs := knM) (fun _ => rfl) B21) (by decide) (by omega)) ?_
 rintro _ w25 ⟨⟨at9, ru9, po9, er9, rfl, hR9⟩, u26⟩ zu26
 obtain ⟨rfl, rfl, rfl, rfl⟩ := kn_rested hR9
 refine go ?_
 refine x_c func72 rfl rfl (knownRiver_c _) ?_
 rintro _ w31 ⟨rfl, u32⟩ zu32
 refine go ?_
 refine f_1 results23 ?_
 exact ⟨rfl, u_d⟩

end Go.Proofs.YtclinbbghnebaaaGreat
namespace Go.Proofs.YtclinbbghnebaaaGreat
open Go Go.RowKit
set_option maxRecDepth 10000

theorem cmpL_zero : ∀ {x y : List Int}, cmpL x y = 0 ↔ x = y
  | [], [] => by simp [cmpL]
  | [], _ :: _ => by simp [cmpL]
  | _ :: _, [] => by simp [cmpL]
  | a :: x, b :: y => by
    have := @cmpL_zero x y
    have h := @cmp_eq a b
    unfold cmpL
    by_cases q : cmpI3 a b = 0
    · rw [if_neg (by omega), this]
      have := h.1 q
      simp [this]
    · rw [if_pos q]
      constructor
      · intro e; exact absurd e q
      · intro e; simp only [List.cons.injEq] at e; exact absurd (h.2 e.1) q
theorem cmpL_trans : ∀ {x y z : List Int}, cmpL x y < 0 → cmpL y z < 0 → cmpL x z < 0
  | [], [], _, h, _ => absurd h (by simp [cmpL])
  | [], _ :: _, [], _, h => absurd h (by simp [cmpL])
  | [], _ :: _, _ :: _, _, _ => by simp [cmpL]
  | _ :: _, [], _, h, _ => absurd h (by simp [cmpL])
  | _ :: _, _ :: _, [], _, h => absurd h (by simp [cmpL])
  | a :: x, b :: y, c :: z, h1, h2 => by
    have ih := @cmpL_trans x y z
    have e1 := @cmp_eq a b; have e2 := @cmp_eq b c; have e3 := @cmp_eq a c
    have l1 := @cmp_lt a b; have l2 := @cmp_lt b c; have l3 := @cmp_lt a c
    rw [cmpL] at h1 h2 ⊢
    by_cases q1 : cmpI3 a b = 0
    · rw [if_neg (by omega)] at h1
      by_cases q2 : cmpI3 b c = 0
      · rw [if_neg (by omega)] at h2
        rw [if_neg (by omega)]
        exact ih h1 h2
      · rw [if_pos q2] at h2
        rw [if_pos (by omega)]; omega
    · rw [if_pos q1] at h1
      by_cases q2 : cmpI3 b c = 0
      · rw [if_pos (by omega)]; omega
      · rw [if_pos q2] at h2
        rw [if_pos (by omega)]; omega
theorem cmpL_anti : ∀ {x y : List Int}, 0 < cmpL x y → cmpL y x < 0
  | [], [], h => absurd h (by simp [cmpL])
  | [], _ :: _, h => absurd h (by simp [cmpL])
  | _ :: _, [], _ => by simp [cmpL]
  | a :: x, b :: y, h => by
    have ih := @cmpL_anti x y
    have e1 := @cmp_eq a b; have e2 := @cmp_eq b a
    have l1 := @cmp_gt a b; have l2 := @cmp_lt b a
    rw [cmpL] at h ⊢
    by_cases q1 : cmpI3 a b = 0
    · rw [if_neg (by omega)] at h
      rw [if_neg (by omega)]
      exact ih h
    · rw [if_pos q1] at h
      rw [if_pos (by omega)]; omega
theorem cmpL_pre (p x y : List Int) : cmpL (p ++ x) (p ++ y) = cmpL x y := by
  induction p with
  | nil => rfl
  | cons a p ih =>
    have e1 := (@cmp_eq a a).2 rfl
    rw [List.cons_append, List.cons_append, cmpL, if_neg (by omega), ih]
/-- A run is better than another one. -/
def bt (a b : Rn) : Bool := btr a.s a.g b.s b.g
theorem bt_iff {a b : Rn} : bt a b = true ↔ b.g < a.g ∨ (a.g = b.g ∧ (a.s.length < b.s.length ∨ (a.s.length = b.s.length ∧ cmpL a.s b.s < 0))) := by
  unfold bt btr
  rw [decide_eq_true_eq, or3_lt, cmp_lt, cmp_eq, cmp_lt, cmp_eq]
  omega
theorem bt_trans {a b c : Rn} (h1 : bt a b = true) (h2 : bt b c = true) : bt a c = true := by
  rw [bt_iff] at *
  have := @cmpL_trans a.s b.s c.s
  omega
theorem bt_total {a b : Rn} (h : bt a b = false) : bt b a = true ∨ a = b := by
  have h' : ¬ bt a b = true := by rw [h]; exact Bool.false_ne_true
  rw [bt_iff] at h' ⊢
  have h1 := @cmpL_zero a.s b.s
  have h2 := @cmpL_anti a.s b.s
  by_cases q : a.g = b.g ∧ a.s.length = b.s.length ∧ cmpL a.s b.s = 0
  · right
    obtain ⟨q1, _, q3⟩ := q
    have := h1.1 q3
    cases a; cases b; simp_all
  · left
    omega
theorem bt_neg {a b c : Rn} (h1 : bt a b = false) (h2 : bt b c = false) : bt a c = false := by
  cases h : bt a c
  · rfl
  · rcases bt_total h1 with q | q
    · exact absurd (bt_trans q h) (by rw [h2]; exact Bool.false_ne_true)
    · rw [q, h2] at h; cases h
theorem bt_irr (a : Rn) : bt a a = false := by
  have : ¬ bt a a = true := by
    rw [bt_iff]
    have := (@cmpL_zero a.s a.s).2 rfl
    omega
  simpa using this
theorem bt_pre (p : List Int) (g : Int) (a b : Rn) : bt ⟨p ++ a.s, g + a.g⟩ ⟨p ++ b.s, g + b.g⟩ = bt a b := by
  rw [Bool.eq_iff_iff, bt_iff, bt_iff]
  simp only [List.length_append, cmpL_pre]
  omega
/-- An offer is before another one. -/
def prc (l : List Off) (i j : Int) : Prop := (nth l i.toNat).b < (nth l j.toNat).b ∨ ((nth l i.toNat).b = (nth l j.toNat).b ∧ i < j)
instance (l : List Off) (i j : Int) : Decidable (prc l i j) := by unfold prc; infer_instance
theorem prc_trans {l : List Off} {i j k : Int} (h1 : prc l i j) (h2 : prc l j k) : prc l i k := by unfold prc at *; omega
theorem prc_irr {l : List Off} {i : Int} (h : prc l i i) : False := by unfold prc at h; omega
/-- Offers that can be carried one after another, in order. -/
def Fea (l : List Off) : Hul → List Int → Prop
  | _, [] => True
  | h, i :: r => (0 ≤ i ∧ i < (l.length : Int)) ∧ inT l h i ∧ (∀ j ∈ r.head?, prc l i j) ∧ Fea l (aftH h (nth l i.toNat)) r
def gnF (l : List Off) : Hul → List Int → Int
  | _, [] => 0
  | h, i :: r => (nth l i.toNat).p - farH h (nth l i.toNat) * h.c + gnF l (aftH h (nth l i.toNat)) r
/-- The best run of some. -/
def IsB (P : Rn → Prop) (r : Rn) : Prop := P r ∧ ∀ q, P q → bt q r = false
/-- Runs that begin with an offer; the way to it costs nothing. -/
def CandI (l : List Off) (h : Hul) (i : Int) (q : Rn) : Prop := ∃ r, q.s = i :: r ∧ (∀ j ∈ r.head?, prc l i j) ∧ Fea l (aftH h (nth l i.toNat)) r ∧ q.g = (nth l i.toNat).p + gnF l (aftH h (nth l i.toNat)) r
/-- Runs that go on with one of some later offers, or not at all. -/
def CandL (l : List Off) (h h' : Hul) (now : Rn) (L : List Int) (q : Rn) : Prop := q = now ∨ ∃ j ∈ L, inT l h' j ∧ ∃ c, CandI l h j c ∧ q = ⟨now.s ++ c.s, now.g + c.g - farH h' (nth l j.toNat) * h'.c⟩
theorem bst_best {l : List Off} {h h' : Hul} {fr : List Rn} {now : Rn} {later : List Int} (hf : ∀ j ∈ later, IsB (CandI l h j) (nth fr j.toNat)) : ∀ k, k ≤ later.length → IsB (CandL l h h' now (later.take k)) (bstK l h' fr now later k)
  | 0, _ => ⟨.inl rfl, fun q hq => by
    rcases hq with rfl | ⟨j, hj, _⟩
    · exact bt_irr _
    · simp at hj⟩
  | k + 1, hk => by
    obtain ⟨ih1, ih2⟩ := bst_best (h' := h') (now := now) hf k (by omega)
    have hm : nth later k ∈ later := nth_mem (by omega)
    obtain ⟨f1, f2⟩ := hf _ hm
    have hr : nxR l h' fr now (nth later k) = ⟨now.s ++ (nth fr (nth later k).toNat).s, now.g + (nth fr (nth later k).toNat).g - farH h' (nth l (nth later k).toNat) * h'.c⟩ := rfl
    have hcr : ∀ c, CandI l h (nth later k) c → bt ⟨now.s ++ c.s, now.g + c.g - farH h' (nth l (nth later k).toNat) * h'.c⟩ (nxR l h' fr now (nth later k)) = false := fun c hc => by
      have e := bt_pre now.s (now.g - farH h' (nth l (nth later k).toNat) * h'.c) c (nth fr (nth later k).toNat)
      rw [f2 c hc] at e
      rw [hr, ← e]
      congr 2 <;> omega
    rw [take_nth (show k < later.length by omega)]
    unfold bstK bstStep
    by_cases hb : bstOk l h' fr now (bstK l h' fr now later k) (nth later k)
    · rw [if_pos hb]
      refine ⟨.inr ⟨_, by simp, hb.1, _, f1, rfl⟩, fun q hq => ?_⟩
      have old : ∀ q, CandL l h h' now (later.take k) q → bt q (nxR l h' fr now (nth later k)) = false := fun q hq => by
        cases hq2 : bt q (nxR l h' fr now (nth later k))
        · rfl
        · exact absurd (bt_trans hq2 (show bt _ _ = true from hb.2)) (by rw [ih2 q hq]; exact Bool.false_ne_true)
      rcases hq with rfl | ⟨j, hj, hi, c, hc, rfl⟩
      · exact old _ (.inl rfl)
      · rcases List.mem_append.1 hj with hj | hj
        · exact old _ (.inr ⟨j, hj, hi, c, hc, rfl⟩)
        · obtain rfl := List.mem_singleton.1 hj
          exact hcr c hc
    · rw [if_neg hb]
      refine ⟨?_, fun q hq => ?_⟩
      · rcases ih1 with e | ⟨j, hj, q⟩
        · exact .inl e
        · exact .inr ⟨j, List.mem_append_left _ hj, q⟩
      · rcases hq with rfl | ⟨j, hj, hi, c, hc, rfl⟩
        · exact ih2 _ (.inl rfl)
        · rcases List.mem_append.1 hj with hj | hj
          · exact ih2 _ (.inr ⟨j, hj, hi, c, hc, rfl⟩)
          · obtain rfl := List.mem_singleton.1 hj
            have h9 : bt (nxR l h' fr now (nth later k)) (bstK l h' fr now later k) = false := by
              cases q : bt (nxR l h' fr now (nth later k)) (bstK l h' fr now later k)
              · rfl
              · exact absurd ⟨hi, q⟩ hb
            exact bt_neg (hcr c hc) h9
theorem bstP_best {l : List Off} {h h' : Hul} {fr : List Rn} {now : Rn} {later : List Int} (hf : ∀ j ∈ later, IsB (CandI l h j) (nth fr j.toNat)) : IsB (CandL l h h' now later) (bstP l h' fr now later) := by
  have := bst_best (h' := h') (now := now) hf later.length (Nat.le_refl _)
  rwa [List.take_length] at this
theorem nth_set {α : Type} [Inhabited α] {xs : List α} {i j : Nat} {v : α} (h : j < xs.length) : nth (xs.set i v) j = if i = j then v else nth xs j := by
  rw [nth_eq (by rw [List.length_set]; exact h), List.getElem_set, nth_eq h]
/-- The order is strict. -/
structure InsI (l : List Off) (k : Nat) (j : Nat) (es : List Int) : Prop where
  len : k < es.length
  jk : j ≤ k
  me : nth es j = (k : Int)
  oth : ∀ a b, a < b → b ≤ k → a ≠ j → b ≠ j → prc l (nth es a) (nth es b)
  up : ∀ b, j < b → b ≤ k → (nth l (nth es j).toNat).b < (nth l (nth es b).toNat).b
  dn : ∀ a, a < j → nth es a < (k : Int)
  dn2 : ∀ a, j < a → a ≤ k → nth es a < (k : Int)
  rest : ∀ a, k < a → a < es.length → nth es a = (a : Int)
theorem InsI.done {l : List Off} {k : Nat} : ∀ (j : Nat) (es : List Int), InsI l k j es → (∀ a b, a < b → b ≤ k → prc l (nth (insJ (cmpO l) es j) a) (nth (insJ (cmpO l) es j) b)) ∧ (∀ a, a ≤ k → nth (insJ (cmpO l) es j) a ≤ (k : Int)) ∧ (∀ a, k < a → a < es.length → nth (insJ (cmpO l) es j) a = (a : Int)) ∧ (insJ (cmpO l) es j).length = es.length
  | 0, es, h => by
    rw [insJ]
    have hm := h.me
    refine ⟨fun a b hab hb => ?_, fun a ha => ?_, h.rest, rfl⟩
    · by_cases q : a = 0
      · subst q
        exact .inl (h.up b hab hb)
      · exact h.oth a b hab hb q (by omega)
    · by_cases q : a = 0
      · subst q; omega
      · have := h.dn2 a (by omega) ha; omega
  | j + 1, es, h => by
    have hlen := h.len
    have hjk := h.jk
    unfold insJ
    split
    · rename_i hc
      unfold cmpO at hc
      have hs : ∀ i, i < es.length → nth ((es.set (j + 1) (nth es j)).set j (nth es (j + 1))) i = if j = i then nth es (j + 1) else if j + 1 = i then nth es j else nth es i := fun i hi => by
        rw [nth_set (by rw [List.length_set]; exact hi), nth_set hi]
      have := InsI.done (l := l) (k := k) j ((es.set (j + 1) (nth es j)).set j (nth es (j + 1))) ?_
      · simpa using this
      · have hme := h.me
        have hdj := h.dn j (by omega)
        refine ⟨by simpa using h.len, by omega, ?_, fun a b hab hb ha hb2 => ?_, fun b hb1 hb2 => ?_, fun a ha => ?_, fun a ha1 ha2 => ?_, fun a ha1 ha2 => ?_⟩
        · rw [hs j (by omega), if_pos rfl]; exact hme
        · have ea := hs a (by omega)
          have eb := hs b (by omega)
          rw [if_neg (fun e => ha e.symm)] at ea
          rw [if_neg (fun e => hb2 e.symm)] at eb
          rw [ea, eb]
          by_cases q1 : j + 1 = a
          · rw [if_pos q1, if_neg (by omega)]
            exact h.oth j b (by omega) hb (by omega) (by omega)
          · rw [if_neg q1]
            by_cases q2 : j + 1 = b
            · rw [if_pos q2]; exact h.oth a j (by omega) (by omega) (by omega) (by omega)
            · rw [if_neg q2]; exact h.oth a b hab hb (by omega) (by omega)
        · rw [hs j (by omega), hs b (by omega), if_pos rfl, if_neg (by omega)]
          by_cases q : j + 1 = b
          · rw [if_pos q]; omega
          · rw [if_neg q]; exact h.up b (by omega) hb2
        · rw [hs a (by omega), if_neg (by omega), if_neg (by omega)]; exact h.dn a (by omega)
        · rw [hs a (by omega), if_neg (by omega)]
          by_cases q : j + 1 = a
          · rw [if_pos q]; omega
          · rw [if_neg q]; exact h.dn2 a (by omega) ha2
        · simp only [List.length_set] at ha2
          rw [hs a ha2, if_neg (by omega), if_neg (by omega)]; exact h.rest a ha1 ha2
    · rename_i hc
      unfold cmpO at hc
      have hme := h.me
      refine ⟨fun a b hab hb => ?_, fun a ha => ?_, h.rest, rfl⟩
      · by_cases q1 : a = j + 1
        · subst q1
          exact .inl (h.up b hab hb)
        · by_cases q2 : b = j + 1
          · subst q2
            have h1 : (nth l (nth es a).toNat).b ≤ (nth l (nth es j).toNat).b := by
              by_cases q3 : a = j
              · rw [q3]; exact Int.le_refl _
              · have := h.oth a j (by omega) (by omega) (by omega) (by omega)
                unfold prc at this; omega
            have h2 := h.dn a (by omega)
            unfold prc; omega
          · exact h.oth a b hab hb q1 q2
      · by_cases q : a = j + 1
        · subst q; omega
        · rcases Nat.lt_or_ge a (j + 1) with q2 | q2
          · have := h.dn a q2; omega
          · have := h.dn2 a (by omega) ha; omega
theorem insI_sorted {l : List Off} : ∀ k, k < l.length → (∀ a b, a < b → b ≤ k → prc l (nth (insI (cmpO l) (iotaL l.length) k) a) (nth (insI (cmpO l) (iotaL l.length) k) b)) ∧ (∀ a, a ≤ k → nth (insI (cmpO l) (iotaL l.length) k) a ≤ (k : Int)) ∧ (∀ a, k < a → a < l.length → nth (insI (cmpO l) (iotaL l.length) k) a = (a : Int)) ∧ (insI (cmpO l) (iotaL l.length) k).length = l.length
  | 0, h => by
    rw [insI]
    exact ⟨fun a b h1 h2 => by omega, fun a ha => by rw [show a = 0 by omega, iotaL_nth h]; exact Int.le_refl _, fun a _ ha => iotaL_nth ha, iotaL_len _⟩
  | k + 1, h => by
    obtain ⟨h1, h2, h3, h4⟩ := insI_sorted (l := l) k (by omega)
    have := InsI.done (l := l) (k := k + 1) (k + 1) (insI (cmpO l) (iotaL l.length) k) ⟨by omega, Nat.le_refl _, h3 (k + 1) (by omega) h, fun a b hab hb ha hb2 => h1 a b hab (by omega), fun b q1 q2 => by omega, fun a ha => by have := h2 a (by omega); omega, fun a q1 q2 => by omega, fun a q1 q2 => h3 a (by omega) (by omega)⟩
    rw [h4] at this
    exact this
theorem ordP_sorted {l : List Off} : ∀ a b, a < b → b < l.length → prc l (nth (ordP l) a) (nth (ordP l) b) := fun a b hab hb => (insI_sorted (l := l) (l.length - 1) (by omega)).1 a b hab (by omega)
theorem ordP_all {l : List Off} {i : Int} (h : 0 ≤ i ∧ i < (l.length : Int)) : ∃ k, k < l.length ∧ nth (ordP l) k = i := by
  have h1 : i ∈ iotaL l.length := by
    have := nth_mem (xs := iotaL l.length) (i := i.toNat) (by rw [iotaL_len]; omega)
    rwa [iotaL_nth (by omega), show ((i.toNat : Nat) : Int) = i by omega] at this
  obtain ⟨k, hk, e⟩ := List.getElem_of_mem ((ordP_perm l).mem_iff.2 h1)
  rw [ordP_len] at hk
  exact ⟨k, hk, by rw [nth_eq (by rw [ordP_len]; exact hk)]; exact e⟩
/-- What comes behind an offer in the order is what is behind it. -/
theorem ordP_later {l : List Off} {k : Nat} (hk : k < l.length) {j : Int} : j ∈ (ordP l).drop (k + 1) ↔ (0 ≤ j ∧ j < (l.length : Int)) ∧ prc l (nth (ordP l) k) j := by
  constructor
  · intro h
    refine ⟨ordP_mem (List.mem_of_mem_drop h), ?_⟩
    obtain ⟨i, hi, rfl⟩ := List.getElem_of_mem h
    rw [List.length_drop, ordP_len] at hi
    rw [List.getElem_drop, ← nth_eq]
    exact ordP_sorted k (k + 1 + i) (by omega) (by omega)
  · rintro ⟨h1, h2⟩
    obtain ⟨m, hm, rfl⟩ := ordP_all h1
    have : k < m := by
      rcases Nat.lt_trichotomy k m with q | q | q
      · exact q
      · subst q; exact (prc_irr h2).elim
      · exact (prc_irr (prc_trans h2 (ordP_sorted m k q hk))).elim
    rw [nth_eq (by rw [ordP_len]; exact hm)]
    rw [show (ordP l)[m]'(by rw [ordP_len]; exact hm) = ((ordP l).drop (k + 1))[m - (k + 1)]'(by rw [List.length_drop, ordP_len]; omega) by rw [List.getElem_drop]; congr 1; omega]
    exact List.getElem_mem _
theorem candI_L {l : List Off} {h : Hul} {k : Nat} (hk : k < l.length) (q : Rn) : CandI l h (nth (ordP l) k) q ↔ CandL l h (aftH h (nth l (nth (ordP l) k).toNat)) ⟨[nth (ordP l) k], (nth l (nth (ordP l) k).toNat).p⟩ ((ordP l).drop (k + 1)) q := by
  generalize hi : nth (ordP l) k = i
  have hlat := fun j => ordP_later hk (j := j)
  rw [hi] at hlat
  constructor
  · rintro ⟨r, h1, h2, h3, h4⟩
    cases r with
    | nil =>
      refine .inl ?_
      have h5 : q.g = (nth l i.toNat).p := by rw [h4]; simp [gnF]
      cases q; simp_all
    | cons j r =>
      obtain ⟨h5, h6, h7, h8⟩ := h3
      refine .inr ⟨j, (hlat j).2 ⟨h5, h2 j (by simp)⟩, h6, ⟨j :: r, (nth l j.toNat).p + gnF l (aftH h (nth l j.toNat)) r⟩, ⟨r, rfl, h7, h8, rfl⟩, ?_⟩
      have h9 : q.g = (nth l i.toNat).p + ((nth l j.toNat).p + gnF l (aftH h (nth l j.toNat)) r) - farH (aftH h (nth l i.toNat)) (nth l j.toNat) * (aftH h (nth l i.toNat)).c := by
        rw [h4, gnF]
        have : gnF l (aftH (aftH h (nth l i.toNat)) (nth l j.toNat)) r = gnF l (aftH h (nth l j.toNat)) r := rfl
        rw [this]; omega
      cases q; simp_all
  · rintro (rfl | ⟨j, hj, hin, c, ⟨r, c1, c2, c3, c4⟩, rfl⟩)
    · exact ⟨[], rfl, fun j hj => by simp at hj, trivial, by simp [gnF]⟩
    · obtain ⟨q1, q2⟩ := (hlat j).1 hj
      refine ⟨j :: r, by rw [c1]; rfl, fun a ha => ?_, ⟨q1, hin, c2, c3⟩, ?_⟩
      · simp only [List.head?_cons, Option.mem_def, Option.some.injEq] at ha
        subst ha; exact q2
      · rw [gnF, c4]
        have : gnF l (aftH (aftH h (nth l i.toNat)) (nth l j.toNat)) r = gnF l (aftH h (nth l j.toNat)) r := rfl
        rw [this]
        show (nth l i.toNat).p + ((nth l j.toNat).p + gnF l (aftH h (nth l j.toNat)) r) - _ = _
        omega
theorem tabT_best {l : List Off} {h : Hul} : ∀ t, t ≤ l.length → ∀ k, l.length - t ≤ k → k < l.length → IsB (CandI l h (nth (ordP l) k)) (nth (tabT l h (ordP l) t) (nth (ordP l) k).toNat)
  | 0, _, k, h1, h2 => by omega
  | t + 1, ht, k, h1, h2 => by
    have ih := tabT_best (l := l) (h := h) t (by omega)
    have hk0 := ordP_mem (nth_mem (xs := ordP l) (i := k) (by rw [ordP_len]; exact h2))
    have hn0 := ordP_mem (nth_mem (xs := ordP l) (i := l.length - (t + 1)) (by rw [ordP_len]; omega))
    rw [tabT, nth_set (by rw [tabT_len]; omega)]
    by_cases q : k = l.length - (t + 1)
    · subst q
      rw [if_pos rfl]
      have := bstP_best (l := l) (h := h) (h' := aftH h (nth l (nth (ordP l) (l.length - (t + 1))).toNat)) (fr := tabT l h (ordP l) t) (now := ⟨[nth (ordP l) (l.length - (t + 1))], (nth l (nth (ordP l) (l.length - (t + 1))).toNat).p⟩) (later := (ordP l).drop (l.length - t)) (fun j hj => by
        obtain ⟨i, hi, rfl⟩ := List.getElem_of_mem hj
        rw [List.length_drop, ordP_len] at hi
        rw [List.getElem_drop, ← nth_eq]
        exact ih _ (by omega) (by omega))
      have e : l.length - t = l.length - (t + 1) + 1 := by omega
      rw [e] at this ⊢
      exact ⟨(candI_L h2 _).2 this.1, fun q hq => this.2 q ((candI_L h2 q).1 hq)⟩
    · rw [if_neg (fun e => by
        have h9 : nth (ordP l) (l.length - (t + 1)) = nth (ordP l) k := by omega
        have := ordP_sorted (l := l) (l.length - (t + 1)) k (by omega) h2
        rw [h9] at this
        exact prc_irr this)]
      exact ih k (by omega) h2
/-- Best returns the best list that can be carried. -/
theorem bestP_best (l : List Off) (h : Hul) : IsB (fun q => Fea l h q.s ∧ q.g = gnF l h q.s) (bestP l h) := by
  have := bstP_best (l := l) (h := h) (h' := h) (fr := tabT l h (ordP l) l.length) (now := ⟨[], 0⟩) (later := ordP l) (fun j hj => by
    obtain ⟨i, hi, rfl⟩ := List.getElem_of_mem hj
    have hi2 := hi
    rw [ordP_len] at hi2
    rw [← nth_eq]
    exact tabT_best l.length (Nat.le_refl _) _ (by omega) hi2)
  have key : ∀ q : Rn, (Fea l h q.s ∧ q.g = gnF l h q.s) ↔ CandL l h h ⟨[], 0⟩ (ordP l) q := fun q => by
    constructor
    · rintro ⟨h1, h2⟩
      cases hs : q.s with
      | nil =>
        refine .inl ?_
        rw [hs, gnF] at h2
        cases q; simp_all
      | cons j r =>
        rw [hs] at h1 h2
        obtain ⟨q1, q2, q3, q4⟩ := h1
        obtain ⟨m, hm, e⟩ := ordP_all q1
        refine .inr ⟨j, by rw [← e]; exact nth_mem (by rw [ordP_len]; exact hm), q2, ⟨j :: r, (nth l j.toNat).p + gnF l (aftH h (nth l j.toNat)) r⟩, ⟨r, rfl, q3, q4, rfl⟩, ?_⟩
        rw [gnF] at h2
        have : q.g = 0 + ((nth l j.toNat).p + gnF l (aftH h (nth l j.toNat)) r) - farH h (nth l j.toNat) * h.c := by omega
        cases q; simp_all
    · rintro (rfl | ⟨j, hj, hin, c, ⟨r, c1, c2, c3, c4⟩, rfl⟩)
      · exact ⟨trivial, rfl⟩
      · show Fea l h ([] ++ c.s) ∧ 0 + c.g - _ = gnF l h ([] ++ c.s)
        rw [List.nil_append, c1]
        refine ⟨⟨ordP_mem hj, hin, c2, c3⟩, ?_⟩
        rw [gnF, c4]; omega
  exact ⟨(key _).2 this.1, fun q hq => this.2 q ((key q).1 hq)⟩
end Go.Proofs.YtclinbbghnebaaaGreat
namespace Go.Proofs.YtclinbbghnebaaaGreat
open Go Go.RowKit Go.Proofs.Tryz
set_option maxRecDepth 10000
structure W5 where
  a : Int
  b : Int
  c : Int
  d : Int
  e : Int
instance : Inhabited W5 := ⟨⟨default, default, default, default, default⟩⟩
theorem bst_gn {l : List Off} {h : Hul} : 0 ≤ (bestP l h).g ∧ ((bestP l h).s.length = 0 → (bestP l h).g = 0) ∧ Fea l h (bestP l h).s ∧ gnF l h (bestP l h).s = (bestP l h).g := by
  obtain ⟨⟨h1, h2⟩, h3⟩ := bestP_best l h
  refine ⟨?_, fun e => ?_, h1, h2.symm⟩
  · have := h3 ⟨[], 0⟩ ⟨trivial, rfl⟩
    have h4 : ¬ bt ⟨[], 0⟩ (bestP l h) = true := by rw [this]; exact Bool.false_ne_true
    rw [bt_iff] at h4
    simp only [List.length_nil] at h4
    omega
  · rw [h2, List.eq_nil_of_length_eq_zero e]; rfl

/-- An offer by small numbers. -/
def offV (u : W5) : Off := ⟨200 + 2 * u.a, 200 + u.b, 5 * u.c, 5 * u.c + u.d, 20 * u.e⟩
/-- A single offer that can be carried gains no more than the best list. -/
theorem bst_one {l : List Off} {h : Hul} {j : Nat} (hj : j < l.length) (h1 : h.m + farH h (nth l j) * h.s ≤ (nth l j).b) : (nth l j).p - farH h (nth l j) * h.c ≤ (bestP l h).g := by
  have hf : Fea l h [(j : Int)] := by
    refine ⟨by omega, ?_, fun x hx => by simp at hx, trivial⟩
    unfold inT; simpa using h1
  have hg : gnF l h [(j : Int)] = (nth l j).p - farH h (nth l j) * h.c := by simp [gnF]
  have := (bestP_best l h).2 ⟨[(j : Int)], gnF l h [(j : Int)]⟩ ⟨hf, rfl⟩
  have h4 : ¬ bt ⟨[(j : Int)], gnF l h [(j : Int)]⟩ (bestP l h) = true := by rw [this]; exact Bool.false_ne_true
  rw [bt_iff, hg] at h4
  dsimp only at h4
  omega
theorem fea_at {l : List Off} {h : Hul} {s : List Int} {k : Nat} (hk : k < s.length) (hf : Fea l h (s.drop k)) : (0 ≤ nth s k ∧ nth s k < (l.length : Int)) ∧ h.m + farH h (nth l (nth s k).toNat) * h.s ≤ (nth l (nth s k).toNat).b ∧ Fea l (aftH h (nth l (nth s k).toNat)) (s.drop (k + 1)) ∧ gnF l h (s.drop k) = (nth l (nth s k).toNat).p - farH h (nth l (nth s k).toNat) * h.c + gnF l (aftH h (nth l (nth s k).toNat)) (s.drop (k + 1)) := by
  rw [drop_nth hk] at hf ⊢
  exact ⟨hf.1, hf.2.1, hf.2.2.2, rfl⟩
theorem fea_pair {l : List Off} : ∀ {s : List Int} {h : Hul}, Fea l h s → s.Pairwise (prc l) ∧ ∀ x ∈ s, 0 ≤ x ∧ x < (l.length : Int)
  | [], _, _ => ⟨List.Pairwise.nil, fun x hx => by simp at hx⟩
  | i :: r, h, ⟨h1, _, h3, h4⟩ => by
    obtain ⟨p1, p2⟩ := fea_pair h4
    refine ⟨List.pairwise_cons.2 ⟨fun j hj => ?_, p1⟩, fun x hx => ?_⟩
    · cases r with
      | nil => simp at hj
      | cons a r =>
        have h5 := h3 a (by simp)
        rcases List.mem_cons.1 hj with rfl | q
        · exact h5
        · exact prc_trans h5 ((List.pairwise_cons.1 p1).1 j q)
    · rcases List.mem_cons.1 hx with rfl | q
      · exact h1
      · exact p2 x q
theorem nodup_leI : ∀ {xs ys : List Int}, xs.Nodup → (∀ x ∈ xs, x ∈ ys) → xs.length ≤ ys.length
  | [], _, _, _ => Nat.zero_le _
  | x :: xs, ys, hn, h => by
    obtain ⟨s, t, rfl⟩ := List.append_of_mem (h x (by simp))
    rw [List.nodup_cons] at hn
    have := nodup_leI (xs := xs) (ys := s ++ t) hn.2 fun z hz => by
      have h1 := h z (List.mem_cons_of_mem _ hz)
      rw [List.mem_append, List.mem_cons] at h1
      rw [List.mem_append]
      rcases h1 with q | q | q
      · exact .inl q
      · rw [q] at hz; exact absurd hz hn.1
      · exact .inr q
    rw [List.length_append] at this
    rw [List.length_append, List.length_cons, List.length_cons]
    omega
/-- The best list has no more members than there are offers. -/
theorem bst_few {l : List Off} {h : Hul} : (bestP l h).s.length ≤ l.length := by
  obtain ⟨p1, p2⟩ := fea_pair (bst_gn (l := l) (h := h)).2.2.1
  have h1 : (bestP l h).s.Nodup := p1.imp fun {a b} q e => by subst e; exact prc_irr q
  have := nodup_leI (ys := iotaL l.length) h1 fun x hx => by
    have h2 := p2 x hx
    have := nth_mem (xs := iotaL l.length) (i := x.toNat) (by rw [iotaL_len]; omega)
    rwa [iotaL_nth (by omega), show ((x.toNat : Nat) : Int) = x by omega] at this
  rwa [iotaL_len] at this
/-- The greatest gain with one offer alone, so far. -/
def OneOk (xs : List W5) (h : Hul) (k : Nat) (on : Int) : Prop := 0 ≤ on ∧ (on = 0 ∨ ∃ j, j < k ∧ h.m + farH h (offV (nth xs j)) * h.s ≤ (offV (nth xs j)).b ∧ on = (offV (nth xs j)).p - farH h (offV (nth xs j)) * h.c)
theorem OneOk.zero (xs : List W5) (h : Hul) : OneOk xs h 0 0 := ⟨Int.le_refl _, .inl rfl⟩
theorem OneOk.mono {xs : List W5} {h : Hul} {k : Nat} {on : Int} (q : OneOk xs h k on) : OneOk xs h (k + 1) on :=
  ⟨q.1, q.2.imp id fun ⟨j, h1, h2⟩ => ⟨j, by omega, h2⟩⟩
theorem OneOk.max {xs : List W5} {h : Hul} {k : Nat} {on g : Int} (q : OneOk xs h k on) (h1 : h.m + farH h (offV (nth xs k)) * h.s ≤ (offV (nth xs k)).b) (h2 : g = (offV (nth xs k)).p - farH h (offV (nth xs k)) * h.c) : OneOk xs h (k + 1) (Max.max on g) := by
  obtain ⟨q1, q2⟩ := q.mono
  by_cases c : on ≤ g
  · exact ⟨by omega, .inr ⟨k, by omega, h1, by omega⟩⟩
  · rw [show Max.max on g = on by omega]
    exact ⟨q1, q2⟩
theorem nth_offs {xs : List W5} {k j : Nat} (h : j < k) (hk : k ≤ xs.length) : nth ((xs.take k).map offV) j = offV (nth xs j) := by
  rw [nth_eq (by rw [List.length_map, List.length_take]; omega), nth_eq (show j < xs.length by omega)]
  simp
theorem OneOk.fin {xs : List W5} {h : Hul} {k : Nat} {on : Int} (q : OneOk xs h k on) (hk : k ≤ xs.length) : on ≤ (bestP ((xs.take k).map offV) h).g := by
  rcases q.2 with e | ⟨j, h1, h2, h3⟩
  · rw [e]; exact bst_gn.1
  · have := bst_one (l := (xs.take k).map offV) (h := h) (j := j) (by rw [List.length_map, List.length_take]; omega) (by rw [nth_offs h1 hk]; exact h2)
    rw [nth_offs h1 hk] at this
    omega
end Go.Proofs.YtclinbbghnebaaaGreat
