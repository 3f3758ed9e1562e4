/-
  Part 20 of the proof: contracts and plain laws. Conditions: none.
-/
import Derived.Test.YtclinbbghnebaaaGreatCK19
namespace Go.Proofs.YtclinbbghnebaaaGreat
open Go Go.RowKit
set_option maxRecDepth 10000

theorem Asc.pw {α : Type} [Inhabited α] {c : α → α → Int} {ys : List α} (h : Asc c ys) : ys.Pairwise (fun a b => ¬ c b a < 0) := List.pairwise_iff_getElem.2 fun i j hi hj hij => by
  have := h i j hij hj
  rwa [nth_eq hi, nth_eq hj] at this
section
variable {α β : Type} [DecidableEq α]
def upR (a : α) (v : β) : List (α × β) → List (α × β)
  | [] => [(a, v)]
  | p :: m => if a = p.1 then (a, v) :: m else p :: upR a v m
def gtR (a : α) : List (α × β) → Option β
  | [] => none
  | p :: m => if a = p.1 then some p.2 else gtR a m
theorem fG_shift (a : α) : ∀ (m : List (α × β)) (i : Nat), fG m a (i + 1) = (fG m a i).map fun p => (p.1 + 1, p.2)
  | [], _ => rfl
  | p :: m, i => by
    unfold fG
    split
    · rfl
    · exact fG_shift a m (i + 1)
theorem gtG_eq (a : α) : ∀ (m : List (α × β)), gtG m a = gtR a m
  | [] => rfl
  | p :: m => by
    unfold gtG fG gtR
    split
    · rfl
    · rw [fG_shift, ← gtG_eq a m]
      unfold gtG
      cases fG m a 0 <;> rfl
theorem upG_eq (a : α) (v : β) : ∀ (m : List (α × β)), upG m a v = upR a v m
  | [] => rfl
  | p :: m => by
    have ih := upG_eq a v m
    unfold upG fG upR
    by_cases q : a = p.1
    · simp [q]
    · simp only [if_neg q]
      rw [fG_shift, ← ih]
      unfold upG
      cases fG m a 0 <;> rfl
theorem gtR_upR (a : α) (v : β) (b : α) : ∀ (m : List (α × β)), gtR b (upR a v m) = if b = a then some v else gtR b m
  | [] => by
    unfold upR gtR
    split <;> rfl
  | p :: m => by
    unfold upR
    split
    · rename_i e
      unfold gtR
      by_cases q : b = a
      · simp [q]
      · rw [if_neg q, if_neg q, if_neg (by rw [← e]; exact q)]
    · rename_i e
      rw [gtR, gtR_upR a v b m]
      by_cases q : b = a
      · subst q; rw [if_neg e, if_pos rfl, if_pos rfl]
      · rw [if_neg q, if_neg q, gtR]
theorem upR_key (a : α) (v : β) : ∀ (m : List (α × β)) {k : α}, k ∈ (upR a v m).map (·.1) → k = a ∨ k ∈ m.map (·.1)
  | [], k, h => by simp [upR] at h; exact .inl h
  | p :: m, k, h => by
    unfold upR at h
    split at h
    · rcases List.mem_cons.1 h with q | q
      · exact .inl q
      · exact .inr (List.mem_cons_of_mem _ q)
    · rcases List.mem_cons.1 h with q | q
      · exact .inr (by rw [q]; simp)
      · exact (upR_key a v m q).imp_right (List.mem_cons_of_mem _)
theorem upR_nodup (a : α) (v : β) : ∀ {m : List (α × β)}, (m.map (·.1)).Nodup → ((upR a v m).map (·.1)).Nodup
  | [], _ => by simp [upR]
  | p :: m, h => by
    rw [List.map_cons, List.nodup_cons] at h
    unfold upR
    split
    · rename_i e
      rw [List.map_cons, List.nodup_cons]
      exact ⟨by rw [e]; exact h.1, h.2⟩
    · rename_i e
      rw [List.map_cons, List.nodup_cons]
      exact ⟨fun q => (upR_key a v m q).elim (fun q => e q.symm) h.1, upR_nodup a v h.2⟩
theorem gtR_mem {a : α} {v : β} : ∀ {m : List (α × β)}, gtR a m = some v → (a, v) ∈ m
  | [], h => by cases h
  | p :: m, h => by
    unfold gtR at h
    split at h
    · rename_i e
      simp only [Option.some.injEq] at h
      rw [e, ← h]; simp
    · exact List.mem_cons_of_mem _ (gtR_mem h)
theorem mem_gtR {a : α} {v : β} : ∀ {m : List (α × β)}, (m.map (·.1)).Nodup → (a, v) ∈ m → gtR a m = some v
  | [], _, h => by cases h
  | p :: m, hn, h => by
    rw [List.map_cons, List.nodup_cons] at hn
    unfold gtR
    rcases List.mem_cons.1 h with q | q
    · rw [← q]; simp
    · rw [if_neg (fun e => hn.1 (by rw [← e]; exact List.mem_map.2 ⟨_, q, rfl⟩))]
      exact mem_gtR hn.2 q
end
/-- What the editions' map holds. -/
theorem edS_at {l : List Msg} : ∀ {k : Nat}, k ≤ l.length → ∀ e, (∀ o, gtR e (edS l k) = some o → o ∈ l.take k ∧ edK o = e) ∧ (gtR e (edS l k) = none → ∀ m ∈ l.take k, edK m ≠ e)
  | 0, _, e => ⟨fun o h => (by cases h), fun _ m h => (by simp at h)⟩
  | k + 1, hk, e => by
    obtain ⟨h1, h2⟩ := edS_at (l := l) (k := k) (by omega) e
    rw [edS, upG_eq, gtR_upR, take_nth (show k < l.length by omega)]
    by_cases q : e = edK (nth l k)
    · rw [if_pos q]
      exact ⟨fun o h => by simp only [Option.some.injEq] at h; subst h; exact ⟨by simp, q.symm⟩, fun h => by cases h⟩
    · rw [if_neg q]
      refine ⟨fun o h => ⟨List.mem_append_left _ (h1 o h).1, (h1 o h).2⟩, fun h m hm => ?_⟩
      rcases List.mem_append.1 hm with hm | hm
      · exact h2 h m hm
      · rw [List.mem_singleton.1 hm]; exact fun e9 => q e9.symm
/-- No two messages of one edition differ. -/
def NoEd (l : List Msg) : Prop := ∀ a ∈ l, ∀ b ∈ l, edK a = edK b → a = b
theorem noEd_of {l : List Msg} (h : ∀ k, k < l.length → ¬ edErr l k) : NoEd l := by
  have key : ∀ k, k ≤ l.length → ∀ a ∈ l.take k, ∀ b ∈ l.take k, edK a = edK b → a = b := by
    intro k
    induction k with
    | zero => intro _ a ha; simp at ha
    | succ k ih =>
      intro hk
      have one : ∀ a ∈ l.take k, edK a = edK (nth l k) → a = nth l k := fun a ha e => by
        obtain ⟨h1, h2⟩ := edS_at (l := l) (k := k) (by omega) (edK (nth l k))
        cases hg : gtR (edK (nth l k)) (edS l k) with
        | none => exact absurd e (h2 hg a ha)
        | some o =>
          obtain ⟨h3, h4⟩ := h1 o hg
          have h5 : o = nth l k := Classical.byContradiction fun q => h k (by omega) ⟨o, by rw [gtG_eq]; exact hg, q⟩
          rw [← h5]
          exact ih (by omega) a ha o h3 (by rw [e, h4])
      intro a ha b hb e
      rw [take_nth (show k < l.length by omega)] at ha hb
      rcases List.mem_append.1 ha with ha | ha <;> rcases List.mem_append.1 hb with hb | hb
      · exact ih (by omega) a ha b hb e
      · rw [List.mem_singleton.1 hb] at e ⊢; exact one a ha e
      · rw [List.mem_singleton.1 ha] at e ⊢; exact (one b hb e.symm).symm
      · rw [List.mem_singleton.1 ha, List.mem_singleton.1 hb]
  have := key l.length (Nat.le_refl _)
  rw [List.take_length] at this
  exact this
theorem not_edErr {l : List Msg} (h : NoEd l) {k : Nat} (hk : k < l.length) : ¬ edErr l k := fun ⟨o, hg, hn⟩ => by
  rw [gtG_eq] at hg
  obtain ⟨h1, h2⟩ := (edS_at (l := l) (k := k) (by omega) _).1 o hg
  exact hn (h o (List.mem_of_mem_take h1) _ (nth_mem hk) h2)
/-- What the map of the latest revisions holds. -/
theorem laS_at {l : List Msg} : ∀ {k : Nat}, k ≤ l.length → ((laS l k).map (·.1)).Nodup ∧ ∀ e, (∀ o, gtR e (laS l k) = some o → o ∈ l.take k ∧ keK o = e ∧ ∀ m ∈ l.take k, keK m = e → m.r ≤ o.r) ∧ (gtR e (laS l k) = none → ∀ m ∈ l.take k, keK m ≠ e)
  | 0, _ => ⟨by simp [laS], fun e => ⟨fun o h => (by cases h), fun _ m h => (by simp at h)⟩⟩
  | k + 1, hk => by
    obtain ⟨h0, h12⟩ := laS_at (l := l) (k := k) (by omega)
    rw [take_nth (show k < l.length by omega)]
    by_cases hq : laOld (laS l k) (nth l k) = true
    · rw [laS, if_pos hq, upG_eq]
      refine ⟨upR_nodup _ _ h0, fun e => ?_⟩
      obtain ⟨h1, h2⟩ := h12 e
      rw [gtR_upR]
      by_cases q : e = keK (nth l k)
      · rw [if_pos q]
        refine ⟨fun o h => ?_, fun h => by cases h⟩
        simp only [Option.some.injEq] at h
        subst h
        refine ⟨by simp, q.symm, fun m hm hk9 => ?_⟩
        rcases List.mem_append.1 hm with hm | hm
        · unfold laOld at hq
          rw [gtG_eq, ← q] at hq
          cases hg : gtR e (laS l k) with
          | none => exact absurd hk9 (h2 hg m hm)
          | some o =>
            rw [hg] at hq
            have h3 := (h1 o hg).2.2 m hm hk9
            simp only [decide_eq_true_eq] at hq
            omega
        · rw [List.mem_singleton.1 hm]; exact Int.le_refl _
      · rw [if_neg q]
        refine ⟨fun o h => ⟨List.mem_append_left _ (h1 o h).1, (h1 o h).2.1, fun m hm hk9 => ?_⟩, fun h m hm => ?_⟩
        · rcases List.mem_append.1 hm with hm | hm
          · exact (h1 o h).2.2 m hm hk9
          · rw [List.mem_singleton.1 hm] at hk9; exact absurd hk9.symm q
        · rcases List.mem_append.1 hm with hm | hm
          · exact h2 h m hm
          · rw [List.mem_singleton.1 hm]; exact fun e9 => q e9.symm
    · rw [laS, if_neg hq]
      refine ⟨h0, fun e => ?_⟩
      obtain ⟨h1, h2⟩ := h12 e
      have old : ∃ v, gtR (keK (nth l k)) (laS l k) = some v ∧ (nth l k).r ≤ v.r := by
        unfold laOld at hq
        rw [gtG_eq] at hq
        cases hg : gtR (keK (nth l k)) (laS l k) with
        | none => rw [hg] at hq; simp at hq
        | some v => rw [hg] at hq; simp only [decide_eq_true_eq] at hq; exact ⟨v, rfl, by omega⟩
      obtain ⟨v, hv, hr⟩ := old
      refine ⟨fun o h => ⟨List.mem_append_left _ (h1 o h).1, (h1 o h).2.1, fun m hm hk9 => ?_⟩, fun h m hm => ?_⟩
      · rcases List.mem_append.1 hm with hm | hm
        · exact (h1 o h).2.2 m hm hk9
        · rw [List.mem_singleton.1 hm] at hk9 ⊢
          rw [hk9, h] at hv
          simp only [Option.some.injEq] at hv
          subst hv; exact hr
      · rcases List.mem_append.1 hm with hm | hm
        · exact h2 h m hm
        · rw [List.mem_singleton.1 hm]
          intro e9
          rw [e9, h] at hv
          cases hv
/-- A fact: the latest revision of its message, and not withdrawn. -/
def LastIn (l : List Msg) (x : Msg) : Prop := x ∈ l ∧ x.k ≠ 7 ∧ ∀ m ∈ l, m.c = x.c → m.n = x.n → m.r ≤ x.r
abbrev FLt (a b : Msg) : Prop := cmpF a b < 0
theorem cmpF_ne {a b : Msg} (h : ¬ cmpF b a < 0) (hn : keK a ≠ keK b) : cmpF a b < 0 := by
  have : ¬ (a.c = b.c ∧ a.n = b.n) := fun q => hn (by unfold keK; rw [q.1, q.2])
  rw [cmpF_lt] at *
  omega
theorem RdR.spec {l out : List Msg} (h : RdR l out 0) : rdE l = 0 ∧ NoEd l ∧ out.Pairwise FLt ∧ ∀ x, x ∈ out ↔ LastIn l x := by
  rcases h with ⟨h1, h2, _⟩ | ⟨_, h2, _⟩ | ⟨h0, _, hne, hp, ha⟩
  · omega
  · omega
  · have hE := noEd_of hne
    obtain ⟨hn, hl⟩ := laS_at (l := l) (k := l.length) (Nat.le_refl _)
    rw [List.take_length] at hl
    have keyp : ∀ p ∈ laS l l.length, p.1 = keK p.2 := fun p hp => ((hl p.1).1 p.2 (mem_gtR hn hp)).2.1.symm
    refine ⟨h0, hE, ?_, fun x => ?_⟩
    · have h3 : out.Pairwise (fun a b => keK a ≠ keK b) := by
        refine hp.symm.pairwise ?_ (fun {a b} q => fun e => q e.symm)
        refine List.Pairwise.filter _ ?_
        rw [List.pairwise_map]
        have h4 := hn
        unfold List.Nodup at h4
        rw [List.pairwise_map] at h4
        exact h4.imp_of_mem (fun ha hb q e => q (by rw [keyp _ ha, keyp _ hb, e]))
      exact (ha.pw.and h3).imp (fun q => cmpF_ne q.1 q.2)
    · rw [hp.mem_iff, List.mem_filter, List.mem_map]
      constructor
      · rintro ⟨⟨p, hp9, rfl⟩, hk⟩
        have h5 := (hl p.1).1 p.2 (mem_gtR hn hp9)
        exact ⟨h5.1, by simpa using hk, fun m hm hc hn9 => h5.2.2 m hm (by rw [keyp p hp9]; unfold keK; rw [hc, hn9])⟩
      · rintro ⟨hx, hk, hr⟩
        refine ⟨?_, by simpa using hk⟩
        cases hg : gtR (keK x) (laS l l.length) with
        | none => exact absurd rfl ((hl (keK x)).2 hg x hx)
        | some o =>
          obtain ⟨h6, h7, h8⟩ := (hl (keK x)).1 o hg
          have hc : o.c = x.c := congrArg Prod.fst h7
          have hn9 : o.n = x.n := congrArg Prod.snd h7
          have h9 := h8 x hx rfl
          have h10 := hr o h6 hc hn9
          have e : o = x := hE o h6 x hx (by unfold edK; rw [hc, hn9, show o.r = x.r by omega])
          exact ⟨_, gtR_mem hg, e⟩
theorem RdR.err {l out : List Msg} {e : Int} (h : RdR l out e) : (rdE l ≠ 0 ∧ e = rdE l ∧ out = []) ∨ (rdE l = 0 ∧ ¬ NoEd l ∧ e = 6 ∧ out = []) ∨ (rdE l = 0 ∧ NoEd l ∧ e = 0) := by
  rcases h with ⟨h1, h2, h3⟩ | ⟨h0, h2, h3, k, hk, he⟩ | ⟨h0, h2, hne, _⟩
  · exact .inl ⟨h1, h2, h3⟩
  · exact .inr (.inl ⟨h0, fun q => not_edErr q hk he, h2, h3⟩)
  · exact .inr (.inr ⟨h0, noEd_of hne, h2⟩)
end Go.Proofs.YtclinbbghnebaaaGreat
namespace Go.Proofs.YtclinbbghnebaaaGreat
open Go Go.RowKit
set_option maxRecDepth 10000

/-- Laytime minute by minute: what is used, and over, of the minutes behind the begin. -/
structure MnS where
  u : Int
  o : Int
def mnK (L b : Int) (p : Int → Bool) : Nat → MnS
  | 0 => ⟨0, 0⟩
  | i + 1 => if (mnK L b p i).u = L then ⟨L, (mnK L b p i).o + 1⟩ else if p (b + (i : Int)) = true then mnK L b p i else ⟨(mnK L b p i).u + 1, (mnK L b p i).o⟩
theorem mnK_run {L b : Int} {p : Int → Bool} {i : Nat} {u : Int} (h : mnK L b p i = ⟨u, 0⟩) : ∀ (m : Nat), u + (m : Int) ≤ L → (∀ j : Nat, j < m → p (b + (i : Int) + (j : Int)) = false) → mnK L b p (i + m) = ⟨u + (m : Int), 0⟩
  | 0, _, _ => by simpa using h
  | m + 1, hu, hp => by
    have ih := mnK_run h m (by omega) (fun j hj => hp j (by omega))
    have h1 := hp m (by omega)
    rw [← Nat.add_assoc, mnK, ih]
    rw [if_neg (show ¬ u + (m : Int) = L by omega), show b + ((i + m : Nat) : Int) = b + (i : Int) + (m : Int) by omega, h1]
    simp only [Bool.false_eq_true, if_false, MnS.mk.injEq, and_true]
    omega
theorem mnK_idle {L b : Int} {p : Int → Bool} {i : Nat} {s : MnS} (h : mnK L b p i = s) (hu : s.u ≠ L) : ∀ (m : Nat), (∀ j : Nat, j < m → p (b + (i : Int) + (j : Int)) = true) → mnK L b p (i + m) = s
  | 0, _ => h
  | m + 1, hp => by
    have ih := mnK_idle h hu m (fun j hj => hp j (by omega))
    have h1 := hp m (by omega)
    rw [← Nat.add_assoc, mnK, ih, if_neg hu, show b + ((i + m : Nat) : Int) = b + (i : Int) + (m : Int) by omega, if_pos h1]
theorem mnK_over {L b : Int} {p : Int → Bool} {i : Nat} {o : Int} (h : mnK L b p i = ⟨L, o⟩) : ∀ (m : Nat), mnK L b p (i + m) = ⟨L, o + (m : Int)⟩
  | 0 => by simpa using h
  | m + 1 => by
    rw [← Nat.add_assoc, mnK, mnK_over h m, if_pos rfl]
    simp only [MnS.mk.injEq, true_and]
    omega
/-- A minute that is excepted. -/
def exc (fs : List Fre) (t : Int) : Bool := fs.any fun f => decide (f.f ≤ t ∧ t < f.t)
theorem exc_no {fs : List Fre} {t : Int} (h : ∀ f ∈ fs, ¬ (f.f ≤ t ∧ t < f.t)) : exc fs t = false := by
  unfold exc
  rw [List.any_eq_false]
  intro f hf
  simpa using h f hf
theorem exc_yes {fs : List Fre} {f : Fre} {t : Int} (hf : f ∈ fs) (h : f.f ≤ t ∧ t < f.t) : exc fs t = true := List.any_eq_true.2 ⟨f, hf, decide_eq_true h⟩
theorem exc_same {fs gs : List Fre} (h : ∀ f, f ∈ fs ↔ f ∈ gs) : exc fs = exc gs := by
  funext t
  rw [Bool.eq_iff_iff]
  unfold exc
  rw [List.any_eq_true, List.any_eq_true]
  exact ⟨fun ⟨f, h1, h2⟩ => ⟨f, (h f).1 h1, h2⟩, fun ⟨f, h1, h2⟩ => ⟨f, (h f).2 h1, h2⟩⟩
def lcM (L en b : Int) (p : Int → Bool) : Lc := ⟨b, (mnK L b p (en - b).toNat).u, (mnK L b p (en - b).toNat).o, if (mnK L b p (en - b).toNat).o = 0 then L - (mnK L b p (en - b).toNat).u else 0⟩
structure CtI (L en b : Int) (ys : List Fre) (k : Nat) (s : CtS) : Prop where
  a1 : b ≤ s.a
  a2 : s.a ≤ max b en
  u0 : 0 ≤ s.u ∧ s.u ≤ L
  mn : mnK L b (exc ys) (s.a - b).toNat = ⟨s.u, 0⟩
  ex : s.u < L → ∀ j, j < k → j < ys.length → ∀ t, s.a ≤ t → t < en → ¬ ((nth ys j).f ≤ t ∧ t < (nth ys j).t)
  fin : s.u < L → k = ys.length + 1 → en ≤ s.a
theorem nth_app1 {α : Type} [Inhabited α] {xs ys : List α} {i : Nat} (h : i < xs.length) : nth (xs ++ ys) i = nth xs i := by
  rw [nth_eq (by rw [List.length_append]; omega), nth_eq h, List.getElem_append_left h]
theorem nth_app2 {α : Type} [Inhabited α] {xs : List α} {y : α} : nth (xs ++ [y]) xs.length = y := by
  rw [nth_eq (by simp)]; simp
theorem ctI_step {L en b : Int} {ys : List Fre} (hs : Asc cmpFr ys) {k : Nat} (hk : k < ys.length + 1) {s : CtS} (h : CtI L en b ys k s) : CtI L en b ys (k + 1) (ctStep L en s (nth (ys ++ [⟨en, en⟩]) k)) := by
  by_cases hu : s.u = L
  · rw [ctStep, if_pos hu]
    exact ⟨h.a1, h.a2, h.u0, h.mn, fun q => by omega, fun q => by omega⟩
  · rw [ctStep, if_neg hu]
    have hx : (k < ys.length ∧ nth (ys ++ [(⟨en, en⟩ : Fre)]) k = nth ys k) ∨ (k = ys.length ∧ nth (ys ++ [(⟨en, en⟩ : Fre)]) k = ⟨en, en⟩) := by
      rcases Nat.lt_or_ge k ys.length with q | q
      · exact .inl ⟨q, nth_app1 q⟩
      · obtain rfl : k = ys.length := by omega
        exact .inr ⟨rfl, nth_app2⟩
    generalize nth (ys ++ [(⟨en, en⟩ : Fre)]) k = f at hx
    obtain ⟨h1, h2, h3, h4, h5, h6⟩ := h
    have hlt : s.u < L := by omega
    have hm0 : 0 ≤ ctUse L en s f ∧ ctUse L en s f ≤ L - s.u ∧ ctUse L en s f ≤ max 0 (min f.f en - s.a) ∧ (ctUse L en s f < L - s.u → ctUse L en s f = max 0 (min f.f en - s.a)) := by
      unfold ctUse; omega
    generalize ctUse L en s f = m at hm0
    obtain ⟨m1, m2, m3, m4⟩ := hm0
    -- minutes that count
    have hfree : ∀ j : Nat, j < m.toNat → exc ys (b + ((s.a - b).toNat : Int) + (j : Int)) = false := fun j hj => exc_no fun y hy q => by
      obtain ⟨i, hi, rfl⟩ := List.mem_iff_getElem.1 hy
      rw [← nth_eq hi] at q
      rcases Nat.lt_or_ge i k with hik | hik
      · exact h5 hlt i hik hi (b + ((s.a - b).toNat : Int) + (j : Int)) (by omega) (by omega) q
      · rcases hx with ⟨hk9, rfl⟩ | ⟨hk9, _⟩
        · rcases Nat.lt_or_eq_of_le hik with q9 | q9
          · have := hs k i q9 hi
            unfold cmpFr at this
            omega
          · subst q9; omega
        · omega
    have hrun := mnK_run (p := exc ys) h4 m.toNat (by omega) hfree
    have e1 : (s.a + m - b).toNat = (s.a - b).toNat + m.toNat := by omega
    have e2 : s.u + (m.toNat : Int) = s.u + m := by omega
    rw [← e1, e2] at hrun
    by_cases hq : s.u + m < L
    · have hm9 := m4 (by omega)
      simp only [if_pos hq]
      have hidle := mnK_idle hrun (show s.u + m ≠ L by omega) (max (s.a + m) (min f.t en) - (s.a + m)).toNat (fun j hj => by
        rcases hx with ⟨hk9, rfl⟩ | ⟨hk9, rfl⟩
        · exact exc_yes (nth_mem hk9) (by omega)
        · simp only at hj hm9; omega)
      have e3 : (s.a + m - b).toNat + (max (s.a + m) (min f.t en) - (s.a + m)).toNat = (max (s.a + m) (min f.t en) - b).toNat := by omega
      rw [e3] at hidle
      refine ⟨by show b ≤ max _ _; omega, by show max _ _ ≤ _; omega, by show 0 ≤ s.u + m ∧ s.u + m ≤ L; omega, hidle, fun _ j hj hjl t ht1 ht2 q => ?_, fun _ hk9 => ?_⟩
      · simp only at ht1
        rcases Nat.lt_succ_iff_lt_or_eq.1 hj with q9 | q9
        · exact h5 hlt j q9 hjl t (by omega) ht2 q
        · subst q9
          rcases hx with ⟨_, rfl⟩ | ⟨hk9, _⟩
          · omega
          · omega
      · rcases hx with ⟨_, _⟩ | ⟨_, rfl⟩
        · omega
        · show en ≤ max (s.a + m) (min en en); omega
    · simp only [if_neg hq]
      exact ⟨by show b ≤ s.a + m; omega, by show s.a + m ≤ _; omega, by show 0 ≤ s.u + m ∧ s.u + m ≤ L; omega, hrun, fun q => absurd q (by show ¬ s.u + m < L; omega), fun q => absurd q (by show ¬ s.u + m < L; omega)⟩
theorem ctI_all {L en b : Int} {ys : List Fre} (hL : 0 ≤ L) (hs : Asc cmpFr ys) : ∀ k, k ≤ ys.length + 1 → CtI L en b ys k (ctS L en b (ys ++ [⟨en, en⟩]) k)
  | 0, _ => ⟨Int.le_refl _, by show b ≤ max b en; omega, ⟨Int.le_refl _, hL⟩, by show mnK L b _ (b - b).toNat = _; rw [Int.sub_self]; rfl, fun _ j hj => absurd hj (Nat.not_lt_zero _), fun _ h => by omega⟩
  | k + 1, hk => ctI_step hs (by omega) (ctI_all hL hs k (by omega))
/-- Laytime counted from one excepted time to the next one is laytime counted minute by minute. -/
theorem cntP_mn {L en b : Int} {ys : List Fre} (hL : 0 ≤ L) (hs : Asc cmpFr ys) : cntP L en b ys = lcM L en b (exc ys) := by
  obtain ⟨h1, h2, h3, h4, h5, h6⟩ := ctI_all (en := en) (b := b) hL hs (ys.length + 1) (Nat.le_refl _)
  unfold cntP lcM
  generalize ctS L en b (ys ++ [⟨en, en⟩]) (ys.length + 1) = s at *
  by_cases hu : s.u = L
  · have hN : mnK L b (exc ys) (en - b).toNat = ⟨L, max 0 (en - s.a)⟩ := by
      rw [hu] at h4
      by_cases q : s.a ≤ en
      · have := mnK_over h4 (en - s.a).toNat
        rw [show (s.a - b).toNat + (en - s.a).toNat = (en - b).toNat by omega] at this
        rw [this]
        simp only [MnS.mk.injEq, true_and]; omega
      · rw [show (en - b).toNat = (s.a - b).toNat by omega, h4]
        simp only [MnS.mk.injEq, true_and]; omega
    simp only [hN, hu, if_true]
  · have ha := h6 (by omega) rfl
    have hN : mnK L b (exc ys) (en - b).toNat = ⟨s.u, 0⟩ := by rw [show (en - b).toNat = (s.a - b).toNat by omega, h4]
    simp only [hN, if_neg hu]

end Go.Proofs.YtclinbbghnebaaaGreat
namespace Go.Proofs.YtclinbbghnebaaaGreat
open Go Go.RowKit
set_option maxRecDepth 10000

def onErrB (l : List Msg) (k : Nat) : Bool := !(decide ((nth l k).k = 2 ∨ (nth l k).k = 3)) && (gtG (onS l k) (nth l k).k).isSome
theorem onErr_iff {l : List Msg} {k : Nat} : onErr l k ↔ onErrB l k = true := by
  unfold onErr onErrB
  cases gtG (onS l k) (nth l k).k <;> simp
instance (la k : Int) : Decidable (opGo la k) := by unfold opGo; infer_instance
instance (en : Int) (fr : List Fre) (l : List Msg) (k : Nat) : Decidable (opBad en fr l k) := by unfold opBad; infer_instance
theorem any_range {n : Nat} {p : Nat → Bool} : (List.range n).any p = true ↔ ∃ k, k < n ∧ p k = true := by
  rw [List.any_eq_true]
  exact ⟨fun ⟨k, h1, h2⟩ => ⟨k, List.mem_range.1 h1, h2⟩, fun ⟨k, h1, h2⟩ => ⟨k, List.mem_range.2 h1, h2⟩⟩
/-- The error of the order of facts. -/
def opEB (fr : List Fre) (l : List Msg) : Int := if (List.range l.length).any (fun k => onErrB l k) = true then 6 else match gtG (onS l l.length) 1, gtG (onS l l.length) 4 with
  | some _, some en => if (List.range l.length).any (fun k => decide (opBad en.m fr l k)) = true then 9 else 0
  | _, _ => 7
theorem no_any {l : List Msg} (h : ∀ k, k < l.length → ¬ onErr l k) : ¬ (List.range l.length).any (fun k => onErrB l k) = true := fun q => by
  obtain ⟨k, h1, h2⟩ := any_range.1 q
  exact h k h1 (onErr_iff.2 h2)
theorem OpE.eq {fr : List Fre} {l : List Msg} {e : Int} (h : OpE fr l e) : e = opEB fr l ∧ e ≠ 0 := by
  unfold opEB
  rcases h with ⟨rfl, k, hk, hq⟩ | ⟨rfl, hn, hq⟩ | ⟨rfl, hn, n1, en, h1, h4, k, hk, hq⟩
  · rw [if_pos (any_range.2 ⟨k, hk, onErr_iff.1 hq⟩)]; exact ⟨rfl, by decide⟩
  · rw [if_neg (no_any hn)]
    rcases hq with hq | hq
    · rw [hq]; exact ⟨rfl, by decide⟩
    · rw [hq]
      refine ⟨?_, by decide⟩
      cases gtG (onS l l.length) 1 <;> rfl
  · rw [if_neg (no_any hn), h1, h4]
    simp only
    rw [if_pos (any_range.2 ⟨k, hk, decide_eq_true hq⟩)]; exact ⟨rfl, by decide⟩
theorem OpOk.eq {fr ex : List Fre} {l : List Msg} (h : OpOk fr l ex) : opEB fr l = 0 := by
  obtain ⟨hn, n1, en, h1, h4, hb, _⟩ := h
  unfold opEB
  rw [if_neg (no_any hn), h1, h4]
  simp only
  rw [if_neg (fun q => by obtain ⟨k, q1, q2⟩ := any_range.1 q; exact hb k q1 (of_decide_eq_true q2))]
/-- Laytime by facts. -/
def LtF (c : Chr) (fr : List Fre) (out : List Msg) (lc : Lc) : Prop := ∃ n1 en, gtG (onS out out.length) 1 = some n1 ∧ gtG (onS out out.length) 4 = some en ∧ lc = lcM c.l en.m (n1.m + c.o) (exc (opS en.m fr out out.length).ex)
theorem LtR.ok {c : Chr} {ws : List Low} {fr : List Fre} {l : List Msg} {lc : Lc} {e : Int} (h : LtR c ws fr l lc e) (h1 : chkCh c ws = 0) (h2 : chkFr fr = 0) (h3 : rdE l = 0) (h4 : NoEd l) (h5 : oneC l = true) :
    ∃ out, RdR l out 0 ∧ e = opEB fr out ∧ ((e ≠ 0 ∧ lc = ⟨0, 0, 0, 0⟩) ∨ (e = 0 ∧ LtF c fr out lc)) := by
  rcases h with ⟨he, hs, hl⟩ | ⟨rfl, _, _, _, out, ex, n1, en, ys, hR, hO, g1, g4, hp, ha, rfl⟩
  · rcases hs with ⟨q, _⟩ | ⟨_, q, _⟩ | ⟨_, _, _, o, hR⟩ | ⟨_, _, out, hR, ⟨q, _⟩ | ⟨_, hO⟩⟩
    · exact absurd h1 q
    · exact absurd h2 q
    · rcases hR.err with ⟨q, _⟩ | ⟨_, q, _⟩ | ⟨_, _, q⟩
      · exact absurd h3 q
      · exact absurd h4 q
      · exact absurd q he
    · rw [h5] at q; cases q
    · exact ⟨out, hR, hO.eq.1, .inl ⟨he, hl⟩⟩
  · refine ⟨out, hR, hO.eq.symm, .inr ⟨rfl, n1, en, g1, g4, ?_⟩⟩
    obtain ⟨_, n1', en', g1', g4', _, rfl⟩ := hO
    rw [g4] at g4'
    simp only [Option.some.injEq] at g4'
    subst g4'
    rw [cntP_mn (okCh_rng h1).2.2.2.2.1.1.1 ha, exc_same (fun f => hp.mem_iff)]
/-- A bill by facts. -/
def BlF (c : Chr) (ws : List Low) (fr : List Fre) (out : List Msg) (b : Bl) (e : Int) : Prop := ∃ n1 en, gtG (onS out out.length) 1 = some n1 ∧ gtG (onS out out.length) 4 = some en ∧
  ((e = 7 ∧ b = ⟨0, 0, 0, 0, 0, 0⟩ ∧ (gtG (onS out out.length) 5 = none ∨ (gtG (onS out out.length) 6 = none ∧ 0 < ws.length))) ∨
    (e = 0 ∧ ∃ t5, gtG (onS out out.length) 5 = some t5 ∧ (gtG (onS out out.length) 6 = none → ws.length = 0) ∧ b = blP c ws t5.v (lvP (onS out out.length)) (lcM c.l en.m (n1.m + c.o) (exc (opS en.m fr out out.length).ex))))
theorem BlR.toF {c : Chr} {ws : List Low} {fr ex : List Fre} {out : List Msg} {n1 en : Msg} {b : Bl} {e : Int} (h : BlR c ws ex (onS out out.length) n1 en b e) (hL : 0 ≤ c.l) (hO : OpOk fr out ex) (g1 : gtG (onS out out.length) 1 = some n1) (g4 : gtG (onS out out.length) 4 = some en) : BlF c ws fr out b e := by
  obtain ⟨_, n1', en', g1', g4', _, rfl⟩ := hO
  rw [g4] at g4'
  simp only [Option.some.injEq] at g4'
  subst g4'
  refine ⟨n1, en, g1, g4, ?_⟩
  rcases h with q | ⟨he, t5, ys, h5, h6, hp, ha, hb⟩
  · exact .inl q
  · refine .inr ⟨he, t5, h5, h6, ?_⟩
    rw [hb, cntP_mn hL ha, exc_same (fun f => hp.mem_iff)]
theorem BiR.ok {c : Chr} {ws : List Low} {fr : List Fre} {l : List Msg} {b : Bl} {e : Int} (h : BiR c ws fr l b e) (h1 : chkCh c ws = 0) (h2 : chkFr fr = 0) (h3 : rdE l = 0) (h4 : NoEd l) (h5 : oneC l = true) :
    ∃ out, RdR l out 0 ∧ ((e ≠ 0 ∧ e = opEB fr out ∧ b = ⟨0, 0, 0, 0, 0, 0⟩) ∨ (opEB fr out = 0 ∧ BlF c ws fr out b e)) := by
  rcases h with ⟨he, hs, hl⟩ | ⟨_, _, _, out, ex, n1, en, hR, hO, g1, g4, hb⟩
  · rcases hs with ⟨q, _⟩ | ⟨_, q, _⟩ | ⟨_, _, _, o, hR⟩ | ⟨_, _, out, hR, ⟨q, _⟩ | ⟨_, hO⟩⟩
    · exact absurd h1 q
    · exact absurd h2 q
    · rcases hR.err with ⟨q, _⟩ | ⟨_, q, _⟩ | ⟨_, _, q⟩
      · exact absurd h3 q
      · exact absurd h4 q
      · exact absurd q he
    · rw [h5] at q; cases q
    · exact ⟨out, hR, .inl ⟨he, hO.eq.1, hl⟩⟩
  · exact ⟨out, hR, .inr ⟨hO.eq, hb.toF (okCh_rng h1).2.2.2.2.1.1.1 hO g1 g4⟩⟩

end Go.Proofs.YtclinbbghnebaaaGreat
namespace Go.Proofs.YtclinbbghnebaaaGreat
open Go Go.RowKit Go.Proofs.Tryz
set_option maxRecDepth 10000
instance : DecidableEq Msg := fun a b => if h : a.c = b.c ∧ a.n = b.n ∧ a.r = b.r ∧ a.k = b.k ∧ a.m = b.m ∧ a.v = b.v then isTrue (Msg.eq6 h) else isFalse (fun e => h (by rw [e]; simp))

theorem eqIn28 (n : Nat) (a0 : Int) (a1 : Int) (b0 : Int) (b1 : Int) (w : World) : (Op.equalIn (n + 2) 28 (.agg #[.int .i64 a0, .int .i64 a1]) (.agg #[.int .i64 b0, .int .i64 b1])).run Tryz.prog w = .ok (decide (a0 = b0) && decide (a1 = b1)) w := by
  have hS : Tryz.prog.underlying 28 = some (.struct (Tryz.prog.fieldsOf 28)) := by kernel_rfl
  have hp : Tryz.prog.stoodInHeld 28 = false := by kernel_rfl
  have p0 : ∀ (a0 : Int) (a1 : Int), (part 3 #[.int .i64 a0, .int .i64 a1] 0).run Tryz.prog w = .ok (.int .i64 a0) w := fun _ _ => by simp [part, isAgg3]
  have p1 : ∀ (a0 : Int) (a1 : Int), (part 3 #[.int .i64 a0, .int .i64 a1] 1).run Tryz.prog w = .ok (.int .i64 a1) w := fun _ _ => by simp [part, isAgg3]
  have e3 := fun a b w => equal_i64 underlying3 (n + 0) a b w
  rw [run_equalIn_struct w (n + 1) 28 _ _ hS hp]
  simp only [Program.fieldsOf, underlying28]
  simp only [Op.eqFields, Sem.run_bind, Sem.run_ite, p0, p1, e3, Result.andThen_ok]
  by_cases h0 : a0 = b0 <;> by_cases h1 : a1 = b1 <;> simp [h0, h1]
theorem eqIn243 (n : Nat) (a0 : Int) (a1 : Int) (a2 : Int) (a3 : Int) (a4 : Int) (b0 : Int) (b1 : Int) (b2 : Int) (b3 : Int) (b4 : Int) (w : World) : (Op.equalIn (n + 3) 243 (.agg #[.int .i64 a0, .int .i64 a1, .int .i64 a2, .int .i64 a3, .int .i64 a4]) (.agg #[.int .i64 b0, .int .i64 b1, .int .i64 b2, .int .i64 b3, .int .i64 b4])).run Tryz.prog w = .ok ((decide (a0 = b0) && decide (a1 = b1)) && (decide (a2 = b2) && decide (a3 = b3)) && decide (a4 = b4)) w := by
  have hS : Tryz.prog.underlying 243 = some (.struct (Tryz.prog.fieldsOf 243)) := by kernel_rfl
  have hp : Tryz.prog.stoodInHeld 243 = false := by kernel_rfl
  have p0 : ∀ (a0 : Int) (a1 : Int) (a2 : Int) (a3 : Int) (a4 : Int), (part 28 #[.int .i64 a0, .int .i64 a1, .int .i64 a2, .int .i64 a3, .int .i64 a4] 0).run Tryz.prog w = .ok (.agg #[.int .i64 a0, .int .i64 a1]) w := fun _ _ _ _ _ => by simp [part, isAgg28, sizeOf28]
  have p1 : ∀ (a0 : Int) (a1 : Int) (a2 : Int) (a3 : Int) (a4 : Int), (part 28 #[.int .i64 a0, .int .i64 a1, .int .i64 a2, .int .i64 a3, .int .i64 a4] 2).run Tryz.prog w = .ok (.agg #[.int .i64 a2, .int .i64 a3]) w := fun _ _ _ _ _ => by simp [part, isAgg28, sizeOf28]
  have p2 : ∀ (a0 : Int) (a1 : Int) (a2 : Int) (a3 : Int) (a4 : Int), (part 3 #[.int .i64 a0, .int .i64 a1, .int .i64 a2, .int .i64 a3, .int .i64 a4] 4).run Tryz.prog w = .ok (.int .i64 a4) w := fun _ _ _ _ _ => by simp [part, isAgg3]
  have e3 := fun a b w => equal_i64 underlying3 (n + 1) a b w
  have e28 := eqIn28 (n + 0)
  rw [run_equalIn_struct w (n + 2) 243 _ _ hS hp]
  simp only [Program.fieldsOf, underlying243]
  simp only [Op.eqFields, Sem.run_bind, Sem.run_ite, p0, p1, p2, e3, e28, Result.andThen_ok]
  by_cases h0 : (decide (a0 = b0) && decide (a1 = b1)) = true <;> by_cases h1 : (decide (a2 = b2) && decide (a3 = b3)) = true <;> by_cases h2 : a4 = b4 <;> simp [h0, h1, h2]
theorem moorOne_c (n : Int) (w0 : World) :
    CallsV Tryz.prog 7 [.int .i64 n] w0 (fun v w' => v = .agg #[.int .i64 n, .int .i64 n] ∧ Ext w0 w') := by
 refine f_n func7 ?_
 refine go ?_
 refine x_n fun bk2 w3 ebk2 sbk2 B4 u5 => ?_
 refine go ?_
 refine x_s fun w8 sw8 B10 u9 => ?_
 refine go ?_
 refine f_ret1 (v := .agg #[.int .i64 n, .int .i64 n]) results7 ⟨_, _, rfl, run_loadVarN (vs := [.int .i64 n, .int .i64 n]) isAgg28 sizeOf28 rfl (B10.at.sub 0 2)⟩ ?_
 exact ⟨rfl, u_d⟩

end Go.Proofs.YtclinbbghnebaaaGreat
