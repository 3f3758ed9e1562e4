/-
  Part 15 of the proof: contracts and plain laws. Conditions: none.
-/
import Derived.Test.YtgoajalaomakpaaGreatIK14
namespace Go.Proofs.YtgoajalaomakpaaGreat
open Go Go.RowKit

/-- Two lists in strict order with the same members are one. -/
theorem sorted_ext {α : Type} {R : α → α → Prop} (ha : ∀ a b, R a b → ¬ R b a) : ∀ {xs ys : List α}, xs.Pairwise R → ys.Pairwise R → (∀ x, x ∈ xs ↔ x ∈ ys) → xs = ys
  | [], [], _, _, _ => rfl
  | [], y :: ys, _, _, h => absurd ((h y).2 (by simp)) (by simp)
  | x :: xs, [], _, _, h => absurd ((h x).1 (by simp)) (by simp)
  | x :: xs, y :: ys, hx, hy, h => by
    rw [List.pairwise_cons] at hx hy
    have e : x = y := by
      rcases List.mem_cons.1 ((h x).1 (by simp)) with q | q
      · exact q
      · rcases List.mem_cons.1 ((h y).2 (by simp)) with q2 | q2
        · exact q2.symm
        · exact absurd (hx.1 y q2) (ha _ _ (hy.1 x q))
    subst e
    have i1 : ∀ z, z ∈ xs → z ≠ x := fun z hz e => ha x x (by have := hx.1 z hz; rwa [e] at this) (by have := hx.1 z hz; rwa [e] at this)
    have i2 : ∀ z, z ∈ ys → z ≠ x := fun z hz e => ha x x (by have := hy.1 z hz; rwa [e] at this) (by have := hy.1 z hz; rwa [e] at this)
    rw [sorted_ext ha hx.2 hy.2 (fun z => ⟨fun hz => (List.mem_cons.1 ((h z).1 (List.mem_cons_of_mem _ hz))).resolve_left (i1 z hz), fun hz => (List.mem_cons.1 ((h z).2 (List.mem_cons_of_mem _ hz))).resolve_left (i2 z hz)⟩)]
theorem Asc.pw {α : Type} [Inhabited α] {c : α → α → Int} {ys : List α} (h : Asc c ys) : ys.Pairwise (fun a b => ¬ c b a < 0) := List.pairwise_iff_getElem.2 fun i j hi hj hij => by
  have := h i j hij hj
  rwa [nth_eq hi, nth_eq hj] at this
section
variable {α β : Type} [DecidableEq α]
def upR (a : α) (v : β) : List (α × β) → List (α × β)
  | [] => [(a, v)]
  | p :: m => if a = p.1 then (a, v) :: m else p :: upR a v m
def gtR (a : α) : List (α × β) → Option β
  | [] => none
  | p :: m => if a = p.1 then some p.2 else gtR a m
theorem fG_shift (a : α) : ∀ (m : List (α × β)) (i : Nat), fG m a (i + 1) = (fG m a i).map fun p => (p.1 + 1, p.2)
  | [], _ => rfl
  | p :: m, i => by
    unfold fG
    split
    · rfl
    · exact fG_shift a m (i + 1)
theorem gtG_eq (a : α) : ∀ (m : List (α × β)), gtG m a = gtR a m
  | [] => rfl
  | p :: m => by
    unfold gtG fG gtR
    split
    · rfl
    · rw [fG_shift, ← gtG_eq a m]
      unfold gtG
      cases fG m a 0 <;> rfl
theorem upG_eq (a : α) (v : β) : ∀ (m : List (α × β)), upG m a v = upR a v m
  | [] => rfl
  | p :: m => by
    have ih := upG_eq a v m
    unfold upG fG upR
    by_cases q : a = p.1
    · simp [q]
    · simp only [if_neg q]
      rw [fG_shift, ← ih]
      unfold upG
      cases fG m a 0 <;> rfl
theorem gtR_upR (a : α) (v : β) (b : α) : ∀ (m : List (α × β)), gtR b (upR a v m) = if b = a then some v else gtR b m
  | [] => by
    unfold upR gtR
    split <;> rfl
  | p :: m => by
    unfold upR
    split
    · rename_i e
      unfold gtR
      by_cases q : b = a
      · simp [q]
      · rw [if_neg q, if_neg q, if_neg (by rw [← e]; exact q)]
    · rename_i e
      rw [gtR, gtR_upR a v b m]
      by_cases q : b = a
      · subst q; rw [if_neg e, if_pos rfl, if_pos rfl]
      · rw [if_neg q, if_neg q, gtR]
theorem upR_key (a : α) (v : β) : ∀ (m : List (α × β)) {k : α}, k ∈ (upR a v m).map (·.1) → k = a ∨ k ∈ m.map (·.1)
  | [], k, h => by simp [upR] at h; exact .inl h
  | p :: m, k, h => by
    unfold upR at h
    split at h
    · rcases List.mem_cons.1 h with q | q
      · exact .inl q
      · exact .inr (List.mem_cons_of_mem _ q)
    · rcases List.mem_cons.1 h with q | q
      · exact .inr (by rw [q]; simp)
      · exact (upR_key a v m q).imp_right (List.mem_cons_of_mem _)
theorem upR_nodup (a : α) (v : β) : ∀ {m : List (α × β)}, (m.map (·.1)).Nodup → ((upR a v m).map (·.1)).Nodup
  | [], _ => by simp [upR]
  | p :: m, h => by
    rw [List.map_cons, List.nodup_cons] at h
    unfold upR
    split
    · rename_i e
      rw [List.map_cons, List.nodup_cons]
      exact ⟨by rw [e]; exact h.1, h.2⟩
    · rename_i e
      rw [List.map_cons, List.nodup_cons]
      exact ⟨fun q => (upR_key a v m q).elim (fun q => e q.symm) h.1, upR_nodup a v h.2⟩
theorem gtR_mem {a : α} {v : β} : ∀ {m : List (α × β)}, gtR a m = some v → (a, v) ∈ m
  | [], h => by cases h
  | p :: m, h => by
    unfold gtR at h
    split at h
    · rename_i e
      simp only [Option.some.injEq] at h
      rw [e, ← h]; simp
    · exact List.mem_cons_of_mem _ (gtR_mem h)
theorem mem_gtR {a : α} {v : β} : ∀ {m : List (α × β)}, (m.map (·.1)).Nodup → (a, v) ∈ m → gtR a m = some v
  | [], _, h => by cases h
  | p :: m, hn, h => by
    rw [List.map_cons, List.nodup_cons] at hn
    unfold gtR
    rcases List.mem_cons.1 h with q | q
    · rw [← q]; simp
    · rw [if_neg (fun e => hn.1 (by rw [← e]; exact List.mem_map.2 ⟨_, q, rfl⟩))]
      exact mem_gtR hn.2 q
end
/-- What the editions' map holds. -/
theorem edS_at {l : List Msg} : ∀ {k : Nat}, k ≤ l.length → ∀ e, (∀ o, gtR e (edS l k) = some o → o ∈ l.take k ∧ edK o = e) ∧ (gtR e (edS l k) = none → ∀ m ∈ l.take k, edK m ≠ e)
  | 0, _, e => ⟨fun o h => (by cases h), fun _ m h => (by simp at h)⟩
  | k + 1, hk, e => by
    obtain ⟨h1, h2⟩ := edS_at (l := l) (k := k) (by omega) e
    rw [edS, upG_eq, gtR_upR, take_nth (show k < l.length by omega)]
    by_cases q : e = edK (nth l k)
    · rw [if_pos q]
      exact ⟨fun o h => by simp only [Option.some.injEq] at h; subst h; exact ⟨by simp, q.symm⟩, fun h => by cases h⟩
    · rw [if_neg q]
      refine ⟨fun o h => ⟨List.mem_append_left _ (h1 o h).1, (h1 o h).2⟩, fun h m hm => ?_⟩
      rcases List.mem_append.1 hm with hm | hm
      · exact h2 h m hm
      · rw [List.mem_singleton.1 hm]; exact fun e9 => q e9.symm
/-- No two messages of one edition differ. -/
def NoEd (l : List Msg) : Prop := ∀ a ∈ l, ∀ b ∈ l, edK a = edK b → a = b
theorem noEd_of {l : List Msg} (h : ∀ k, k < l.length → ¬ edErr l k) : NoEd l := by
  have key : ∀ k, k ≤ l.length → ∀ a ∈ l.take k, ∀ b ∈ l.take k, edK a = edK b → a = b := by
    intro k
    induction k with
    | zero => intro _ a ha; simp at ha
    | succ k ih =>
      intro hk
      have one : ∀ a ∈ l.take k, edK a = edK (nth l k) → a = nth l k := fun a ha e => by
        obtain ⟨h1, h2⟩ := edS_at (l := l) (k := k) (by omega) (edK (nth l k))
        cases hg : gtR (edK (nth l k)) (edS l k) with
        | none => exact absurd e (h2 hg a ha)
        | some o =>
          obtain ⟨h3, h4⟩ := h1 o hg
          have h5 : o = nth l k := Classical.byContradiction fun q => h k (by omega) ⟨o, by rw [gtG_eq]; exact hg, q⟩
          rw [← h5]
          exact ih (by omega) a ha o h3 (by rw [e, h4])
      intro a ha b hb e
      rw [take_nth (show k < l.length by omega)] at ha hb
      rcases List.mem_append.1 ha with ha | ha <;> rcases List.mem_append.1 hb with hb | hb
      · exact ih (by omega) a ha b hb e
      · rw [List.mem_singleton.1 hb] at e ⊢; exact one a ha e
      · rw [List.mem_singleton.1 ha] at e ⊢; exact (one b hb e.symm).symm
      · rw [List.mem_singleton.1 ha, List.mem_singleton.1 hb]
  have := key l.length (Nat.le_refl _)
  rw [List.take_length] at this
  exact this
theorem not_edErr {l : List Msg} (h : NoEd l) {k : Nat} (hk : k < l.length) : ¬ edErr l k := fun ⟨o, hg, hn⟩ => by
  rw [gtG_eq] at hg
  obtain ⟨h1, h2⟩ := (edS_at (l := l) (k := k) (by omega) _).1 o hg
  exact hn (h o (List.mem_of_mem_take h1) _ (nth_mem hk) h2)
/-- What the map of the latest revisions holds. -/
theorem laS_at {l : List Msg} : ∀ {k : Nat}, k ≤ l.length → ((laS l k).map (·.1)).Nodup ∧ ∀ e, (∀ o, gtR e (laS l k) = some o → o ∈ l.take k ∧ keK o = e ∧ ∀ m ∈ l.take k, keK m = e → m.r ≤ o.r) ∧ (gtR e (laS l k) = none → ∀ m ∈ l.take k, keK m ≠ e)
  | 0, _ => ⟨by simp [laS], fun e => ⟨fun o h => (by cases h), fun _ m h => (by simp at h)⟩⟩
  | k + 1, hk => by
    obtain ⟨h0, h12⟩ := laS_at (l := l) (k := k) (by omega)
    rw [take_nth (show k < l.length by omega)]
    by_cases hq : laOld (laS l k) (nth l k) = true
    · rw [laS, if_pos hq, upG_eq]
      refine ⟨upR_nodup _ _ h0, fun e => ?_⟩
      obtain ⟨h1, h2⟩ := h12 e
      rw [gtR_upR]
      by_cases q : e = keK (nth l k)
      · rw [if_pos q]
        refine ⟨fun o h => ?_, fun h => by cases h⟩
        simp only [Option.some.injEq] at h
        subst h
        refine ⟨by simp, q.symm, fun m hm hk9 => ?_⟩
        rcases List.mem_append.1 hm with hm | hm
        · unfold laOld at hq
          rw [gtG_eq, ← q] at hq
          cases hg : gtR e (laS l k) with
          | none => exact absurd hk9 (h2 hg m hm)
          | some o =>
            rw [hg] at hq
            have h3 := (h1 o hg).2.2 m hm hk9
            simp only [decide_eq_true_eq] at hq
            omega
        · rw [List.mem_singleton.1 hm]; exact Int.le_refl _
      · rw [if_neg q]
        refine ⟨fun o h => ⟨List.mem_append_left _ (h1 o h).1, (h1 o h).2.1, fun m hm hk9 => ?_⟩, fun h m hm => ?_⟩
        · rcases List.mem_append.1 hm with hm | hm
          · exact (h1 o h).2.2 m hm hk9
          · rw [List.mem_singleton.1 hm] at hk9; exact absurd hk9.symm q
        · rcases List.mem_append.1 hm with hm | hm
          · exact h2 h m hm
          · rw [List.mem_singleton.1 hm]; exact fun e9 => q e9.symm
    · rw [laS, if_neg hq]
      refine ⟨h0, fun e => ?_⟩
      obtain ⟨h1, h2⟩ := h12 e
      have old : ∃ v, gtR (keK (nth l k)) (laS l k) = some v ∧ (nth l k).r ≤ v.r := by
        unfold laOld at hq
        rw [gtG_eq] at hq
        cases hg : gtR (keK (nth l k)) (laS l k) with
        | none => rw [hg] at hq; simp at hq
        | some v => rw [hg] at hq; simp only [decide_eq_true_eq] at hq; exact ⟨v, rfl, by omega⟩
      obtain ⟨v, hv, hr⟩ := old
      refine ⟨fun o h => ⟨List.mem_append_left _ (h1 o h).1, (h1 o h).2.1, fun m hm hk9 => ?_⟩, fun h m hm => ?_⟩
      · rcases List.mem_append.1 hm with hm | hm
        · exact (h1 o h).2.2 m hm hk9
        · rw [List.mem_singleton.1 hm] at hk9 ⊢
          rw [hk9, h] at hv
          simp only [Option.some.injEq] at hv
          subst hv; exact hr
      · rcases List.mem_append.1 hm with hm | hm
        · exact h2 h m hm
        · rw [List.mem_singleton.1 hm]
          intro e9
          rw [e9, h] at hv
          cases hv
/-- A fact: the latest revision of its message, and not withdrawn. -/
def LastIn (l : List Msg) (x : Msg) : Prop := x ∈ l ∧ x.k ≠ 7 ∧ ∀ m ∈ l, m.c = x.c → m.n = x.n → m.r ≤ x.r
abbrev FLt (a b : Msg) : Prop := cmpF a b < 0
theorem FLt.asym (a b : Msg) (h : FLt a b) : ¬ FLt b a := by
  unfold FLt at *
  rw [cmpF_lt] at *
  omega
theorem cmpF_ne {a b : Msg} (h : ¬ cmpF b a < 0) (hn : keK a ≠ keK b) : cmpF a b < 0 := by
  have : ¬ (a.c = b.c ∧ a.n = b.n) := fun q => hn (by unfold keK; rw [q.1, q.2])
  rw [cmpF_lt] at *
  omega
theorem RdR.spec {l out : List Msg} (h : RdR l out 0) : rdE l = 0 ∧ NoEd l ∧ out.Pairwise FLt ∧ ∀ x, x ∈ out ↔ LastIn l x := by
  rcases h with ⟨h1, h2, _⟩ | ⟨_, h2, _⟩ | ⟨h0, _, hne, hp, ha⟩
  · omega
  · omega
  · have hE := noEd_of hne
    obtain ⟨hn, hl⟩ := laS_at (l := l) (k := l.length) (Nat.le_refl _)
    rw [List.take_length] at hl
    have keyp : ∀ p ∈ laS l l.length, p.1 = keK p.2 := fun p hp => ((hl p.1).1 p.2 (mem_gtR hn hp)).2.1.symm
    refine ⟨h0, hE, ?_, fun x => ?_⟩
    · have h3 : out.Pairwise (fun a b => keK a ≠ keK b) := by
        refine hp.symm.pairwise ?_ (fun {a b} q => fun e => q e.symm)
        refine List.Pairwise.filter _ ?_
        rw [List.pairwise_map]
        have h4 := hn
        unfold List.Nodup at h4
        rw [List.pairwise_map] at h4
        exact h4.imp_of_mem (fun ha hb q e => q (by rw [keyp _ ha, keyp _ hb, e]))
      exact (ha.pw.and h3).imp (fun q => cmpF_ne q.1 q.2)
    · rw [hp.mem_iff, List.mem_filter, List.mem_map]
      constructor
      · rintro ⟨⟨p, hp9, rfl⟩, hk⟩
        have h5 := (hl p.1).1 p.2 (mem_gtR hn hp9)
        exact ⟨h5.1, by simpa using hk, fun m hm hc hn9 => h5.2.2 m hm (by rw [keyp p hp9]; unfold keK; rw [hc, hn9])⟩
      · rintro ⟨hx, hk, hr⟩
        refine ⟨?_, by simpa using hk⟩
        cases hg : gtR (keK x) (laS l l.length) with
        | none => exact absurd rfl ((hl (keK x)).2 hg x hx)
        | some o =>
          obtain ⟨h6, h7, h8⟩ := (hl (keK x)).1 o hg
          have hc : o.c = x.c := congrArg Prod.fst h7
          have hn9 : o.n = x.n := congrArg Prod.snd h7
          have h9 := h8 x hx rfl
          have h10 := hr o h6 hc hn9
          have e : o = x := hE o h6 x hx (by unfold edK; rw [hc, hn9, show o.r = x.r by omega])
          exact ⟨_, gtR_mem hg, e⟩
theorem RdR.err {l out : List Msg} {e : Int} (h : RdR l out e) : (rdE l ≠ 0 ∧ e = rdE l ∧ out = []) ∨ (rdE l = 0 ∧ ¬ NoEd l ∧ e = 6 ∧ out = []) ∨ (rdE l = 0 ∧ NoEd l ∧ e = 0) := by
  rcases h with ⟨h1, h2, h3⟩ | ⟨h0, h2, h3, k, hk, he⟩ | ⟨h0, h2, hne, _⟩
  · exact .inl ⟨h1, h2, h3⟩
  · exact .inr (.inl ⟨h0, fun q => not_edErr q hk he, h2, h3⟩)
  · exact .inr (.inr ⟨h0, noEd_of hne, h2⟩)
end Go.Proofs.YtgoajalaomakpaaGreat
namespace Go.Proofs.YtgoajalaomakpaaGreat
open Go Go.RowKit

/-- Laytime minute by minute: what is used, and over, of the minutes behind the begin. -/
structure MnS where
  u : Int
  o : Int
def mnK (L b : Int) (p : Int → Bool) : Nat → MnS
  | 0 => ⟨0, 0⟩
  | i + 1 => if (mnK L b p i).u = L then ⟨L, (mnK L b p i).o + 1⟩ else if p (b + (i : Int)) = true then mnK L b p i else ⟨(mnK L b p i).u + 1, (mnK L b p i).o⟩
theorem mnK_run {L b : Int} {p : Int → Bool} {i : Nat} {u : Int} (h : mnK L b p i = ⟨u, 0⟩) : ∀ (m : Nat), u + (m : Int) ≤ L → (∀ j : Nat, j < m → p (b + (i : Int) + (j : Int)) = false) → mnK L b p (i + m) = ⟨u + (m : Int), 0⟩
  | 0, _, _ => by simpa using h
  | m + 1, hu, hp => by
    have ih := mnK_run h m (by omega) (fun j hj => hp j (by omega))
    have h1 := hp m (by omega)
    rw [← Nat.add_assoc, mnK, ih]
    rw [if_neg (show ¬ u + (m : Int) = L by omega), show b + ((i + m : Nat) : Int) = b + (i : Int) + (m : Int) by omega, h1]
    simp only [Bool.false_eq_true, if_false, MnS.mk.injEq, and_true]
    omega
theorem mnK_idle {L b : Int} {p : Int → Bool} {i : Nat} {s : MnS} (h : mnK L b p i = s) (hu : s.u ≠ L) : ∀ (m : Nat), (∀ j : Nat, j < m → p (b + (i : Int) + (j : Int)) = true) → mnK L b p (i + m) = s
  | 0, _ => h
  | m + 1, hp => by
    have ih := mnK_idle h hu m (fun j hj => hp j (by omega))
    have h1 := hp m (by omega)
    rw [← Nat.add_assoc, mnK, ih, if_neg hu, show b + ((i + m : Nat) : Int) = b + (i : Int) + (m : Int) by omega, if_pos h1]
theorem mnK_over {L b : Int} {p : Int → Bool} {i : Nat} {o : Int} (h : mnK L b p i = ⟨L, o⟩) : ∀ (m : Nat), mnK L b p (i + m) = ⟨L, o + (m : Int)⟩
  | 0 => by simpa using h
  | m + 1 => by
    rw [← Nat.add_assoc, mnK, mnK_over h m, if_pos rfl]
    simp only [MnS.mk.injEq, true_and]
    omega
/-- A minute that is excepted. -/
def exc (fs : List Fre) (t : Int) : Bool := fs.any fun f => decide (f.f ≤ t ∧ t < f.t)
theorem exc_no {fs : List Fre} {t : Int} (h : ∀ f ∈ fs, ¬ (f.f ≤ t ∧ t < f.t)) : exc fs t = false := by
  unfold exc
  rw [List.any_eq_false]
  intro f hf
  simpa using h f hf
theorem exc_yes {fs : List Fre} {f : Fre} {t : Int} (hf : f ∈ fs) (h : f.f ≤ t ∧ t < f.t) : exc fs t = true := List.any_eq_true.2 ⟨f, hf, decide_eq_true h⟩
theorem exc_same {fs gs : List Fre} (h : ∀ f, f ∈ fs ↔ f ∈ gs) : exc fs = exc gs := by
  funext t
  rw [Bool.eq_iff_iff]
  unfold exc
  rw [List.any_eq_true, List.any_eq_true]
  exact ⟨fun ⟨f, h1, h2⟩ => ⟨f, (h f).1 h1, h2⟩, fun ⟨f, h1, h2⟩ => ⟨f, (h f).2 h1, h2⟩⟩
def lcM (L en b : Int) (p : Int → Bool) : Lc := ⟨b, (mnK L b p (en - b).toNat).u, (mnK L b p (en - b).toNat).o, if (mnK L b p (en - b).toNat).o = 0 then L - (mnK L b p (en - b).toNat).u else 0⟩
structure CtI (L en b : Int) (ys : List Fre) (k : Nat) (s : CtS) : Prop where
  a1 : b ≤ s.a
  a2 : s.a ≤ max b en
  u0 : 0 ≤ s.u ∧ s.u ≤ L
  mn : mnK L b (exc ys) (s.a - b).toNat = ⟨s.u, 0⟩
  ex : s.u < L → ∀ j, j < k → j < ys.length → ∀ t, s.a ≤ t → t < en → ¬ ((nth ys j).f ≤ t ∧ t < (nth ys j).t)
  fin : s.u < L → k = ys.length + 1 → en ≤ s.a
theorem nth_app1 {α : Type} [Inhabited α] {xs ys : List α} {i : Nat} (h : i < xs.length) : nth (xs ++ ys) i = nth xs i := by
  rw [nth_eq (by rw [List.length_append]; omega), nth_eq h, List.getElem_append_left h]
theorem nth_app2 {α : Type} [Inhabited α] {xs : List α} {y : α} : nth (xs ++ [y]) xs.length = y := by
  rw [nth_eq (by simp)]; simp
theorem ctI_step {L en b : Int} {ys : List Fre} (hs : Asc cmpFr ys) {k : Nat} (hk : k < ys.length + 1) {s : CtS} (h : CtI L en b ys k s) : CtI L en b ys (k + 1) (ctStep L en s (nth (ys ++ [⟨en, en⟩]) k)) := by
  by_cases hu : s.u = L
  · rw [ctStep, if_pos hu]
    exact ⟨h.a1, h.a2, h.u0, h.mn, fun q => by omega, fun q => by omega⟩
  · rw [ctStep, if_neg hu]
    have hx : (k < ys.length ∧ nth (ys ++ [(⟨en, en⟩ : Fre)]) k = nth ys k) ∨ (k = ys.length ∧ nth (ys ++ [(⟨en, en⟩ : Fre)]) k = ⟨en, en⟩) := by
      rcases Nat.lt_or_ge k ys.length with q | q
      · exact .inl ⟨q, nth_app1 q⟩
      · obtain rfl : k = ys.length := by omega
        exact .inr ⟨rfl, nth_app2⟩
    generalize nth (ys ++ [(⟨en, en⟩ : Fre)]) k = f at hx
    obtain ⟨h1, h2, h3, h4, h5, h6⟩ := h
    have hlt : s.u < L := by omega
    have hm0 : 0 ≤ ctUse L en s f ∧ ctUse L en s f ≤ L - s.u ∧ ctUse L en s f ≤ max 0 (min f.f en - s.a) ∧ (ctUse L en s f < L - s.u → ctUse L en s f = max 0 (min f.f en - s.a)) := by
      unfold ctUse; omega
    generalize ctUse L en s f = m at hm0
    obtain ⟨m1, m2, m3, m4⟩ := hm0
    -- minutes that count
    have hfree : ∀ j : Nat, j < m.toNat → exc ys (b + ((s.a - b).toNat : Int) + (j : Int)) = false := fun j hj => exc_no fun y hy q => by
      obtain ⟨i, hi, rfl⟩ := List.mem_iff_getElem.1 hy
      rw [← nth_eq hi] at q
      rcases Nat.lt_or_ge i k with hik | hik
      · exact h5 hlt i hik hi (b + ((s.a - b).toNat : Int) + (j : Int)) (by omega) (by omega) q
      · rcases hx with ⟨hk9, rfl⟩ | ⟨hk9, _⟩
        · rcases Nat.lt_or_eq_of_le hik with q9 | q9
          · have := hs k i q9 hi
            unfold cmpFr at this
            omega
          · subst q9; omega
        · omega
    have hrun := mnK_run (p := exc ys) h4 m.toNat (by omega) hfree
    have e1 : (s.a + m - b).toNat = (s.a - b).toNat + m.toNat := by omega
    have e2 : s.u + (m.toNat : Int) = s.u + m := by omega
    rw [← e1, e2] at hrun
    by_cases hq : s.u + m < L
    · have hm9 := m4 (by omega)
      simp only [if_pos hq]
      have hidle := mnK_idle hrun (show s.u + m ≠ L by omega) (max (s.a + m) (min f.t en) - (s.a + m)).toNat (fun j hj => by
        rcases hx with ⟨hk9, rfl⟩ | ⟨hk9, rfl⟩
        · exact exc_yes (nth_mem hk9) (by omega)
        · simp only at hj hm9; omega)
      have e3 : (s.a + m - b).toNat + (max (s.a + m) (min f.t en) - (s.a + m)).toNat = (max (s.a + m) (min f.t en) - b).toNat := by omega
      rw [e3] at hidle
      refine ⟨by show b ≤ max _ _; omega, by show max _ _ ≤ _; omega, by show 0 ≤ s.u + m ∧ s.u + m ≤ L; omega, hidle, fun _ j hj hjl t ht1 ht2 q => ?_, fun _ hk9 => ?_⟩
      · simp only at ht1
        rcases Nat.lt_succ_iff_lt_or_eq.1 hj with q9 | q9
        · exact h5 hlt j q9 hjl t (by omega) ht2 q
        · subst q9
          rcases hx with ⟨_, rfl⟩ | ⟨hk9, _⟩
          · omega
          · omega
      · rcases hx with ⟨_, _⟩ | ⟨_, rfl⟩
        · omega
        · show en ≤ max (s.a + m) (min en en); omega
    · simp only [if_neg hq]
      exact ⟨by show b ≤ s.a + m; omega, by show s.a + m ≤ _; omega, by show 0 ≤ s.u + m ∧ s.u + m ≤ L; omega, hrun, fun q => absurd q (by show ¬ s.u + m < L; omega), fun q => absurd q (by show ¬ s.u + m < L; omega)⟩
theorem ctI_all {L en b : Int} {ys : List Fre} (hL : 0 ≤ L) (hs : Asc cmpFr ys) : ∀ k, k ≤ ys.length + 1 → CtI L en b ys k (ctS L en b (ys ++ [⟨en, en⟩]) k)
  | 0, _ => ⟨Int.le_refl _, by show b ≤ max b en; omega, ⟨Int.le_refl _, hL⟩, by show mnK L b _ (b - b).toNat = _; rw [Int.sub_self]; rfl, fun _ j hj => absurd hj (Nat.not_lt_zero _), fun _ h => by omega⟩
  | k + 1, hk => ctI_step hs (by omega) (ctI_all hL hs k (by omega))
/-- Laytime counted from one excepted time to the next one is laytime counted minute by minute. -/
theorem cntP_mn {L en b : Int} {ys : List Fre} (hL : 0 ≤ L) (hs : Asc cmpFr ys) : cntP L en b ys = lcM L en b (exc ys) := by
  obtain ⟨h1, h2, h3, h4, h5, h6⟩ := ctI_all (en := en) (b := b) hL hs (ys.length + 1) (Nat.le_refl _)
  unfold cntP lcM
  generalize ctS L en b (ys ++ [⟨en, en⟩]) (ys.length + 1) = s at *
  by_cases hu : s.u = L
  · have hN : mnK L b (exc ys) (en - b).toNat = ⟨L, max 0 (en - s.a)⟩ := by
      rw [hu] at h4
      by_cases q : s.a ≤ en
      · have := mnK_over h4 (en - s.a).toNat
        rw [show (s.a - b).toNat + (en - s.a).toNat = (en - b).toNat by omega] at this
        rw [this]
        simp only [MnS.mk.injEq, true_and]; omega
      · rw [show (en - b).toNat = (s.a - b).toNat by omega, h4]
        simp only [MnS.mk.injEq, true_and]; omega
    simp only [hN, hu, if_true]
  · have ha := h6 (by omega) rfl
    have hN : mnK L b (exc ys) (en - b).toNat = ⟨s.u, 0⟩ := by rw [show (en - b).toNat = (s.a - b).toNat by omega, h4]
    simp only [hN, if_neg hu]

end Go.Proofs.YtgoajalaomakpaaGreat
namespace Go.Proofs.YtgoajalaomakpaaGreat
open Go Go.RowKit

def onErrB (l : List Msg) (k : Nat) : Bool := !(decide ((nth l k).k = 2 ∨ (nth l k).k = 3)) && (gtG (onS l k) (nth l k).k).isSome
theorem onErr_iff {l : List Msg} {k : Nat} : onErr l k ↔ onErrB l k = true := by
  unfold onErr onErrB
  cases gtG (onS l k) (nth l k).k <;> simp
instance (la k : Int) : Decidable (opGo la k) := by unfold opGo; infer_instance
instance (en : Int) (fr : List Fre) (l : List Msg) (k : Nat) : Decidable (opBad en fr l k) := by unfold opBad; infer_instance
theorem any_range {n : Nat} {p : Nat → Bool} : (List.range n).any p = true ↔ ∃ k, k < n ∧ p k = true := by
  rw [List.any_eq_true]
  exact ⟨fun ⟨k, h1, h2⟩ => ⟨k, List.mem_range.1 h1, h2⟩, fun ⟨k, h1, h2⟩ => ⟨k, List.mem_range.2 h1, h2⟩⟩
/-- The error of the order of facts. -/
def opEB (fr : List Fre) (l : List Msg) : Int := if (List.range l.length).any (fun k => onErrB l k) = true then 6 else match gtG (onS l l.length) 1, gtG (onS l l.length) 4 with
  | some _, some en => if (List.range l.length).any (fun k => decide (opBad en.m fr l k)) = true then 9 else 0
  | _, _ => 7
theorem no_any {l : List Msg} (h : ∀ k, k < l.length → ¬ onErr l k) : ¬ (List.range l.length).any (fun k => onErrB l k) = true := fun q => by
  obtain ⟨k, h1, h2⟩ := any_range.1 q
  exact h k h1 (onErr_iff.2 h2)
theorem OpE.eq {fr : List Fre} {l : List Msg} {e : Int} (h : OpE fr l e) : e = opEB fr l ∧ e ≠ 0 := by
  unfold opEB
  rcases h with ⟨rfl, k, hk, hq⟩ | ⟨rfl, hn, hq⟩ | ⟨rfl, hn, n1, en, h1, h4, k, hk, hq⟩
  · rw [if_pos (any_range.2 ⟨k, hk, onErr_iff.1 hq⟩)]; exact ⟨rfl, by decide⟩
  · rw [if_neg (no_any hn)]
    rcases hq with hq | hq
    · rw [hq]; exact ⟨rfl, by decide⟩
    · rw [hq]
      refine ⟨?_, by decide⟩
      cases gtG (onS l l.length) 1 <;> rfl
  · rw [if_neg (no_any hn), h1, h4]
    simp only
    rw [if_pos (any_range.2 ⟨k, hk, decide_eq_true hq⟩)]; exact ⟨rfl, by decide⟩
theorem OpOk.eq {fr ex : List Fre} {l : List Msg} (h : OpOk fr l ex) : opEB fr l = 0 := by
  obtain ⟨hn, n1, en, h1, h4, hb, _⟩ := h
  unfold opEB
  rw [if_neg (no_any hn), h1, h4]
  simp only
  rw [if_neg (fun q => by obtain ⟨k, q1, q2⟩ := any_range.1 q; exact hb k q1 (of_decide_eq_true q2))]
/-- Laytime by facts. -/
def LtF (c : Chr) (fr : List Fre) (out : List Msg) (lc : Lc) : Prop := ∃ n1 en, gtG (onS out out.length) 1 = some n1 ∧ gtG (onS out out.length) 4 = some en ∧ lc = lcM c.l en.m (n1.m + c.o) (exc (opS en.m fr out out.length).ex)
theorem LtR.ok {c : Chr} {ws : List Low} {fr : List Fre} {l : List Msg} {lc : Lc} {e : Int} (h : LtR c ws fr l lc e) (h1 : chkCh c ws = 0) (h2 : chkFr fr = 0) (h3 : rdE l = 0) (h4 : NoEd l) (h5 : oneC l = true) :
    ∃ out, RdR l out 0 ∧ e = opEB fr out ∧ ((e ≠ 0 ∧ lc = ⟨0, 0, 0, 0⟩) ∨ (e = 0 ∧ LtF c fr out lc)) := by
  rcases h with ⟨he, hs, hl⟩ | ⟨rfl, _, _, _, out, ex, n1, en, ys, hR, hO, g1, g4, hp, ha, rfl⟩
  · rcases hs with ⟨q, _⟩ | ⟨_, q, _⟩ | ⟨_, _, _, o, hR⟩ | ⟨_, _, out, hR, ⟨q, _⟩ | ⟨_, hO⟩⟩
    · exact absurd h1 q
    · exact absurd h2 q
    · rcases hR.err with ⟨q, _⟩ | ⟨_, q, _⟩ | ⟨_, _, q⟩
      · exact absurd h3 q
      · exact absurd h4 q
      · exact absurd q he
    · rw [h5] at q; cases q
    · exact ⟨out, hR, hO.eq.1, .inl ⟨he, hl⟩⟩
  · refine ⟨out, hR, hO.eq.symm, .inr ⟨rfl, n1, en, g1, g4, ?_⟩⟩
    obtain ⟨_, n1', en', g1', g4', _, rfl⟩ := hO
    rw [g4] at g4'
    simp only [Option.some.injEq] at g4'
    subst g4'
    rw [cntP_mn (okCh_rng h1).2.2.2.2.1.1.1 ha, exc_same (fun f => hp.mem_iff)]
/-- A bill by facts. -/
def BlF (c : Chr) (ws : List Low) (fr : List Fre) (out : List Msg) (b : Bl) (e : Int) : Prop := ∃ n1 en, gtG (onS out out.length) 1 = some n1 ∧ gtG (onS out out.length) 4 = some en ∧
  ((e = 7 ∧ b = ⟨0, 0, 0, 0, 0, 0⟩ ∧ (gtG (onS out out.length) 5 = none ∨ (gtG (onS out out.length) 6 = none ∧ 0 < ws.length))) ∨
    (e = 0 ∧ ∃ t5, gtG (onS out out.length) 5 = some t5 ∧ (gtG (onS out out.length) 6 = none → ws.length = 0) ∧ b = blP c ws t5.v (lvP (onS out out.length)) (lcM c.l en.m (n1.m + c.o) (exc (opS en.m fr out out.length).ex))))
theorem BlR.toF {c : Chr} {ws : List Low} {fr ex : List Fre} {out : List Msg} {n1 en : Msg} {b : Bl} {e : Int} (h : BlR c ws ex (onS out out.length) n1 en b e) (hL : 0 ≤ c.l) (hO : OpOk fr out ex) (g1 : gtG (onS out out.length) 1 = some n1) (g4 : gtG (onS out out.length) 4 = some en) : BlF c ws fr out b e := by
  obtain ⟨_, n1', en', g1', g4', _, rfl⟩ := hO
  rw [g4] at g4'
  simp only [Option.some.injEq] at g4'
  subst g4'
  refine ⟨n1, en, g1, g4, ?_⟩
  rcases h with q | ⟨he, t5, ys, h5, h6, hp, ha, hb⟩
  · exact .inl q
  · refine .inr ⟨he, t5, h5, h6, ?_⟩
    rw [hb, cntP_mn hL ha, exc_same (fun f => hp.mem_iff)]
theorem BiR.ok {c : Chr} {ws : List Low} {fr : List Fre} {l : List Msg} {b : Bl} {e : Int} (h : BiR c ws fr l b e) (h1 : chkCh c ws = 0) (h2 : chkFr fr = 0) (h3 : rdE l = 0) (h4 : NoEd l) (h5 : oneC l = true) :
    ∃ out, RdR l out 0 ∧ ((e ≠ 0 ∧ e = opEB fr out ∧ b = ⟨0, 0, 0, 0, 0, 0⟩) ∨ (opEB fr out = 0 ∧ BlF c ws fr out b e)) := by
  rcases h with ⟨he, hs, hl⟩ | ⟨_, _, _, out, ex, n1, en, hR, hO, g1, g4, hb⟩
  · rcases hs with ⟨q, _⟩ | ⟨_, q, _⟩ | ⟨_, _, _, o, hR⟩ | ⟨_, _, out, hR, ⟨q, _⟩ | ⟨_, hO⟩⟩
    · exact absurd h1 q
    · exact absurd h2 q
    · rcases hR.err with ⟨q, _⟩ | ⟨_, q, _⟩ | ⟨_, _, q⟩
      · exact absurd h3 q
      · exact absurd h4 q
      · exact absurd q he
    · rw [h5] at q; cases q
    · exact ⟨out, hR, .inl ⟨he, hO.eq.1, hl⟩⟩
  · exact ⟨out, hR, .inr ⟨hO.eq, hb.toF (okCh_rng h1).2.2.2.2.1.1.1 hO g1 g4⟩⟩

end Go.Proofs.YtgoajalaomakpaaGreat
namespace Go.Proofs.YtgoajalaomakpaaGreat
open Go Go.RowKit Go.Proofs.Tryz

theorem cmpB_ne {sg : Int} (hsg : sg = 1 ∨ sg = -1) {a b : Bid} (h : ¬ cmpB sg b a < 0) (hp : a.p ≠ b.p) : cmpB sg a b < 0 := by
  rw [cmpB_lt hsg] at *
  rcases hsg with rfl | rfl <;> omega
abbrev BLt (sg : Int) (a b : Bid) : Prop := cmpB sg a b < 0
theorem BLt.asym {sg : Int} (hsg : sg = 1 ∨ sg = -1) (a b : Bid) (h : BLt sg a b) : ¬ BLt sg b a := by
  unfold BLt at *
  rw [cmpB_lt hsg] at *
  rcases hsg with rfl | rfl <;> omega
/-- A sorted queue of different parties is in strict order. -/
theorem queue_strict {sg : Int} (hsg : sg = 1 ∨ sg = -1) {yb F : List Bid} (hp : yb.Perm F) (ha : Asc (cmpB sg) yb) (hn : (F.map Bid.p).Nodup) : yb.Pairwise (BLt sg) := by
  have h2 : yb.Pairwise (fun a b => a.p ≠ b.p) := by
    refine hp.symm.pairwise ?_ (fun {a b} q => fun e => q e.symm)
    unfold List.Nodup at hn
    rwa [List.pairwise_map] at hn
  exact (ha.pw.and h2).imp (fun q => cmpB_ne hsg q.1 q.2)
theorem queue_uniq {sg : Int} (hsg : sg = 1 ∨ sg = -1) {yb F zs : List Bid} (hp : yb.Perm F) (ha : Asc (cmpB sg) yb) (hn : (F.map Bid.p).Nodup) (hz : zs.Pairwise (BLt sg)) (hm : ∀ x, x ∈ zs ↔ x ∈ F) : yb = zs :=
  sorted_ext (BLt.asym hsg) (queue_strict hsg hp ha hn) hz (fun x => by rw [hp.mem_iff, hm])
def kBd : List Bid := [⟨1, 1000, 900, 0⟩, ⟨2, 500, 800, 0⟩]
def kAs : List Bid := [⟨3, 800, 700, 0⟩, ⟨4, 900, 850, 0⟩]
def kT : List Trd := [⟨1, 3, 800⟩, ⟨1, 4, 200⟩]
def kR : List Fre := [⟨1000, 1440⟩]
def kF : List Msg := [⟨0, 7, 0, 1, 0, 0⟩, ⟨0, 8, 0, 5, 40, 1000⟩, ⟨0, 9, 0, 6, 40, 180⟩, ⟨0, 5, 1, 2, 500, 0⟩, ⟨0, 2, 0, 3, 560, 0⟩, ⟨0, 1, 0, 4, 3000, 0⟩]
def kL : Lc := ⟨360, 1440, 700, 0⟩
def kX : Bl := ⟨1020000, 204000, 70000, 0, 61200, 1294000⟩
def kO : List Off := [⟨0, 100, 0, 600, 50000⟩, ⟨100, 300, 700, 1500, 40000⟩, ⟨0, 300, 0, 1400, 80000⟩]
def kH : Hul := ⟨10, 0, 5, 100⟩
theorem k_mt {p e : Int} {ts : List Trd} (h : MtR kBd kAs p ts e) : p = 850 ∧ ts = kT ∧ e = 0 := by
  have e0 : mtErr kBd kAs = 0 := by kernel_rfl
  obtain ⟨he, h⟩ := h
  rw [e0] at he
  rcases h with ⟨q, _⟩ | ⟨_, hp, yb, ya, p1, a1, p2, a2, k, hk, hj, ht⟩
  · exact absurd he q
  have hp2 : p = 850 := hp.trans (by kernel_rfl)
  subst hp2
  have hm : (mtBest kBd kAs).t = 1000 := by kernel_rfl
  have f1 : (kBd.filter fun x => trd (-1) x 850) = [⟨1, 1000, 900, 0⟩] := by kernel_rfl
  have f2 : (kAs.filter fun x => trd 1 x 850) = kAs := by kernel_rfl
  rw [f1] at p1
  rw [f2] at p2
  obtain rfl := List.perm_singleton.1 p1
  obtain rfl : ya = kAs := queue_uniq (.inl rfl) p2 a2 (by decide) (by decide) (fun x => Iff.rfl)
  rw [hm] at hk hj ht
  obtain rfl : k = 2 := by
    rcases k with _ | _ | _ | k
    · exact absurd hk (by decide)
    · exact absurd hk (by decide)
    · rfl
    · exact absurd (hj 2 (by omega)) (by decide)
  exact ⟨rfl, ht.trans (by kernel_rfl), he⟩
theorem k_rdE : rdE kM = 0 := by kernel_rfl
theorem k_noEd : NoEd kM := by unfold NoEd edK kM; decide
theorem k_mem (x : Msg) : x ∈ kF ↔ LastIn kM x := by
  constructor
  · intro h
    have : ∀ x ∈ kF, x ∈ kM ∧ x.k ≠ 7 ∧ ∀ m ∈ kM, m.c = x.c → m.n = x.n → m.r ≤ x.r := by decide
    exact this x h
  · rintro ⟨h1, h2, h3⟩
    have : ∀ x ∈ kM, (∀ m ∈ kM, m.c = x.c → m.n = x.n → m.r ≤ x.r) → x ∈ kF := by decide
    exact this x h1 h3
theorem k_facts {out : List Msg} (h : RdR kM out 0) : out = kF :=
  sorted_ext FLt.asym h.spec.2.2.1 (by decide) (fun x => by rw [h.spec.2.2.2, k_mem])
theorem k_op : opEB kR kF = 0 := by kernel_rfl
theorem k_lc : lcM 1440 3000 360 (exc (opS 3000 kR kF 6).ex) = kL := by
  have e : (opS 3000 kR kF 6).ex = [⟨1000, 1440⟩, ⟨500, 560⟩] := by kernel_rfl
  have e2 : exc (opS 3000 kR kF 6).ex = exc [(⟨500, 560⟩ : Fre), ⟨1000, 1440⟩] := exc_same (fun f => by rw [e]; simp [or_comm])
  have ha : Asc cmpFr [(⟨500, 560⟩ : Fre), ⟨1000, 1440⟩] := fun i j hij hj => by
    simp at hj
    obtain ⟨rfl, rfl⟩ : i = 0 ∧ j = 1 := by omega
    decide
  rw [e2]
  exact (cntP_mn (L := 1440) (en := 3000) (b := 360) (by decide) ha).symm.trans (by kernel_rfl)
theorem k_lt {lc : Lc} {e : Int} (h : LtR kC kW kR kM lc e) : lc = kL ∧ e = 0 := by
  obtain ⟨out, hR, he, h⟩ := h.ok (by kernel_rfl) (by kernel_rfl) k_rdE k_noEd (by kernel_rfl)
  obtain rfl := k_facts hR
  rw [k_op] at he
  rcases h with ⟨q, _⟩ | ⟨_, n1, en, g1, g4, hl⟩
  · exact absurd he q
  · have e1 : gtG (onS kF kF.length) 1 = some ⟨0, 7, 0, 1, 0, 0⟩ := by kernel_rfl
    have e4 : gtG (onS kF kF.length) 4 = some ⟨0, 1, 0, 4, 3000, 0⟩ := by kernel_rfl
    rw [e1] at g1
    rw [e4] at g4
    simp only [Option.some.injEq] at g1 g4
    subst g1 g4
    exact ⟨hl.trans k_lc, he⟩
theorem k_blF {b : Bl} {e : Int} (h : BlF kC kW kR kF b e) : b = kX ∧ e = 0 := by
  obtain ⟨n1, en, g1, g4, h⟩ := h
  have e1 : gtG (onS kF kF.length) 1 = some ⟨0, 7, 0, 1, 0, 0⟩ := by kernel_rfl
  have e4 : gtG (onS kF kF.length) 4 = some ⟨0, 1, 0, 4, 3000, 0⟩ := by kernel_rfl
  have e5 : gtG (onS kF kF.length) 5 = some ⟨0, 8, 0, 5, 40, 1000⟩ := by kernel_rfl
  have e6 : gtG (onS kF kF.length) 6 = some ⟨0, 9, 0, 6, 40, 180⟩ := by kernel_rfl
  rw [e1] at g1
  rw [e4] at g4
  simp only [Option.some.injEq] at g1 g4
  subst g1 g4
  rcases h with ⟨_, _, q | ⟨q, _⟩⟩ | ⟨he, t5, g5, _, hb⟩
  · rw [e5] at q; cases q
  · rw [e6] at q; cases q
  · rw [e5] at g5
    simp only [Option.some.injEq] at g5
    subst g5
    refine ⟨hb.trans ?_, he⟩
    rw [show lcM kC.l (3000 : Int) (0 + kC.o) (exc (opS 3000 kR kF kF.length).ex) = kL from k_lc]
    kernel_rfl
theorem k_bi {b : Bl} {e : Int} (h : BiR kC kW kR kM b e) : b = kX ∧ e = 0 := by
  obtain ⟨out, hR, h⟩ := h.ok (by kernel_rfl) (by kernel_rfl) k_rdE k_noEd (by kernel_rfl)
  obtain rfl := k_facts hR
  rcases h with ⟨q, he, _⟩ | ⟨_, h⟩
  · rw [k_op] at he; exact absurd he q
  · exact k_blF h
theorem k_best : bestP kO kH = ⟨[1], 31000⟩ ∧ bestE kO kH = 0 := ⟨by kernel_rfl, by kernel_rfl⟩

def kP : List Int := balN (List.replicate 100 0) kC kX
theorem k_ofC : ofC kF 0 = kF := by kernel_rfl
theorem k_bal {hc : HC} {b : List Int} {e : Int} (hv : hc.v = kC) (hw : hc.ws = kW) (h : BalR [hc] kR kM b e) : b = kP ∧ e = 0 := by
  have h0 : chkCh hc.v hc.ws = 0 := by rw [hv, hw]; kernel_rfl
  have ha : ([hc].any fun h => decide (chkCh h.v h.ws ≠ 0)) = false := by simp [h0]
  have hR : ∀ out, RdR kM out 0 → out = kF := fun out h => k_facts h
  have hL : 0 ≤ kC.l := by decide
  have hX : ∀ x e, ChB [hc] kR kF 0 x e → x = kX ∧ e = 0 := fun x e h => by
    obtain ⟨ex, n1, en, hO, g1, g4, hb⟩ := h
    rw [k_ofC] at hO g1 g4 hb
    rw [show (nth [hc] 0).v = kC from hv, show (nth [hc] 0).ws = kW from hw] at hb
    exact k_blF (hb.toF hL hO g1 g4)
  rcases h with ⟨q, _⟩ | ⟨_, q, _⟩ | ⟨_, _, ⟨q, _⟩ | ⟨_, ⟨q, _, o, hR2⟩ | ⟨out, hR1, ⟨q, _⟩ | ⟨_, ⟨q, _, k, b0, hk, _, _, hE⟩ | ⟨he, hB⟩⟩⟩⟩⟩
  · simp at q
  · rw [ha] at q; cases q
  · exact absurd (by kernel_rfl) q
  · rcases hR2.err with ⟨q2, _⟩ | ⟨_, q2, _⟩ | ⟨_, _, q2⟩
    · exact absurd k_rdE q2
    · exact absurd k_noEd q2
    · exact absurd q2 q
  · exact absurd (show (kM.any fun m => decide ((1 : Int) ≤ m.c)) = true from q) (by decide)
  · obtain rfl := hR out hR1
    obtain rfl : k = 0 := by simp at hk; omega
    rcases hE with hE | ⟨x, hE⟩
    · have := hE.eq.1
      rw [k_ofC, k_op] at this
      exact absurd this q
    · exact absurd (hX x e hE).2 q
  · obtain rfl := hR out hR1
    obtain ⟨b0, hb0, ⟨q, _⟩ | ⟨_, x, hx, hb⟩⟩ := hB
    · exact absurd q (by decide)
    · obtain ⟨rfl, _⟩ := hX x 0 hx
      refine ⟨?_, he⟩
      have hb0' : b0 = List.replicate 100 0 := hb0
      rw [hb, hb0', show (nth [hc] 0).v = kC from hv]; rfl
theorem eqIn32 (n : Nat) (a0 : Int) (a1 : Int) (a2 : Int) (b0 : Int) (b1 : Int) (b2 : Int) (w : World) : (Op.equalIn (n + 2) 32 (.agg #[.int .i64 a0, .int .i64 a1, .int .i64 a2]) (.agg #[.int .i64 b0, .int .i64 b1, .int .i64 b2])).run Tryz.prog w = .ok (decide (a0 = b0) && decide (a1 = b1) && decide (a2 = b2)) w := by
  have hS : Tryz.prog.underlying 32 = some (.struct (Tryz.prog.fieldsOf 32)) := by kernel_rfl
  have hp : Tryz.prog.stoodInHeld 32 = false := by kernel_rfl
  have p0 : ∀ (a0 : Int) (a1 : Int) (a2 : Int), (part 3 #[.int .i64 a0, .int .i64 a1, .int .i64 a2] 0).run Tryz.prog w = .ok (.int .i64 a0) w := fun _ _ _ => by simp [part, isAgg3]
  have p1 : ∀ (a0 : Int) (a1 : Int) (a2 : Int), (part 3 #[.int .i64 a0, .int .i64 a1, .int .i64 a2] 1).run Tryz.prog w = .ok (.int .i64 a1) w := fun _ _ _ => by simp [part, isAgg3]
  have p2 : ∀ (a0 : Int) (a1 : Int) (a2 : Int), (part 3 #[.int .i64 a0, .int .i64 a1, .int .i64 a2] 2).run Tryz.prog w = .ok (.int .i64 a2) w := fun _ _ _ => by simp [part, isAgg3]
  have e3 := fun a b w => equal_i64 underlying3 (n + 0) a b w
  rw [run_equalIn_struct w (n + 1) 32 _ _ hS hp]
  simp only [Program.fieldsOf, underlying32]
  simp only [Op.eqFields, Sem.run_bind, Sem.run_ite, p0, p1, p2, e3, Result.andThen_ok]
  by_cases h0 : a0 = b0 <;> by_cases h1 : a1 = b1 <;> by_cases h2 : a2 = b2 <;> simp [h0, h1, h2]
theorem eqIn81 (n : Nat) (a0 : Int) (a1 : Int) (a2 : Int) (a3 : Int) (b0 : Int) (b1 : Int) (b2 : Int) (b3 : Int) (w : World) : (Op.equalIn (n + 2) 81 (.agg #[.int .i64 a0, .int .i64 a1, .int .i64 a2, .int .i64 a3]) (.agg #[.int .i64 b0, .int .i64 b1, .int .i64 b2, .int .i64 b3])).run Tryz.prog w = .ok (decide (a0 = b0) && decide (a1 = b1) && decide (a2 = b2) && decide (a3 = b3)) w := by
  have hS : Tryz.prog.underlying 81 = some (.struct (Tryz.prog.fieldsOf 81)) := by kernel_rfl
  have hp : Tryz.prog.stoodInHeld 81 = false := by kernel_rfl
  have p0 : ∀ (a0 : Int) (a1 : Int) (a2 : Int) (a3 : Int), (part 3 #[.int .i64 a0, .int .i64 a1, .int .i64 a2, .int .i64 a3] 0).run Tryz.prog w = .ok (.int .i64 a0) w := fun _ _ _ _ => by simp [part, isAgg3]
  have p1 : ∀ (a0 : Int) (a1 : Int) (a2 : Int) (a3 : Int), (part 3 #[.int .i64 a0, .int .i64 a1, .int .i64 a2, .int .i64 a3] 1).run Tryz.prog w = .ok (.int .i64 a1) w := fun _ _ _ _ => by simp [part, isAgg3]
  have p2 : ∀ (a0 : Int) (a1 : Int) (a2 : Int) (a3 : Int), (part 3 #[.int .i64 a0, .int .i64 a1, .int .i64 a2, .int .i64 a3] 2).run Tryz.prog w = .ok (.int .i64 a2) w := fun _ _ _ _ => by simp [part, isAgg3]
  have p3 : ∀ (a0 : Int) (a1 : Int) (a2 : Int) (a3 : Int), (part 3 #[.int .i64 a0, .int .i64 a1, .int .i64 a2, .int .i64 a3] 3).run Tryz.prog w = .ok (.int .i64 a3) w := fun _ _ _ _ => by simp [part, isAgg3]
  have e3 := fun a b w => equal_i64 underlying3 (n + 0) a b w
  rw [run_equalIn_struct w (n + 1) 81 _ _ hS hp]
  simp only [Program.fieldsOf, underlying81]
  simp only [Op.eqFields, Sem.run_bind, Sem.run_ite, p0, p1, p2, p3, e3, Result.andThen_ok]
  by_cases h0 : a0 = b0 <;> by_cases h1 : a1 = b1 <;> by_cases h2 : a2 = b2 <;> by_cases h3 : a3 = b3 <;> simp [h0, h1, h2, h3]
theorem eqIn73 (n : Nat) (a0 : Int) (a1 : Int) (a2 : Int) (a3 : Int) (a4 : Int) (a5 : Int) (b0 : Int) (b1 : Int) (b2 : Int) (b3 : Int) (b4 : Int) (b5 : Int) (w : World) : (Op.equalIn (n + 2) 73 (.agg #[.int .i64 a0, .int .i64 a1, .int .i64 a2, .int .i64 a3, .int .i64 a4, .int .i64 a5]) (.agg #[.int .i64 b0, .int .i64 b1, .int .i64 b2, .int .i64 b3, .int .i64 b4, .int .i64 b5])).run Tryz.prog w = .ok (decide (a0 = b0) && decide (a1 = b1) && decide (a2 = b2) && decide (a3 = b3) && decide (a4 = b4) && decide (a5 = b5)) w := by
  have hS : Tryz.prog.underlying 73 = some (.struct (Tryz.prog.fieldsOf 73)) := by kernel_rfl
  have hp : Tryz.prog.stoodInHeld 73 = false := by kernel_rfl
  have p0 : ∀ (a0 : Int) (a1 : Int) (a2 : Int) (a3 : Int) (a4 : Int) (a5 : Int), (part 3 #[.int .i64 a0, .int .i64 a1, .int .i64 a2, .int .i64 a3, .int .i64 a4, .int .i64 a5] 0).run Tryz.prog w = .ok (.int .i64 a0) w := fun _ _ _ _ _ _ => by simp [part, isAgg3]
  have p1 : ∀ (a0 : Int) (a1 : Int) (a2 : Int) (a3 : Int) (a4 : Int) (a5 : Int), (part 3 #[.int .i64 a0, .int .i64 a1, .int .i64 a2, .int .i64 a3, .int .i64 a4, .int .i64 a5] 1).run Tryz.prog w = .ok (.int .i64 a1) w := fun _ _ _ _ _ _ => by simp [part, isAgg3]
  have p2 : ∀ (a0 : Int) (a1 : Int) (a2 : Int) (a3 : Int) (a4 : Int) (a5 : Int), (part 3 #[.int .i64 a0, .int .i64 a1, .int .i64 a2, .int .i64 a3, .int .i64 a4, .int .i64 a5] 2).run Tryz.prog w = .ok (.int .i64 a2) w := fun _ _ _ _ _ _ => by simp [part, isAgg3]
  have p3 : ∀ (a0 : Int) (a1 : Int) (a2 : Int) (a3 : Int) (a4 : Int) (a5 : Int), (part 3 #[.int .i64 a0, .int .i64 a1, .int .i64 a2, .int .i64 a3, .int .i64 a4, .int .i64 a5] 3).run Tryz.prog w = .ok (.int .i64 a3) w := fun _ _ _ _ _ _ => by simp [part, isAgg3]
  have p4 : ∀ (a0 : Int) (a1 : Int) (a2 : Int) (a3 : Int) (a4 : Int) (a5 : Int), (part 3 #[.int .i64 a0, .int .i64 a1, .int .i64 a2, .int .i64 a3, .int .i64 a4, .int .i64 a5] 4).run Tryz.prog w = .ok (.int .i64 a4) w := fun _ _ _ _ _ _ => by simp [part, isAgg3]
  have p5 : ∀ (a0 : Int) (a1 : Int) (a2 : Int) (a3 : Int) (a4 : Int) (a5 : Int), (part 3 #[.int .i64 a0, .int .i64 a1, .int .i64 a2, .int .i64 a3, .int .i64 a4, .int .i64 a5] 5).run Tryz.prog w = .ok (.int .i64 a5) w := fun _ _ _ _ _ _ => by simp [part, isAgg3]
  have e3 := fun a b w => equal_i64 underlying3 (n + 0) a b w
  rw [run_equalIn_struct w (n + 1) 73 _ _ hS hp]
  simp only [Program.fieldsOf, underlying73]
  simp only [Op.eqFields, Sem.run_bind, Sem.run_ite, p0, p1, p2, p3, p4, p5, e3, Result.andThen_ok]
  by_cases h0 : a0 = b0 <;> by_cases h1 : a1 = b1 <;> by_cases h2 : a2 = b2 <;> by_cases h3 : a3 = b3 <;> by_cases h4 : a4 = b4 <;> by_cases h5 : a5 = b5 <;> simp [h0, h1, h2, h3, h4, h5]

set_option maxHeartbeats 4000000 in
theorem known_c  (w0 : World) (hpos : 0 < w0.heap.size) :
    CallsV Tryz.prog 11 [] w0 (fun v w' => v = .bool true ∧ Ext w0 w') := by
 refine f_n func11 ?_
 refine go ?_
 refine x_l fun bk3 w4 ebk3 sbk3 B5 u6 => ?_
 refine go ?_
 refine x_l fun bk8 w9 ebk8 sbk8 B10 u11 => ?_
 have B13 := (B5.kx u11)
 refine x_c func13 rfl rfl (Match_c kBd (some ⟨bk3, 0, none⟩) bk3 0 2 kAs (some ⟨bk8, 0, none⟩) bk8 0 2 _ (Sl.ofBlk (enc := encBid) (xs := kBd) (fun _ => rfl) B13) (by decide) (Sl.ofBlk (enc := encBid) (xs := kAs) (fun _ => rfl) B10) (by decide) (by omega)) ?_
 rintro _ w15 ⟨⟨pM, tM, aM, gM, cM, eM, rfl, hAm, hRm⟩, u16⟩ zu16
 obtain ⟨rfl, rfl, rfl⟩ := k_mt hRm
 have hAm1 := hAm.sl (fun _ => rfl)
 refine go ?_
 refine x_l fun bk20 w21 ebk20 sbk20 B22 u23 => ?_
 refine go ?_
 refine x_c func38 rfl rfl (charter_c _) ?_
 rintro _ w28 ⟨⟨gK26, rfl, hgK26, hK26⟩, u29⟩ zu29
 refine go ?_
 refine x_c func39 rfl rfl (call_c _) ?_
 rintro _ w34 ⟨⟨gJ32, rfl, hgJ32, hJ32⟩, u35⟩ zu35
 have D38 := (hK26.keep u35 (fun _ h => h))
 have B39 := ((B22.kx u29).kx u35)
 refine x_c func29 rfl rfl (Laytime_c kC kW (some ⟨gK26, 0, none⟩) gK26 0 2 kR (some ⟨bk20, 0, none⟩) bk20 0 1 kM (some ⟨gJ32, 0, none⟩) gJ32 0 7 _ D38 (by decide) (Sl.ofBlk (enc := encFre) (xs := kR) (fun _ => rfl) B39) (by decide) hJ32 (by decide) (by omega)) ?_
 rintro _ w41 ⟨⟨lcL, eL, rfl, hRl⟩, u42⟩ zu42
 obtain ⟨rfl, rfl⟩ := k_lt hRl
 refine go ?_
 refine x_n fun bk45 w46 ebk45 sbk45 B47 u48 => ?_
 refine x_s fun w50 sw50 B52 u51 => ?_
 refine go ?_
 refine x_c func38 rfl rfl (charter_c _) ?_
 rintro _ w57 ⟨⟨gK55, rfl, hgK55, hK55⟩, u58⟩ zu58
 refine go ?_
 refine x_c func39 rfl rfl (call_c _) ?_
 rintro _ w63 ⟨⟨gJ61, rfl, hgJ61, hJ61⟩, u64⟩ zu64
 have D67 := (hK55.keep u64 (fun _ h => h))
 have B68 := (((((B39.kx u42).kx u48).keep u51 (by omega)).kx u58).kx u64)
 refine x_c func27 rfl rfl (Bill_c kC kW (some ⟨gK55, 0, none⟩) gK55 0 2 kR (some ⟨bk20, 0, none⟩) bk20 0 1 kM (some ⟨gJ61, 0, none⟩) gJ61 0 7 _ D67 (by decide) (Sl.ofBlk (enc := encFre) (xs := kR) (fun _ => rfl) B68) (by decide) hJ61 (by decide) (by omega)) ?_
 rintro _ w70 ⟨⟨bB, eB, rfl, hRb⟩, u71⟩ zu71
 obtain ⟨rfl, rfl⟩ := k_bi hRb
 refine go ?_
 refine x_n fun bk74 w75 ebk74 sbk74 B76 u77 => ?_
 refine x_s fun w79 sw79 B81 u80 => ?_
 refine go ?_
 refine x_c func38 rfl rfl (charter_c _) ?_
 rintro _ w86 ⟨⟨gK84, rfl, hgK84, hK84⟩, u87⟩ zu87
 refine x_l fun bk90 w91 ebk90 sbk90 B92 u93 => ?_
 refine go ?_
 refine x_c func39 rfl rfl (call_c _) ?_
 rintro _ w97 ⟨⟨gJ95, rfl, hgJ95, hJ95⟩, u98⟩ zu98
 have B101 := (B92.kx u98)
 have D102 := ((hK84.keep u93 (fun _ h => h)).keep u98 (fun _ h => h))
 have B103 := ((((((B68.kx u71).kx u77).keep u80 (by omega)).kx u87).kx u93).kx u98)
 refine x_c func22 rfl rfl (Balance_c [(⟨kC, kW, some ⟨gK84, 0, none⟩, gK84, 0, 2⟩ : HC)] (some ⟨bk90, 0, none⟩) bk90 0 1 kR (some ⟨bk20, 0, none⟩) bk20 0 1 kM (some ⟨gJ95, 0, none⟩) gJ95 0 7 _ (Sl.ofBlk (enc := encHC) (xs := [(⟨kC, kW, some ⟨gK84, 0, none⟩, gK84, 0, 2⟩ : HC)]) (fun _ => rfl) B101) (show 1 ≤ 1000000 by decide) (fun h hh => by rw [List.mem_singleton.1 hh]; exact ⟨D102, show 2 ≤ 1000000 by decide⟩) (Sl.ofBlk (enc := encFre) (xs := kR) (fun _ => rfl) B103) (by decide) hJ95 (by decide) (by omega)) ?_
 rintro _ w105 ⟨⟨bP, eP, aP, gP, cP, rfl, ⟨hAp, _⟩, hRp⟩, u106⟩ zu106
 obtain ⟨rfl, rfl⟩ := k_bal rfl rfl hRp
 refine go ?_
 refine x_l fun bk110 w111 ebk110 sbk110 B112 u113 => ?_
 refine x_c func16 rfl rfl (Best_c kO (some ⟨bk110, 0, none⟩) bk110 0 3 kH _ (Sl.ofBlk (enc := encOff) (xs := kO) (fun _ => rfl) B112) (by decide) (by omega)) ?_
 rintro _ w116 ⟨⟨rO, eO, aO, gO, oO, cO, rfl, hAo, hRe, hRo⟩, u117⟩ zu117
 obtain ⟨hkb1, hkb2⟩ := k_best
 rw [hkb2] at hRe
 subst hRe
 obtain rfl : rO = ⟨[1], 31000⟩ := (hRo.resolve_left (fun h => h.1 rfl)).2.trans hkb1
 refine go ?_
 have D123 := (((((((((((((((((hAm1.keep u23 (fun _ h => h)).keep u29 (fun _ h => h)).keep u35 (fun _ h => h)).keep u42 (fun _ h => h)).keep u48 (fun _ h => h)).keep u51 (fun h9 => show ¬ (gM = bk45) by have := hAm.ge h9; have := hAm1.lt h9; omega)).keep u58 (fun _ h => h)).keep u64 (fun _ h => h)).keep u71 (fun _ h => h)).keep u77 (fun _ h => h)).keep u80 (fun h9 => show ¬ (gM = bk74) by have := hAm.ge h9; have := hAm1.lt h9; omega)).keep u87 (fun _ h => h)).keep u93 (fun _ h => h)).keep u98 (fun _ h => h)).keep u106 (fun _ h => h)).keep u113 (fun _ h => h)).keep u117 (fun _ h => h))
 have i124 : 1 < kT.length := (by decide)
 refine g_i 1 D123 (fun _ => ?_)
 refine go ?_
 refine t_eqS (xs := [.int .i64 1, .int .i64 4, .int .i64 200]) (ys := [.int .i64 1, .int .i64 4, .int .i64 200]) (by kernel_rfl) (eqIn32 9998 1 4 200 1 4 200) rfl rfl rfl rfl (t_samehd (v := .bool true) rfl ?_)
 refine go ?_
 refine t_eqS (xs := [.int .i64 360, .int .i64 1440, .int .i64 700, .int .i64 0]) (ys := [.int .i64 360, .int .i64 1440, .int .i64 700, .int .i64 0]) (by kernel_rfl) (eqIn81 9998 360 1440 700 0 360 1440 700 0) rfl rfl rfl rfl (t_samehd (v := .bool true) rfl ?_)
 refine go ?_
 refine t_eqS (xs := [.int .i64 1020000, .int .i64 204000, .int .i64 70000, .int .i64 0, .int .i64 61200, .int .i64 1294000]) (ys := [.int .i64 1020000, .int .i64 204000, .int .i64 70000, .int .i64 0, .int .i64 61200, .int .i64 1294000]) (by kernel_rfl) (eqIn73 9998 1020000 204000 70000 0 61200 1294000 1020000 204000 70000 0 61200 1294000) rfl rfl rfl rfl (t_samehd (v := .bool true) rfl ?_)
 refine go ?_
 have D125 := ((hAp.keep u113 (fun _ h => h)).keep u117 (fun _ h => h))
 have i126 : 1 < kP.length := (by decide)
 refine g_i 1 D125 (fun _ => ?_)
 refine st1 (t_same 113 (v := .int .i64 (-1294000)) rfl (by kernel_rfl) ?_)
 refine go ?_
 have i127 : 2 < kP.length := (by decide)
 refine g_i 2 D125 (fun _ => ?_)
 refine st1 (t_same 119 (v := .int .i64 1232800) rfl (by kernel_rfl) ?_)
 refine go ?_
 have i128 : 3 < kP.length := (by decide)
 refine g_i 3 D125 (fun _ => ?_)
 refine st1 (t_same 125 (v := .int .i64 61200) rfl (by kernel_rfl) ?_)
 refine go ?_
 have i129 : 0 < [1].length := (by decide)
 refine g_i 0 hAo (fun _ => ?_)
 refine go ?_
 refine f_1 results11 ?_
 exact ⟨rfl, u_d⟩

end Go.Proofs.YtgoajalaomakpaaGreat
namespace Go.Proofs.YtgoajalaomakpaaGreat
open Go Go.RowKit Go.Proofs.Tryz

/-- An element put into a strict order. -/
theorem ins_pw {α : Type} [Inhabited α] {R : α → α → Prop} (tr : ∀ a b c, R a b → R b c → R a c) {x : α} {out : List α} {k : Nat} (h : out.Pairwise R) (hk : k ≤ out.length) (h1 : 0 < k → R (nth out (k - 1)) x) (h2 : ∀ j, k ≤ j → j < out.length → R x (nth out j)) : (out.take k ++ ([x] ++ out.drop k)).Pairwise R := by
  rw [List.pairwise_append]
  refine ⟨h.sublist (List.take_sublist _ _), (List.pairwise_cons (l := out.drop k)).2 ⟨fun y hy => ?_, h.sublist (List.drop_sublist _ _)⟩, fun a ha b hb => ?_⟩
  · obtain ⟨j, hj, rfl⟩ := List.getElem_of_mem hy
    rw [List.length_drop] at hj
    rw [List.getElem_drop, ← nth_eq]
    exact h2 (k + j) (by omega) (by omega)
  · obtain ⟨i, hi, rfl⟩ := List.getElem_of_mem ha
    rw [List.length_take] at hi
    rw [List.getElem_take, ← nth_eq]
    have h3 : R (nth out i) x := by
      rcases Nat.lt_or_ge i (k - 1) with q | q
      · have h4 := List.pairwise_iff_getElem.1 h i (k - 1) (by omega) (by omega) q
        rw [← nth_eq, ← nth_eq] at h4
        exact tr _ _ _ h4 (h1 (by omega))
      · rw [show i = k - 1 by omega]; exact h1 (by omega)
    rcases List.mem_append.1 hb with hb | hb
    · rw [List.mem_singleton.1 hb]; exact h3
    · obtain ⟨j, hj, rfl⟩ := List.getElem_of_mem hb
      rw [List.length_drop] at hj
      rw [List.getElem_drop, ← nth_eq]
      exact tr _ _ _ h3 (h2 (k + j) (by omega) (by omega))
theorem ins_mem {α : Type} {out : List α} {x y : α} {k : Nat} : y ∈ out.take k ++ ([x] ++ out.drop k) ↔ y ∈ out ∨ y = x := by
  have h : y ∈ out ↔ y ∈ out.take k ∨ y ∈ out.drop k := by rw [← List.mem_append, List.take_append_drop]
  rw [h]
  simp only [List.mem_append, List.mem_singleton]
  constructor
  · rintro (a | a | a)
    · exact .inl (.inl a)
    · exact .inr a
    · exact .inl (.inr a)
  · rintro ((a | a) | a)
    · exact .inl a
    · exact .inr (.inr a)
    · exact .inr (.inl a)
theorem FLt.trans (a b c : Msg) (h1 : FLt a b) (h2 : FLt b c) : FLt a c := by
  unfold FLt at *
  rw [cmpF_lt] at *
  omega
/-- What Messages returns. -/
def MgE (l : List Msg) (e : Int) : Prop := (rdE l ≠ 0 ∧ e = rdE l) ∨ (rdE l = 0 ∧ ¬ NoEd l ∧ e = 6) ∨ (rdE l = 0 ∧ NoEd l ∧ e = 0)
theorem edK_iff {a b : Msg} : edK a = edK b ↔ a.c = b.c ∧ a.n = b.n ∧ a.r = b.r := by unfold edK; simp
/-- A message that comes to nothing by another one. -/
def badB (l : List Msg) (i k : Nat) : Prop := (nth l i).c = (nth l k).c ∧ (nth l i).n = (nth l k).n ∧ ((nth l i).r < (nth l k).r ∨ (nth l k = nth l i ∧ k < i))
instance (l : List Msg) (i k : Nat) : Decidable (badB l i k) := by unfold badB; infer_instance
def lastK (l : List Msg) (i : Nat) : Nat → Bool
  | 0 => decide ((nth l i).k ≠ 7)
  | k + 1 => lastK l i k && !decide (badB l i k)
theorem lastK_iff {l : List Msg} {i : Nat} : ∀ {k : Nat}, lastK l i k = true ↔ (nth l i).k ≠ 7 ∧ ∀ j, j < k → ¬ badB l i j
  | 0 => by simp [lastK]
  | k + 1 => by
    rw [lastK, Bool.and_eq_true, lastK_iff]
    constructor
    · rintro ⟨⟨h1, h2⟩, h3⟩
      exact ⟨h1, fun j hj => (Nat.lt_succ_iff_lt_or_eq.1 hj).elim (h2 j) (fun e => by subst e; simpa using h3)⟩
    · rintro ⟨h1, h2⟩
      exact ⟨⟨h1, fun j hj => h2 j (by omega)⟩, by simpa using h2 k (by omega)⟩
/-- The facts of the first messages. -/
structure OutI (l : List Msg) (i : Nat) (out : List Msg) : Prop where
  pw : out.Pairwise FLt
  mem : ∀ x, x ∈ out ↔ ∃ j, j < i ∧ nth l j = x ∧ lastK l j l.length = true
  len : out.length ≤ i
theorem OutI.skip {l out : List Msg} {i : Nat} (h : OutI l i out) (hl : lastK l i l.length = false) : OutI l (i + 1) out :=
  ⟨h.pw, fun x => by
    rw [h.mem]
    constructor
    · rintro ⟨j, q1, q2⟩; exact ⟨j, by omega, q2⟩
    · rintro ⟨j, q1, q2, q3⟩
      rcases Nat.lt_succ_iff_lt_or_eq.1 q1 with q | rfl
      · exact ⟨j, q, q2, q3⟩
      · exact absurd (hl.symm.trans q3) Bool.false_ne_true, Nat.le_succ_of_le h.len⟩
theorem OutI.put {l out : List Msg} {i k : Nat} (h : OutI l i out) (hE : NoEd l) (hi : i < l.length) (hl : lastK l i l.length = true) (hk : k ≤ out.length) (h1 : ¬ (0 < k ∧ FLt (nth l i) (nth out (k - 1)))) (h2 : ∀ j, k ≤ j → j < out.length → FLt (nth l i) (nth out j)) : OutI l (i + 1) (out.take k ++ ([nth l i] ++ out.drop k)) := by
  have hne : ∀ y ∈ out, keK y ≠ keK (nth l i) := fun y hy e => by
    obtain ⟨j, hj, rfl, hlj⟩ := (h.mem y).1 hy
    obtain ⟨_, q1⟩ := lastK_iff.1 hl
    obtain ⟨_, q2⟩ := lastK_iff.1 hlj
    have e1 : (nth l j).c = (nth l i).c := congrArg Prod.fst e
    have e2 : (nth l j).n = (nth l i).n := congrArg Prod.snd e
    have r1 : ¬ (nth l j).r < (nth l i).r := fun q => q2 i hi ⟨e1, e2, .inl q⟩
    have r2 : ¬ (nth l i).r < (nth l j).r := fun q => q1 j (by omega) ⟨e1.symm, e2.symm, .inl q⟩
    have e3 : nth l j = nth l i := hE _ (nth_mem (by omega)) _ (nth_mem hi) (by rw [edK_iff]; exact ⟨e1, e2, by omega⟩)
    exact q1 j (by omega) ⟨e1.symm, e2.symm, .inr ⟨e3, hj⟩⟩
  refine ⟨ins_pw FLt.trans h.pw hk (fun q => cmpF_ne (fun q2 => h1 ⟨q, q2⟩) (hne _ (nth_mem (by omega)))) h2, fun x => ?_, ?_⟩
  · rw [ins_mem, h.mem]
    constructor
    · rintro (⟨j, q1, q2⟩ | rfl)
      · exact ⟨j, by omega, q2⟩
      · exact ⟨i, by omega, rfl, hl⟩
    · rintro ⟨j, q1, q2, q3⟩
      rcases Nat.lt_succ_iff_lt_or_eq.1 q1 with q | rfl
      · exact .inl ⟨j, q, q2, q3⟩
      · exact .inr q2.symm
  · have := h.len
    simp only [List.length_append, List.length_take, List.length_drop, List.length_singleton]
    omega
theorem OutI.fin {l out : List Msg} (h : OutI l l.length out) : ∀ x, x ∈ out ↔ LastIn l x := fun x => by
  rw [h.mem]
  constructor
  · rintro ⟨j, hj, rfl, hl⟩
    obtain ⟨q1, q2⟩ := lastK_iff.1 hl
    refine ⟨nth_mem hj, q1, fun m hm hc hn => ?_⟩
    obtain ⟨i, hi, rfl⟩ := List.getElem_of_mem hm
    rw [← nth_eq hi] at *
    exact Int.not_lt.1 (fun q => q2 i hi ⟨hc.symm, hn.symm, .inl q⟩)
  · rintro ⟨hx, hk, hr⟩
    have : ∃ j, j < l.length ∧ nth l j = x ∧ ∀ i, i < j → nth l i ≠ x := by
      obtain ⟨i, hi, e⟩ := List.getElem_of_mem hx
      rw [← nth_eq hi] at e
      clear hr hk hx
      induction i using Nat.strongRecOn with
      | ind i ih =>
        by_cases q : ∃ j, j < i ∧ nth l j = x
        · obtain ⟨j, q1, q2⟩ := q
          exact ih j q1 (by omega) q2
        · exact ⟨i, hi, e, fun j hj q2 => q ⟨j, hj, q2⟩⟩
    obtain ⟨j, hj, rfl, hf⟩ := this
    refine ⟨j, hj, rfl, lastK_iff.2 ⟨hk, fun i hi ⟨b1, b2, b3⟩ => ?_⟩⟩
    rcases b3 with b3 | ⟨b3, b4⟩
    · have := hr _ (nth_mem hi) b1.symm b2.symm; omega
    · exact hf i b4 b3
end Go.Proofs.YtgoajalaomakpaaGreat
namespace Go.Proofs.YtgoajalaomakpaaGreat
open Go Go.RowKit Go.Proofs.Tryz

theorem RdR.len {l o : List Msg} {e : Int} (h : RdR l o e) : o.length ≤ 100 := by
  have h' := h
  rcases h with ⟨_, _, q⟩ | ⟨_, _, q, _⟩ | ⟨h0, rfl, _⟩
  · rw [q]; decide
  · rw [q]; decide
  · have := h'.facts
    have := (rdE_ok h0).1
    omega
theorem MgE.noEd {l : List Msg} (h : MgE l 0) : NoEd l := by
  rcases h with ⟨r1, r2⟩ | ⟨r1, r2, r3⟩ | ⟨r1, r2, r3⟩
  · omega
  · omega
  · exact r2
end Go.Proofs.YtgoajalaomakpaaGreat
