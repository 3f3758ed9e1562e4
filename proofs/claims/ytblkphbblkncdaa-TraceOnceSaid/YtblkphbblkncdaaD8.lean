/-
  From sack to sack: plain, the state. Conditions: none.
-/
import Derived.Test.YtblkphbblkncdaaD7
namespace Go.Proofs.Ytblkphbblkncdaa
open Go Go.RowKit
theorem step1 {S : Stt} {x : Ev} {e : Int} (hk : x.kind = 1) : stepF S x e = { S with loaded := S.loaded.set (x.bill).toNat (nth S.loaded (x.bill).toNat + x.tons), hold := S.hold.set (x.to).toNat (nth S.hold (x.to).toNat ++ [⟨x.bill, x.tons, [e]⟩]) } := by unfold stepF; rw [if_pos hk]
theorem step2 {S : Stt} {x : Ev} {e : Int} (hk : x.kind = 2) : stepF S x e = { S with hold := (S.hold.set (x.frm).toNat (takV (nth S.hold (x.frm).toNat) x.tons).1).set (x.to).toNat (nth S.hold (x.to).toNat ++ (takV (nth S.hold (x.frm).toNat) x.tons).2.map (movL e)) } := by unfold stepF; rw [if_neg (by omega), if_pos hk]
theorem step3 {S : Stt} {x : Ev} {e : Int} (hk : x.kind = 3) : stepF S x e = { S with hold := S.hold.set (x.frm).toNat (takV (nth S.hold (x.frm).toNat) x.tons).1, landed := S.landed ++ [⟨e, x.port, (takV (nth S.hold (x.frm).toNat) x.tons).2.map (movL e)⟩] } := by unfold stepF; rw [if_neg (by omega), if_neg (by omega), if_pos hk]
theorem step4 {S : Stt} {x : Ev} {e : Int} (hk : x.kind = 4) : stepF S x e = { S with sealed := S.sealed.set (x.to).toNat true, seals := S.seals ++ [x.sn] } := by unfold stepF; rw [if_neg (by omega), if_neg (by omega), if_neg (by omega), if_pos hk]
theorem step5 {S : Stt} {x : Ev} {e : Int} (hk : x.kind = 5) : stepF S x e = { S with sealed := S.sealed.set (x.frm).toNat false } := by unfold stepF; rw [if_neg (by omega), if_neg (by omega), if_neg (by omega), if_neg (by omega)]

/-- All paths are right. -/
structure PathOk (l : List Ev) (S : Stt) : Prop where
  hold : ∀ i, i < S.hold.length → ∀ x ∈ nth S.hold i, Goes l x i
  land : ∀ p ∈ S.landed, (0 ≤ p.ev ∧ p.ev < (l.length : Int)) ∧ (nth l p.ev.toNat).kind = 3 ∧ ∀ q ∈ p.parts, Goes l q (-1) ∧ nth q.path (q.path.length - 1) = p.ev
  all : ∀ i, i < l.length → (nth l i).kind = 3 → ∃ p ∈ S.landed, p.ev = (i : Int)
theorem hold_set {P : Nat → Lay → Prop} {hd : List (List Lay)} {i : Nat} {v : List Lay} (h : ∀ j, j < hd.length → ∀ x ∈ nth hd j, P j x) (hv : ∀ x ∈ v, P i x) : ∀ j, j < (hd.set i v).length → ∀ x ∈ nth (hd.set i v) j, P j x := fun j hj x hx => by
  rw [List.length_set] at hj
  by_cases e : j = i
  · subst e; rw [nth_set_eq hj] at hx; exact hv x hx
  · rw [nth_set_ne e] at hx; exact h j hj x hx
theorem kept_goes {l : List Ev} {hl : List Lay} {h t : Int} (g : ∀ y ∈ hl, Goes l y h) : ∀ q ∈ (takV hl t).1, Goes l q h := fun q hq => by
  have hq : q ∈ (takR hl.reverse t).1 := List.mem_reverse.1 hq
  obtain ⟨y, hy, e1, e2, e3, e4⟩ := takR_left (fun x hx => (g x (List.mem_reverse.1 hx)).tn) q hq
  have := (g y (List.mem_reverse.1 hy)).less e3 e4
  rw [← e1, ← e2] at this
  exact this
theorem parts_goes {l : List Ev} {hl : List Lay} {h : Int} {x : Ev} (g : ∀ y ∈ hl, Goes l y h) (h0 : 0 ≤ h) (hf : x.frm = h) (hk : x.kind = 2 ∨ x.kind = 3) : ∀ q ∈ (takV hl x.tons).2.map (movL (l.length : Int)), Goes (l ++ [x]) q (if x.kind = 3 then -1 else x.to) ∧ nth q.path (q.path.length - 1) = (l.length : Int) := fun q hq => by
  obtain ⟨p, hp, rfl⟩ := List.mem_map.1 hq
  have ho := takR_ord (l := hl.reverse) (t := x.tons) (fun y hy => (g y (List.mem_reverse.1 hy)).tn)
  obtain ⟨j, hj, rfl⟩ := List.mem_iff_getElem.1 (show p ∈ (takR hl.reverse x.tons).2 from hp)
  obtain ⟨a, b⟩ := ho
  obtain ⟨e1, e2, e3, _⟩ := b j hj
  rw [nth_eq hj] at e1 e2 e3
  have hy := g _ (List.mem_reverse.1 (nth_mem (xs := hl.reverse) (i := j) (by omega)))
  have := hy.ext h0 hf hk e3.1 e3.2.1 e3.2.2
  rw [← e1, ← e2] at this
  refine ⟨this, ?_⟩
  show nth ((takR hl.reverse x.tons).2[j].path ++ [(l.length : Int)]) (((takR hl.reverse x.tons).2[j].path ++ [(l.length : Int)]).length - 1) = _
  rw [List.length_append, List.length_singleton, Nat.add_sub_cancel, snoc_nth]
theorem PathOk.step {bs : List Bil} {caps : List Int} {l : List Ev} {S : Stt} {mi : Int} {x : Ev} (h : PathOk l S) (hn : S.hold.length = caps.length) (hx : okEv x = true) (hc : EvOk bs caps S mi x) : PathOk (l ++ [x]) (stepF S x (l.length : Int)) := by
  have hr := okEv_rng hx
  have hold : ∀ i, i < S.hold.length → ∀ y ∈ nth S.hold i, Goes (l ++ [x]) y i := fun i hi y hy => (h.hold i hi y hy).mono [x]
  have land : ∀ p ∈ S.landed, (0 ≤ p.ev ∧ p.ev < ((l ++ [x]).length : Int)) ∧ (nth (l ++ [x]) p.ev.toNat).kind = 3 ∧ ∀ q ∈ p.parts, Goes (l ++ [x]) q (-1) ∧ nth q.path (q.path.length - 1) = p.ev := fun p hp => by
    obtain ⟨a, b, c⟩ := h.land p hp
    refine ⟨by rw [List.length_append, List.length_singleton]; omega, by rw [nth_appL (by omega)]; exact b, fun q hq => ⟨(c q hq).1.mono [x], (c q hq).2⟩⟩
  have all : x.kind ≠ 3 → ∀ i, i < (l ++ [x]).length → (nth (l ++ [x]) i).kind = 3 → ∃ p ∈ S.landed, p.ev = (i : Int) := fun hk i hi hi3 => by
    rw [List.length_append, List.length_singleton] at hi
    rcases Nat.lt_or_ge i l.length with q | q
    · rw [nth_appL q] at hi3; exact h.all i q hi3
    · have : i = l.length := by omega
      subst this
      rw [snoc_nth] at hi3; exact absurd hi3 hk
  have frm : useF x = true → ∀ y ∈ nth S.hold x.frm.toNat, Goes l y x.frm := fun hu y hy => by
    have := h.hold x.frm.toNat (by rw [hn]; exact hc.frm hu) y hy
    rwa [show ((x.frm.toNat : Nat) : Int) = x.frm by omega] at this
  by_cases k1 : x.kind = 1
  · rw [step1 k1]
    refine ⟨hold_set (P := fun i y => Goes (l ++ [x]) y i) hold (fun y hy => ?_), land, all (by omega)⟩
    rcases List.mem_append.1 hy with hy | hy
    · exact hold _ (by rw [hn]; exact hc.to (by simp [useT, k1])) y hy
    · have : y = ⟨x.bill, x.tons, [(l.length : Int)]⟩ := by simpa using hy
      subst this
      show Goes (l ++ [x]) _ ((x.to.toNat : Nat) : Int)
      rw [show ((x.to.toNat : Nat) : Int) = x.to by omega]
      exact Goes.first k1 (hr.2.2.2.2.2.2.1 (by omega))
  by_cases k2 : x.kind = 2
  · obtain ⟨u1, u2⟩ := use2 k2
    rw [step2 k2]
    refine ⟨hold_set (P := fun i y => Goes (l ++ [x]) y i) (hold_set (P := fun i y => Goes (l ++ [x]) y i) hold (fun y hy => ?_)) (fun y hy => ?_), land, all (by omega)⟩
    · have := (kept_goes (frm u1) y hy).mono [x]
      show Goes (l ++ [x]) y ((x.frm.toNat : Nat) : Int)
      rwa [show ((x.frm.toNat : Nat) : Int) = x.frm by omega]
    · rcases List.mem_append.1 hy with hy | hy
      · exact hold _ (by rw [hn]; exact hc.to u2) y hy
      · have := (parts_goes (frm u1) hr.2.2.1 rfl (.inl k2) y hy).1
        rw [if_neg (by omega)] at this
        show Goes (l ++ [x]) y ((x.to.toNat : Nat) : Int)
        rwa [show ((x.to.toNat : Nat) : Int) = x.to by omega]
  by_cases k3 : x.kind = 3
  · have u1 : useF x = true := by simp [useF, k3]
    rw [step3 k3]
    refine ⟨hold_set (P := fun i y => Goes (l ++ [x]) y i) hold (fun y hy => ?_), fun p hp => ?_, fun i hi hi3 => ?_⟩
    · have := (kept_goes (frm u1) y hy).mono [x]
      show Goes (l ++ [x]) y ((x.frm.toNat : Nat) : Int)
      rwa [show ((x.frm.toNat : Nat) : Int) = x.frm by omega]
    · rcases List.mem_append.1 hp with hp | hp
      · exact land p hp
      · have : p = ⟨(l.length : Int), x.port, (takV (nth S.hold (x.frm).toNat) x.tons).2.map (movL (l.length : Int))⟩ := by simpa using hp
        subst this
        refine ⟨?_, ?_, fun q hq => ?_⟩
        · show 0 ≤ (l.length : Int) ∧ (l.length : Int) < _
          rw [List.length_append, List.length_singleton]; omega
        · show (nth (l ++ [x]) l.length).kind = 3
          rw [snoc_nth]; exact k3
        · have := parts_goes (frm u1) hr.2.2.1 rfl (.inr k3) q hq
          rw [if_pos k3] at this
          exact this
    · rw [List.length_append, List.length_singleton] at hi
      rcases Nat.lt_or_ge i l.length with q | q
      · rw [nth_appL q] at hi3
        obtain ⟨p, hp, e⟩ := h.all i q hi3
        exact ⟨p, List.mem_append_left _ hp, e⟩
      · have : i = l.length := by omega
        subst this
        exact ⟨_, List.mem_append_right _ (List.mem_singleton.2 rfl), rfl⟩
  by_cases k4 : x.kind = 4
  · rw [step4 k4]; exact ⟨hold, land, all k3⟩
  · rw [step5 (by omega)]; exact ⟨hold, land, all k3⟩
theorem runE_path {bs : List Bil} {caps : List Int} : ∀ {l pre : List Ev} {i : Nat} {S : Stt} {mi : Int}, i = pre.length → PathOk pre S → StOk bs caps i S → (∀ x ∈ l, okEv x = true) → (runE bs caps l i S mi).2.2 = 0 → PathOk (pre ++ l) (runE bs caps l i S mi).1
  | [], pre, i, S, mi, _, h, _, _, _ => by rw [List.append_nil]; exact h
  | y :: l, pre, i, S, mi, e, h, hs, ho, h0 => by
    unfold runE at h0 ⊢
    by_cases hc : chkP bs caps S mi y ≠ 0
    · rw [if_pos hc] at h0; exact absurd h0 hc
    · rw [if_neg hc] at h0 ⊢
      have hy := ho y (by simp)
      have hev := EvOk.of hy (Decidable.not_not.1 hc)
      have hp := h.step hs.hn hy hev
      rw [← e] at hp
      have := runE_path (pre := pre ++ [y]) (by rw [List.length_append, List.length_singleton, e]) hp (hs.step hy hev) (fun x hx => ho x (List.mem_cons_of_mem _ hx)) h0
      rwa [List.append_assoc] at this
theorem sail_path {bs : List Bil} {hs : List Hld} {l : List Ev} (h : sEr bs hs l = 0) : PathOk l (sSt bs hs l) := by
  obtain ⟨h1, h2, h3⟩ := sail_inv h
  unfold sEr at h
  unfold sSt
  rw [sail_eq h1 h2 h3] at h ⊢
  refine runE_path (pre := []) rfl ⟨fun i hi x hx => ?_, (fun p hp => by cases hp), (fun i hi => by cases hi)⟩ (emptyS_ok (by rw [h1]; decide)) h3 h
  have := nth_mem (xs := (emptyS bs.length hs.length).hold) hi
  have := List.eq_of_mem_replicate this
  rw [this] at hx; cases hx
theorem runE_pre {bs : List Bil} {caps : List Int} {b : List Ev} : ∀ {a : List Ev} {i : Nat} {S : Stt} {mi : Int}, (runE bs caps (a ++ b) i S mi).2.2 = 0 → (runE bs caps a i S mi).2.2 = 0 ∧ ∃ m, (runE bs caps (a ++ b) i S mi).1.landed = (runE bs caps a i S mi).1.landed ++ m
  | [], i, S, mi, h => by
    refine ⟨rfl, ?_⟩
    clear h
    show ∃ m, (runE bs caps b i S mi).1.landed = S.landed ++ m
    induction b generalizing i S mi with
    | nil => exact ⟨[], by rw [List.append_nil]; rfl⟩
    | cons y b ih =>
      unfold runE
      split
      · exact ⟨[], by rw [List.append_nil]⟩
      · obtain ⟨m, e⟩ := @ih (i + 1) (stepF S y i) y.minute
        rw [e]
        unfold stepF
        repeat (split; first | exact ⟨m, rfl⟩ | exact ⟨_, List.append_assoc _ _ _⟩)
        exact ⟨m, rfl⟩
  | y :: a, i, S, mi, h => by
    rw [List.cons_append] at h ⊢
    unfold runE at h ⊢
    by_cases hc : chkP bs caps S mi y ≠ 0
    · rw [if_pos hc] at h; exact absurd h hc
    · rw [if_neg hc] at h ⊢
      rw [if_neg hc]
      exact runE_pre h
theorem sail_take {bs : List Bil} {hs : List Hld} {l : List Ev} (h : sEr bs hs l = 0) (n : Nat) : sEr bs hs (l.take n) = 0 ∧ ∃ m, (sSt bs hs l).landed = (sSt bs hs (l.take n)).landed ++ m := by
  obtain ⟨h1, h2, h3⟩ := sail_inv h
  have h2' : (l.take n).length ≤ 100 := by rw [List.length_take]; omega
  have h3' : ∀ x ∈ l.take n, okEv x = true := fun x hx => h3 x (List.mem_of_mem_take hx)
  unfold sEr at h ⊢
  unfold sSt
  rw [sail_eq h1 h2' h3']
  rw [sail_eq h1 h2 h3] at h ⊢
  have e := List.take_append_drop n l
  rw [← e] at h
  obtain ⟨a, m, b⟩ := runE_pre h
  rw [e] at b
  exact ⟨a, m, b⟩
theorem find_all {l : List Ev} {S : Stt} (h : PathOk l S) {i : Nat} (hi : i < l.length) (hk : (nth l i).kind = 3) : ∃ ps, findL S.landed (i : Int) = some ps ∧ ∀ q ∈ ps, Goes l q (-1) ∧ nth q.path (q.path.length - 1) = (i : Int) := by
  obtain ⟨p, hp, e⟩ := h.all i hi hk
  unfold findL
  cases hf : S.landed.find? (fun x => decide (x.ev = (i : Int))) with
  | none => exact absurd (List.find?_eq_none.1 hf p hp) (by simp [e])
  | some p2 =>
    have e2 : p2.ev = (i : Int) := by have := List.find?_some hf; simpa using this
    obtain ⟨_, _, c⟩ := h.land p2 (List.mem_of_find?_eq_some hf)
    exact ⟨p2.parts, rfl, fun q hq => by have := c q hq; rw [e2] at this; exact this⟩
theorem find_pre {a b : List Lnd} {i : Int} {ps : List Lay} (h : findL a i = some ps) : findL (a ++ b) i = some ps := by
  unfold findL at h ⊢
  rw [List.find?_append]
  cases hf : a.find? (fun x => decide (x.ev = i)) with
  | none => rw [hf] at h; cases h
  | some p => rw [hf] at h; exact h
theorem find_none {l : List Ev} {S : Stt} (h : PathOk l S) {i : Nat} (hi : l.length ≤ i) : findL S.landed (i : Int) = none := by
  unfold findL
  rw [List.find?_eq_none.2]
  · rfl
  · intro p hp h9
    have := (h.land p hp).1
    have : p.ev = (i : Int) := by simpa using h9
    omega

end Go.Proofs.Ytblkphbblkncdaa
