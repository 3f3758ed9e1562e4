/-
  Part 16 of the proof: contracts and plain laws. Conditions: none.
-/
import Derived.Test.YtgoajalaomakpaaGreatEK15
namespace Go.Proofs.YtgoajalaomakpaaGreat
open Go Go.RowKit Go.Proofs.Tryz

theorem nodup_ne {l : List Bid} (h : (l.map Bid.p).Nodup) {i j : Nat} (hi : i < l.length) (hj : j < i) : (nth l i).p ≠ (nth l j).p := by
  unfold List.Nodup at h
  rw [List.pairwise_map] at h
  have := List.pairwise_iff_getElem.1 h j i (by omega) hi hj
  rw [nth_eq hi, nth_eq (by omega)]
  exact fun e => this e.symm
theorem BLt.trans {sg : Int} (hsg : sg = 1 ∨ sg = -1) (a b c : Bid) (h1 : BLt sg a b) (h2 : BLt sg b c) : BLt sg a c := by
  unfold BLt at *
  rw [cmpB_lt hsg] at *
  rcases hsg with rfl | rfl <;> omega
/-- The orders of the first ones that trade, in order. -/
structure OutB (l : List Bid) (sg p : Int) (i : Nat) (out : List Bid) : Prop where
  pw : out.Pairwise (BLt sg)
  mem : ∀ x, x ∈ out ↔ ∃ j, j < i ∧ nth l j = x ∧ trd sg x p = true
  len : out.length ≤ i
theorem OutB.skip {l out : List Bid} {sg p : Int} {i : Nat} (h : OutB l sg p i out) (hl : trd sg (nth l i) p = false) : OutB l sg p (i + 1) out :=
  ⟨h.pw, fun x => by
    rw [h.mem]
    constructor
    · rintro ⟨j, q1, q2⟩; exact ⟨j, by omega, q2⟩
    · rintro ⟨j, q1, q2, q3⟩
      rcases Nat.lt_succ_iff_lt_or_eq.1 q1 with q | rfl
      · exact ⟨j, q, q2, q3⟩
      · rw [← q2, hl] at q3; exact absurd q3 Bool.false_ne_true, Nat.le_succ_of_le h.len⟩
theorem OutB.put {l out : List Bid} {sg p : Int} {i k : Nat} (hsg : sg = 1 ∨ sg = -1) (h : OutB l sg p i out) (hn : (l.map Bid.p).Nodup) (hi : i < l.length) (hl : trd sg (nth l i) p = true) (hk : k ≤ out.length) (h1 : ¬ (0 < k ∧ BLt sg (nth l i) (nth out (k - 1)))) (h2 : ∀ j, k ≤ j → j < out.length → BLt sg (nth l i) (nth out j)) : OutB l sg p (i + 1) (out.take k ++ ([nth l i] ++ out.drop k)) := by
  have hne : ∀ y ∈ out, y.p ≠ (nth l i).p := fun y hy e => by
    obtain ⟨j, hj, rfl, _⟩ := (h.mem y).1 hy
    exact nodup_ne hn hi hj e.symm
  refine ⟨ins_pw (BLt.trans hsg) h.pw hk (fun q => cmpB_ne hsg (fun q2 => h1 ⟨q, q2⟩) (hne _ (nth_mem (by omega)))) h2, fun x => ?_, ?_⟩
  · rw [ins_mem, h.mem]
    constructor
    · rintro (⟨j, q1, q2⟩ | rfl)
      · exact ⟨j, by omega, q2⟩
      · exact ⟨i, by omega, rfl, hl⟩
    · rintro ⟨j, q1, q2, q3⟩
      rcases Nat.lt_succ_iff_lt_or_eq.1 q1 with q | rfl
      · exact .inl ⟨j, q, q2, q3⟩
      · exact .inr q2.symm
  · have := h.len
    simp only [List.length_append, List.length_take, List.length_drop, List.length_singleton]
    omega
theorem OutB.fin {l out : List Bid} {sg p : Int} (hsg : sg = 1 ∨ sg = -1) (h : OutB l sg p l.length out) (hn : (l.map Bid.p).Nodup) : out.Perm (l.filter fun x => trd sg x p) ∧ Asc (cmpB sg) out := by
  have e : ∀ x, x ∈ out ↔ x ∈ l.filter fun x => trd sg x p := fun x => by
    rw [h.mem, List.mem_filter]
    constructor
    · rintro ⟨j, q1, q2, q3⟩; exact ⟨by rw [← q2]; exact nth_mem q1, q3⟩
    · rintro ⟨q1, q2⟩
      obtain ⟨i, hi, rfl⟩ := List.getElem_of_mem q1
      exact ⟨i, hi, nth_eq hi, q2⟩
  have n1 : out.Nodup := h.pw.imp (fun q e => by rw [e] at q; exact BLt.asym hsg _ _ q q)
  have n2 : l.Nodup := by
    have := hn
    unfold List.Nodup at this ⊢
    rw [List.pairwise_map] at this
    exact this.imp (fun q e => q (by rw [e]))
  refine ⟨(List.perm_ext_iff_of_nodup n1 (n2.filter _)).2 e, fun i j hij hj q => ?_⟩
  have := List.pairwise_iff_getElem.1 h.pw i j (by omega) hj hij
  rw [nth_eq hj, nth_eq (by omega)] at q
  exact BLt.asym hsg _ _ this q
end Go.Proofs.YtgoajalaomakpaaGreat
namespace Go.Proofs.YtgoajalaomakpaaGreat
open Go Go.RowKit Go.Proofs.Tryz

theorem cmpC_lt {c d : Clr} : cmpC c d < 0 ↔ d.t < c.t ∨ (d.t = c.t ∧ (c.g < d.g ∨ (c.g = d.g ∧ c.p < d.p))) := by
  unfold cmpC; rw [or3_lt, cmp_lt, cmp_eq, cmp_lt, cmp_eq, cmp_lt]
theorem minK_least {l : List Clr} : ∀ {k : Nat}, k < l.length → ∀ i, i ≤ k → ¬ cmpC (nth l i) (minK l k) < 0
  | 0, _, i, hi => by
    rw [show i = 0 by omega, minK, cmpC_lt]; omega
  | k + 1, hk, i, hi => by
    have ih := minK_least (l := l) (k := k) (by omega)
    unfold minK
    split
    · rename_i q
      rcases Nat.lt_or_eq_of_le hi with q2 | q2
      · have := ih i (by omega)
        rw [cmpC_lt] at *; omega
      · rw [q2, cmpC_lt]; omega
    · rename_i q
      rcases Nat.lt_or_eq_of_le hi with q2 | q2
      · exact ih i (by omega)
      · rw [q2]; exact q
/-- The best clearing of the first prices. -/
def ScI (lb la : List Bid) (k : Nat) (be mo le : Int) : Prop := (be = -1 ∧ mo = 0 ∧ le = 0 ∧ ∀ i, i < k → (nth (crs lb la) i).t = 0) ∨ (0 < mo ∧ ∃ j, j < k ∧ nth (crs lb la) j = ⟨be, mo, le⟩ ∧ ∀ i, i < k → ¬ cmpC (nth (crs lb la) i) ⟨be, mo, le⟩ < 0)
def scC (be mo le p n gp : Int) : Prop := mo < n ∨ (n = mo ∧ 0 < n ∧ (gp < le ∨ (gp = le ∧ p < be)))
theorem ScI.step {lb la : List Bid} {k : Nat} {be mo le p n gp : Int} (h : ScI lb la k be mo le) (hc : nth (crs lb la) k = ⟨p, n, gp⟩) (h0 : 0 ≤ n) : (scC be mo le p n gp → ScI lb la (k + 1) p n gp) ∧ (¬ scC be mo le p n gp → ScI lb la (k + 1) be mo le) := by
  unfold scC
  constructor
  · intro q
    have hn : 0 < n := by rcases h with ⟨_, h2, _⟩ | ⟨h1, _⟩ <;> omega
    refine .inr ⟨hn, k, by omega, hc, fun i hi => ?_⟩
    rcases Nat.lt_succ_iff_lt_or_eq.1 hi with q2 | rfl
    · rcases h with ⟨_, h2, _, h4⟩ | ⟨h1, j, hj, e, h4⟩
      · have := h4 i q2
        rw [cmpC_lt]; dsimp only; omega
      · have := h4 i q2
        rw [cmpC_lt] at *; dsimp only at *; omega
    · rw [hc, cmpC_lt]; dsimp only; omega
  · intro q
    rcases h with ⟨h1, h2, h3, h4⟩ | ⟨h1, j, hj, e, h4⟩
    · refine .inl ⟨h1, h2, h3, fun i hi => ?_⟩
      rcases Nat.lt_succ_iff_lt_or_eq.1 hi with q2 | rfl
      · exact h4 i q2
      · rw [hc]; dsimp only; omega
    · refine .inr ⟨h1, j, by omega, e, fun i hi => ?_⟩
      rcases Nat.lt_succ_iff_lt_or_eq.1 hi with q2 | rfl
      · exact h4 i q2
      · rw [hc, cmpC_lt]; dsimp only; omega
theorem ScI.fin {lb la : List Bid} {be mo le : Int} (hb : ∀ x ∈ lb ++ la, okBid x = true) (h : ScI lb la (lb ++ la).length be mo le) : (be < 0 → (lb ++ la).length = 0 ∨ (mtBest lb la).t = 0) ∧ (0 ≤ be → mtBest lb la = ⟨be, mo, le⟩ ∧ 0 < mo ∧ (crs lb la).length ≠ 0) := by
  have hlen := crs_len lb la
  rcases h with ⟨h1, h2, h3, h4⟩ | ⟨h1, j, hj, e, h4⟩
  · refine ⟨fun _ => ?_, fun q => by omega⟩
    by_cases q : (lb ++ la).length = 0
    · exact .inl q
    · right
      have hm : mtBest lb la ∈ crs lb la := minK_mem (by omega)
      obtain ⟨i, hi, ei⟩ := List.getElem_of_mem hm
      rw [← ei, ← nth_eq hi]
      exact h4 i (by omega)
  · have hne : (crs lb la).length ≠ 0 := by omega
    have hp := (okBid_ok (hb _ (nth_mem hj))).2.2.1
    have ej := crs_nth (lb := lb) (la := la) hj
    have hbe : be = (nth (lb ++ la) j).r := by
      rw [e] at ej
      exact congrArg Clr.p ej
    have key : mtBest lb la = ⟨be, mo, le⟩ := by
      have hm : mtBest lb la ∈ crs lb la := minK_mem (by omega)
      obtain ⟨i, hi, ei⟩ := List.getElem_of_mem hm
      have q1 := h4 i (by omega)
      rw [nth_eq hi, ei, cmpC_lt] at q1
      have q2 := minK_least (l := crs lb la) (k := (crs lb la).length - 1) (by omega) j (by omega)
      rw [e, cmpC_lt] at q2
      have e3 : minK (crs lb la) ((crs lb la).length - 1) = mtBest lb la := rfl
      rw [e3] at q2
      generalize mtBest lb la = m at *
      cases m
      dsimp only at *
      simp only [Clr.mk.injEq]
      omega
    exact ⟨fun q => by omega, fun _ => ⟨key, h1, hne⟩⟩
/-- What Match returns is one. -/
theorem MtR.uniq {lb la : List Bid} {p p2 e e2 : Int} {ts ts2 : List Trd} (h : MtR lb la p ts e) (h2 : MtR lb la p2 ts2 e2) : p = p2 ∧ ts = ts2 ∧ e = e2 := by
  obtain ⟨he, h⟩ := h
  obtain ⟨he2, h2⟩ := h2
  have ee : e = e2 := he.trans he2.symm
  subst ee
  rcases h with ⟨a1, a2, a3⟩ | ⟨a1, a2, yb, ya, a3, a4, a5, a6, k, a7, a8, a9⟩ <;> rcases h2 with ⟨b1, b2, b3⟩ | ⟨b1, b2, zb, za, b3, b4, b5, b6, m, b7, b8, b9⟩
  · exact ⟨a2.trans b2.symm, a3.trans b3.symm, rfl⟩
  · exact absurd b1 a1
  · exact absurd a1 b1
  · subst a2 b2
    have hnd : (lb.map Bid.p).Nodup ∧ (la.map Bid.p).Nodup := by
      rw [a1] at he
      unfold mtErr at he
      split at he
      · omega
      · split at he
        · omega
        · split at he
          · omega
          · rename_i q
            exact ⟨Classical.byContradiction (fun w => q (.inl w)), Classical.byContradiction (fun w => q (.inr w))⟩
    have sub : ∀ {l : List Bid} {f : Bid → Bool}, (l.map Bid.p).Nodup → ((l.filter f).map Bid.p).Nodup := fun h => h.sublist (List.Sublist.map _ List.filter_sublist)
    have e1 : yb = zb := queue_uniq (.inr rfl) a3 a4 (sub hnd.1) (queue_strict (.inr rfl) b3 b4 (sub hnd.1)) (fun x => b3.mem_iff)
    have e2 : ya = za := queue_uniq (.inl rfl) a5 a6 (sub hnd.2) (queue_strict (.inl rfl) b5 b6 (sub hnd.2)) (fun x => b5.mem_iff)
    subst e1 e2
    have e3 : k = m := by
      rcases Nat.lt_trichotomy k m with q | q | q
      · have := b8 k q; omega
      · exact q
      · have := a8 m q; omega
    subst e3
    exact ⟨rfl, a9.trans b9.symm, rfl⟩
end Go.Proofs.YtgoajalaomakpaaGreat
namespace Go.Proofs.YtgoajalaomakpaaGreat
open Go Go.RowKit Go.Proofs.Tryz

theorem mtE0 {lb la : List Bid} (h : mtErr lb la = 0) : lb.length ≤ 30 ∧ la.length ≤ 30 ∧ (∀ x ∈ lb ++ la, okBid x = true) ∧ (lb.map Bid.p).Nodup ∧ (la.map Bid.p).Nodup ∧ (lb ++ la).length ≠ 0 ∧ (mtBest lb la).t ≠ 0 := by
  unfold mtErr at h
  split at h
  · omega
  · split at h
    · omega
    · split at h
      · omega
      · split at h
        · omega
        · rename_i h1 h2 h3 h4
          refine ⟨by omega, by omega, fun x hx => ?_, Classical.byContradiction fun q => h3 (.inl q), Classical.byContradiction fun q => h3 (.inr q), fun q => h4 (.inl q), fun q => h4 (.inr q)⟩
          cases q : okBid x
          · exact absurd (List.any_eq_true.2 ⟨x, hx, by simp [q]⟩) h2
          · rfl
theorem mtS_ok {M : Int} {yb ya : List Bid} {nb na : Nat} (h0 : MtOk nb na (mtS M yb ya 0)) : ∀ {k : Nat}, (∀ j, j < k → 0 < (mtS M yb ya j).l) → MtOk nb na (mtS M yb ya k)
  | 0, _ => h0
  | k + 1, h => (mtS_ok h0 fun j hj => h j (by omega)).step (h k (by omega))
theorem mtS_len {M : Int} {yb ya : List Bid} : ∀ k, (mtS M yb ya k).ts.length = k
  | 0 => rfl
  | k + 1 => by
    have := mtS_len (M := M) (yb := yb) (ya := ya) k
    show ((mtS M yb ya k).ts ++ [_]).length = k + 1
    rw [List.length_append, List.length_singleton]; omega
/-- There are few trades. -/
theorem MtR.len {lb la : List Bid} {p e : Int} {ts : List Trd} (h : MtR lb la p ts e) : ts.length ≤ 61 := by
  obtain ⟨he, h⟩ := h
  rcases h with ⟨_, _, rfl⟩ | ⟨a1, a2, yb, ya, a3, a4, a5, a6, k, a7, a8, a9⟩
  · exact Nat.zero_le _
  · obtain ⟨h1, h2, h3, _, _, h6, _⟩ := mtE0 (he.symm.trans a1)
    subst a2
    have hc := crs_len lb la
    have h0 := MtOk.init h3 (by omega) a3 a5
    have hl := mtS_len (M := (mtBest lb la).t) (yb := yb) (ya := ya) k
    rw [a9, hl]
    cases k with
    | zero => omega
    | succ k =>
      have hm := mtS_ok h0 (k := k) fun j hj => a8 j (by omega)
      have h4 := hm.tl (a8 k (by omega))
      rw [mtS_len] at h4
      have h5 := hm.ib
      have h6 := hm.ia
      have h7 : yb.length ≤ 30 := by rw [a3.length_eq]; exact Nat.le_trans (List.length_filter_le _ _) h1
      have h8 : ya.length ≤ 30 := by rw [a5.length_eq]; exact Nat.le_trans (List.length_filter_le _ _) h2
      omega
end Go.Proofs.YtgoajalaomakpaaGreat
namespace Go.Proofs.YtgoajalaomakpaaGreat
open Go Go.RowKit

/-- What a party trades. -/
def byP (f : Trd → Int) : List Trd → Int → Int
  | [], _ => 0
  | t :: ts, q => (if f t = q then t.n else 0) + byP f ts q
def turn : List Trd → Int
  | [] => 0
  | t :: ts => t.n + turn ts
theorem byP_app (f : Trd → Int) (a b : List Trd) (q : Int) : byP f (a ++ b) q = byP f a q + byP f b q := by
  induction a with
  | nil => simp [byP]
  | cons t l ih => simp only [List.cons_append, byP, ih]; omega
theorem turn_app (a b : List Trd) : turn (a ++ b) = turn a + turn b := by
  induction a with
  | nil => simp [turn]
  | cons t l ih => simp only [List.cons_append, turn, ih]; omega
theorem byP_one (f : Trd → Int) (t : Trd) (q : Int) : byP f [t] q = if f t = q then t.n else 0 := by simp [byP]
theorem byP_nn {f : Trd → Int} {q : Int} : ∀ {ts : List Trd}, (∀ t ∈ ts, 0 ≤ t.n) → 0 ≤ byP f ts q ∧ byP f ts q ≤ turn ts
  | [], _ => ⟨Int.le_refl _, Int.le_refl _⟩
  | t :: ts, h => by
    have h1 := byP_nn (f := f) (q := q) (ts := ts) fun x hx => h x (List.mem_cons_of_mem _ hx)
    have h2 := h t List.mem_cons_self
    unfold byP turn
    split <;> omega
theorem nd_ne {ys : List Bid} (hd : (ys.map Bid.p).Nodup) {i j : Nat} (hi : i < ys.length) (hj : j < ys.length) (h : i ≠ j) : (nth ys i).p ≠ (nth ys j).p := by
  unfold List.Nodup at hd
  rw [List.pairwise_map, List.pairwise_iff_getElem] at hd
  rw [nth_eq hi, nth_eq hj]
  rcases Nat.lt_or_gt_of_ne h with q | q
  · exact hd i j hi hj q
  · exact (hd j i hj hi q).symm
theorem mem_nth {ys : List Bid} {x : Bid} (h : x ∈ ys) : ∃ j, j < ys.length ∧ nth ys j = x := by
  obtain ⟨i, hi, e⟩ := List.getElem_of_mem h
  exact ⟨i, hi, by rw [nth_eq hi, e]⟩
theorem nd_inj {l : List Bid} (hd : (l.map Bid.p).Nodup) {x y : Bid} (hx : x ∈ l) (hy : y ∈ l) (e : x.p = y.p) : x = y := by
  obtain ⟨i, hi, rfl⟩ := mem_nth hx
  obtain ⟨j, hj, rfl⟩ := mem_nth hy
  by_cases q : i = j
  · rw [q]
  · exact absurd e (nd_ne hd hi hj q)
/-- One side of the trading: who has traded what. -/
structure SideOk (ys zs : List Bid) (i : Nat) (B : Int → Int) : Prop where
  len : zs.length = ys.length
  p : ∀ j, j < ys.length → (nth zs j).p = (nth ys j).p
  b : ∀ j, j < ys.length → B (nth ys j).p = (nth ys j).n - (nth zs j).n
  lo : ∀ j, j < ys.length → j < i → (nth zs j).n = 0
  hi : ∀ j, j < ys.length → i < j → (nth zs j).n = (nth ys j).n
  nn : ∀ j, j < ys.length → 0 ≤ (nth zs j).n
  out : ∀ q, q ∉ ys.map Bid.p → B q = 0
theorem SideOk.step {ys zs : List Bid} {i : Nat} {B : Int → Int} (h : SideOk ys zs i B) (hd : (ys.map Bid.p).Nodup) (hi : i < zs.length) {t : Int} (ht : 1 ≤ t ∧ t ≤ (nth zs i).n) : SideOk ys (takeZ zs i t) (takeI zs i t) (fun q => B q + if (nth zs i).p = q then t else 0) := by
  have hl := h.len
  have hi2 : i < ys.length := by omega
  have z1 : nth (takeZ zs i t) i = takeB (nth zs i) t := takeZ_nth hi
  have z2 : ∀ j, i ≠ j → nth (takeZ zs i t) j = nth zs j := fun j q => takeZ_ne q
  have hI : (takeI zs i t = i + 1 ∧ (nth zs i).n - t = 0) ∨ takeI zs i t = i := by
    unfold takeI
    split
    · exact .inl ⟨rfl, by assumption⟩
    · exact .inr rfl
  refine ⟨by rw [takeZ_len, hl], fun j hj => ?_, fun j hj => ?_, fun j hj q => ?_, fun j hj q => ?_, fun j hj => ?_, fun q hq => ?_⟩
  · by_cases q : i = j
    · subst q; rw [z1]; exact h.p i hj
    · rw [z2 j q]; exact h.p j hj
  · by_cases q : i = j
    · subst q
      rw [if_pos (h.p i hj), h.b i hj, z1]
      show _ = _ - ((nth zs i).n - t)
      omega
    · rw [if_neg (by rw [h.p i hi2]; exact nd_ne hd hi2 hj q), z2 j q, h.b j hj]
      omega
  · by_cases r : i = j
    · subst r
      rw [z1]
      show (nth zs i).n - t = 0
      omega
    · rw [z2 j r]; exact h.lo j hj (by omega)
  · rw [z2 j (by omega)]; exact h.hi j hj (by omega)
  · by_cases q : i = j
    · subst q; rw [z1]; show 0 ≤ (nth zs i).n - t; omega
    · rw [z2 j q]; exact h.nn j hj
  · rw [h.out q hq, if_neg]
    · rfl
    · intro e
      rw [h.p i hi2] at e
      exact hq (e ▸ List.mem_map_of_mem (nth_mem hi2))
/-- The trades so far. -/
structure TrOk (yb ya : List Bid) (M : Int) (s : MtS) : Prop where
  b : SideOk yb s.zb s.ib (byP Trd.b s.ts)
  a : SideOk ya s.za s.ia (byP Trd.s s.ts)
  l : turn s.ts = M - s.l
  ok : ∀ t ∈ s.ts, (1 ≤ t.n ∧ t.n ≤ 1000000) ∧ t.b ∈ yb.map Bid.p ∧ t.s ∈ ya.map Bid.p
theorem TrOk.step {yb ya : List Bid} {M : Int} {s : MtS} {nb na : Nat} (h : TrOk yb ya M s) (hm : MtOk nb na s) (h0 : 0 < s.l) (hb : (yb.map Bid.p).Nodup) (ha : (ya.map Bid.p).Nodup) : TrOk yb ya M (mtStep s) := by
  obtain ⟨h1, h2, h3, h4, h5, h6, h7, h8, _⟩ := hm.heads h0
  have e1 : (fun q => byP Trd.b s.ts q + if (nth s.zb s.ib).p = q then mtN s else 0) = byP Trd.b (mtStep s).ts := funext fun q => by
    show _ = byP Trd.b (s.ts ++ [_]) q
    rw [byP_app, byP_one]
  have e2 : (fun q => byP Trd.s s.ts q + if (nth s.za s.ia).p = q then mtN s else 0) = byP Trd.s (mtStep s).ts := funext fun q => by
    show _ = byP Trd.s (s.ts ++ [_]) q
    rw [byP_app, byP_one]
  have hb1 : s.ib < yb.length := by rw [← h.b.len]; exact h1
  have ha1 : s.ia < ya.length := by rw [← h.a.len]; exact h2
  refine ⟨e1 ▸ h.b.step hb h1 ⟨h5, h7⟩, e2 ▸ h.a.step ha h2 ⟨h5, h8⟩, ?_, fun t ht => ?_⟩
  · show turn (s.ts ++ [_]) = M - (s.l - mtN s)
    rw [turn_app, h.l]
    simp only [turn]
    omega
  · rcases List.mem_append.1 ht with q | q
    · exact h.ok t q
    · rw [List.mem_singleton.1 q]
      refine ⟨by dsimp only; omega, ?_, ?_⟩
      · dsimp only; rw [h.b.p _ hb1]; exact List.mem_map_of_mem (nth_mem hb1)
      · dsimp only; rw [h.a.p _ ha1]; exact List.mem_map_of_mem (nth_mem ha1)
theorem trS_ok {yb ya : List Bid} {M : Int} {nb na : Nat} (h0 : MtOk nb na (mtS M yb ya 0)) (hb : (yb.map Bid.p).Nodup) (ha : (ya.map Bid.p).Nodup) : ∀ {k : Nat}, (∀ j, j < k → 0 < (mtS M yb ya j).l) → TrOk yb ya M (mtS M yb ya k)
  | 0, _ => by
    have side : ∀ ys : List Bid, (∀ x ∈ ys, 0 ≤ x.n) → SideOk ys ys 0 (fun _ => 0) := fun ys h => ⟨rfl, fun _ _ => rfl, fun _ _ => by omega, fun _ _ q => by omega, fun _ _ _ => rfl, fun j hj => h _ (nth_mem hj), fun _ _ => rfl⟩
    refine ⟨side yb fun x hx => ?_, side ya fun x hx => ?_, ?_, fun t ht => (by cases ht)⟩
    · have := h0.ob x hx; omega
    · have := h0.oa x hx; omega
    · show (0 : Int) = M - M; omega
  | k + 1, h => (trS_ok h0 hb ha fun j hj => h j (by omega)).step (mtS_ok h0 fun j hj => h j (by omega)) (h k (by omega)) hb ha
/-- One side at the end: nobody beyond the own order, the best are served before others. -/
theorem side_end {sg : Int} (hsg : sg = 1 ∨ sg = -1) {l ys zs : List Bid} {i : Nat} {B : Int → Int} {pr : Int} (hp : ys.Perm (l.filter fun x => trd sg x pr)) (ha : Asc (cmpB sg) ys) (hn : (l.map Bid.p).Nodup) (hok : ∀ x ∈ l, 1 ≤ x.n) (h : SideOk ys zs i B) :
    (∀ x ∈ l, B x.p ≤ x.n ∧ (0 < B x.p → sg * x.r ≤ sg * pr)) ∧ (∀ x ∈ l, ∀ y ∈ l, sg * y.r < sg * x.r → B y.p < y.n → ¬ 0 < B x.p) := by
  have mem : ∀ {x}, x ∈ ys ↔ x ∈ l ∧ sg * x.r ≤ sg * pr := fun {x} => by
    rw [hp.mem_iff, List.mem_filter]
    unfold trd
    rw [decide_eq_true_eq]
  have out : ∀ {x}, x ∈ l → ¬ sg * x.r ≤ sg * pr → B x.p = 0 := fun {x} hx q => h.out _ fun e => by
    obtain ⟨y, hy, e⟩ := List.mem_map.1 e
    have := mem.1 hy
    rw [nd_inj hn this.1 hx e] at this
    exact q this.2
  refine ⟨fun x hx => ?_, fun x hx y hy q1 q2 q3 => ?_⟩
  · by_cases q : sg * x.r ≤ sg * pr
    · obtain ⟨j, hj, rfl⟩ := mem_nth (mem.2 ⟨hx, q⟩)
      have := h.nn j hj
      rw [h.b j hj]
      exact ⟨by omega, fun _ => q⟩
    · rw [out hx q]
      have := hok x hx
      exact ⟨by omega, fun e => by omega⟩
  · have hx2 : sg * x.r ≤ sg * pr := Classical.byContradiction fun e => by rw [out hx e] at q3; omega
    obtain ⟨j, hj, rfl⟩ := mem_nth (mem.2 ⟨hx, hx2⟩)
    obtain ⟨m, hm, rfl⟩ := mem_nth (mem.2 ⟨hy, (by omega)⟩)
    rw [h.b j hj] at q3
    rw [h.b m hm] at q2
    have h1 : ¬ i < j := fun e => by rw [h.hi j hj e] at q3; omega
    have h2 : ¬ m < i := fun e => by rw [h.lo m hm e] at q2; omega
    have h3 : m ≠ j := fun e => by rw [e] at q1; omega
    have h4 := ha j m (by omega) hm
    rw [cmpB_lt hsg] at h4
    exact h4 (.inl q1)
def sB (B : Int → Int) : List Bid → Int
  | [] => 0
  | x :: l => B x.p + sB B l
theorem sB_app (B : Int → Int) (a b : List Bid) : sB B (a ++ b) = sB B a + sB B b := by
  induction a with
  | nil => simp [sB]
  | cons t l ih => simp only [List.cons_append, sB, ih]; omega
theorem sB_take {B : Int → Int} {l : List Bid} {k : Nat} (h : k < l.length) : sB B (l.take (k + 1)) = sB B (l.take k) + B (nth l k).p := by
  rw [take_nth h, sB_app]
  simp [sB]
theorem sB_add (F G : Int → Int) (l : List Bid) : sB (fun q => F q + G q) l = sB F l + sB G l := by
  induction l with
  | nil => rfl
  | cons t l ih => simp only [sB, ih]; omega
theorem sB_zero (l : List Bid) : sB (fun _ => 0) l = 0 := by
  induction l with
  | nil => rfl
  | cons t l ih => simp only [sB, ih]; omega
theorem sB_one {c n : Int} : ∀ {l : List Bid}, (l.map Bid.p).Nodup → sB (fun q => if c = q then n else 0) l = if c ∈ l.map Bid.p then n else 0
  | [], _ => rfl
  | x :: l, h => by
    rw [List.map_cons, List.nodup_cons] at h
    have ih := sB_one (c := c) (n := n) h.2
    rw [sB, ih, List.map_cons]
    by_cases q : c = x.p
    · rw [if_pos q, if_neg (by rw [q]; exact h.1), if_pos (by rw [q]; exact List.mem_cons_self), Int.add_zero]
    · rw [if_neg q, Int.zero_add]
      by_cases r : c ∈ l.map Bid.p
      · rw [if_pos r, if_pos (List.mem_cons_of_mem _ r)]
      · rw [if_neg r, if_neg (fun e => (List.mem_cons.1 e).elim q r)]
theorem sB_turn {f : Trd → Int} {l : List Bid} (hn : (l.map Bid.p).Nodup) : ∀ {ts : List Trd}, (∀ t ∈ ts, f t ∈ l.map Bid.p) → sB (byP f ts) l = turn ts
  | [], _ => sB_zero l
  | t :: ts, h => by
    have ih := sB_turn (f := f) hn (ts := ts) fun x hx => h x (List.mem_cons_of_mem _ hx)
    have e : byP f (t :: ts) = fun q => (if f t = q then t.n else 0) + byP f ts q := rfl
    rw [e, sB_add, sB_one hn, if_pos (h t List.mem_cons_self), ih, turn]
theorem sB_nn {f : Trd → Int} {ts : List Trd} (h : ∀ t ∈ ts, 0 ≤ t.n) : ∀ l : List Bid, 0 ≤ sB (byP f ts) l
  | [] => Int.le_refl _
  | x :: l => by
    have h1 := sB_nn h l (f := f)
    have h2 := (byP_nn (f := f) (q := x.p) h).1
    unfold sB
    omega
theorem sumN_mono {f g : Bid → Bool} : ∀ {l : List Bid}, (∀ x ∈ l, f x = true → g x = true) → (∀ x ∈ l, 0 ≤ x.n) → sumN (l.filter f) ≤ sumN (l.filter g)
  | [], _, _ => Int.le_refl _
  | x :: l, h, hn => by
    have ih := sumN_mono (f := f) (g := g) (l := l) (fun y hy => h y (List.mem_cons_of_mem _ hy)) fun y hy => hn y (List.mem_cons_of_mem _ hy)
    have h1 := h x List.mem_cons_self
    have h2 := hn x List.mem_cons_self
    rw [List.filter_cons, List.filter_cons]
    by_cases q : f x = true
    · rw [if_pos q, if_pos (h1 q)]; simp only [sumN]; omega
    · rw [if_neg q]
      split
      · simp only [sumN]; omega
      · exact ih
theorem least_r {p : Int} : ∀ {l : List Bid}, (∃ x ∈ l, p ≤ x.r) → ∃ x ∈ l, p ≤ x.r ∧ ∀ y ∈ l, p ≤ y.r → x.r ≤ y.r
  | [], h => by obtain ⟨x, hx, _⟩ := h; cases hx
  | a :: l, h => by
    by_cases q : ∃ x ∈ l, p ≤ x.r
    · obtain ⟨x, h1, h2, h3⟩ := least_r q
      by_cases r : p ≤ a.r ∧ a.r < x.r
      · refine ⟨a, List.mem_cons_self, r.1, fun y hy e => ?_⟩
        rcases List.mem_cons.1 hy with rfl | hy
        · exact Int.le_refl _
        · have := h3 y hy e; omega
      · refine ⟨x, List.mem_cons_of_mem _ h1, h2, fun y hy e => ?_⟩
        rcases List.mem_cons.1 hy with rfl | hy
        · omega
        · exact h3 y hy e
    · obtain ⟨x, hx, e⟩ := h
      rcases List.mem_cons.1 hx with rfl | hx
      · refine ⟨x, List.mem_cons_self, e, fun y hy e2 => ?_⟩
        rcases List.mem_cons.1 hy with rfl | hy
        · exact Int.le_refl _
        · exact absurd ⟨y, hy, e2⟩ q
      · exact absurd ⟨x, hx, e⟩ q
theorem trd_n {x : Bid} {p : Int} : trd (-1) x p = true ↔ p ≤ x.r := by unfold trd; rw [decide_eq_true_eq]; omega
theorem trd_p {x : Bid} {p : Int} : trd 1 x p = true ↔ x.r ≤ p := by unfold trd; rw [decide_eq_true_eq]; omega
theorem tonK_all (sg p : Int) (l : List Bid) : tonK sg p l l.length = sumN (l.filter fun x => trd sg x p) := by rw [tonK_sum sg p l (Nat.le_refl _), List.take_length]
/-- At no price is there a greater turnover. -/
theorem best_any {lb la : List Bid} (hb : ∀ x ∈ lb ++ la, okBid x = true) (p : Int) : min (tonK (-1) p lb lb.length) (tonK 1 p la la.length) ≤ if (lb ++ la).length = 0 then 0 else (mtBest lb la).t := by
  have hlen := crs_len lb la
  by_cases q : ∃ x ∈ lb, p ≤ x.r
  · obtain ⟨x, h1, h2, h3⟩ := least_r q
    obtain ⟨j, hj, ej⟩ := mem_nth (List.mem_append_left la h1)
    rw [if_neg (by omega)]
    have h4 := minK_least (l := crs lb la) (k := (crs lb la).length - 1) (by omega) j (by omega)
    rw [show minK (crs lb la) ((crs lb la).length - 1) = mtBest lb la from rfl, crs_nth hj, ej, cmpC_lt] at h4
    have e1 : tonK (-1) x.r lb lb.length = tonK (-1) p lb lb.length := by
      rw [tonK_all, tonK_all]
      congr 1
      refine List.filter_congr fun y hy => ?_
      rw [Bool.eq_iff_iff, trd_n, trd_n]
      exact ⟨fun e => by omega, h3 y hy⟩
    have e2 : tonK 1 p la la.length ≤ tonK 1 x.r la la.length := by
      rw [tonK_all, tonK_all]
      refine sumN_mono (fun y hy e => ?_) fun y hy => ?_
      · rw [trd_p] at *; omega
      · have := (okBid_ok (hb y (List.mem_append_right _ hy))).2.1; omega
    have h5 : min (tonK (-1) x.r lb lb.length) (tonK 1 x.r la la.length) ≤ (mtBest lb la).t := by
      show (clP lb la x.r).t ≤ _
      omega
    omega
  · have e : tonK (-1) p lb lb.length = 0 := by
      rw [tonK_all, List.filter_eq_nil_iff.2]
      · rfl
      · intro y hy e
        exact q ⟨y, hy, trd_n.1 e⟩
    rw [e]
    split
    · omega
    · rename_i h
      have := (mtBest_t hb (by omega)).2.2
      omega
/-- Orders in another order. -/
theorem clP_perm {lb la rb ra : List Bid} (pb : rb.Perm lb) (pa : ra.Perm la) (p : Int) : clP rb ra p = clP lb la p := by
  unfold clP
  rw [tonK_all, tonK_all, tonK_all, tonK_all, sumN_perm (pb.filter _), sumN_perm (pa.filter _)]
theorem mtBest_perm {lb la rb ra : List Bid} (pb : rb.Perm lb) (pa : ra.Perm la) : mtBest rb ra = mtBest lb la := by
  have hc : (crs rb ra).Perm (crs lb la) := by
    have e : crs rb ra = (rb ++ ra).map fun x => clP lb la x.r := List.map_congr_left fun x _ => clP_perm pb pa x.r
    rw [e]
    exact (pb.append pa).map _
  have hl := hc.length_eq
  by_cases q : (crs lb la).length = 0
  · have e1 := List.eq_nil_of_length_eq_zero q
    have e2 := List.eq_nil_of_length_eq_zero (hl.trans q)
    unfold mtBest
    rw [e1, e2]
  · have least : ∀ {l : List Clr} {c : Clr}, l.length ≠ 0 → c ∈ l → ¬ cmpC c (minK l (l.length - 1)) < 0 := fun {l c} h hm => by
      obtain ⟨i, hi, e⟩ := List.getElem_of_mem hm
      rw [← e, ← nth_eq hi]
      exact minK_least (by omega) i (by omega)
    have h1 : mtBest rb ra ∈ crs lb la := hc.mem_iff.1 (minK_mem (by omega))
    have h2 : mtBest lb la ∈ crs rb ra := hc.mem_iff.2 (minK_mem (by omega))
    have h3 : ¬ cmpC (mtBest rb ra) (mtBest lb la) < 0 := least q h1
    have h4 : ¬ cmpC (mtBest lb la) (mtBest rb ra) < 0 := least (by omega) h2
    rw [cmpC_lt] at h3 h4
    generalize mtBest rb ra = m at *
    generalize mtBest lb la = n at *
    cases m; cases n
    dsimp only at *
    simp only [Clr.mk.injEq]
    omega
theorem mtErr_perm {lb la rb ra : List Bid} (pb : rb.Perm lb) (pa : ra.Perm la) : mtErr rb ra = mtErr lb la := by
  unfold mtErr
  rw [pb.length_eq, pa.length_eq, (pb.append pa).any_eq, (pb.append pa).length_eq, mtBest_perm pb pa]
  simp only [(pb.map Bid.p).nodup_iff, (pa.map Bid.p).nodup_iff]
theorem MtR.perm {lb la rb ra : List Bid} (pb : rb.Perm lb) (pa : ra.Perm la) {p e : Int} {ts : List Trd} (h : MtR rb ra p ts e) : MtR lb la p ts e := by
  unfold MtR at *
  rw [mtErr_perm pb pa, mtBest_perm pb pa] at h
  refine ⟨h.1, h.2.imp id fun ⟨a1, a2, yb, ya, a3, a4, a5, a6, k⟩ => ⟨a1, a2, yb, ya, a3.trans (pb.filter _), a4, a5.trans (pa.filter _), a6, k⟩⟩
/-- What the law says of one matching. -/
structure Clear (lb la : List Bid) (p : Int) (ts : List Trd) (e : Int) : Prop where
  err : e = 0 ∨ (e = 7 ∧ p = 0 ∧ ts = [])
  ok : ∀ t ∈ ts, (1 ≤ t.n ∧ t.n ≤ 1000000) ∧ (0 ≤ t.b ∧ t.b ≤ 99) ∧ (0 ≤ t.s ∧ t.s ≤ 99)
  b1 : ∀ x ∈ lb, byP Trd.b ts x.p ≤ x.n ∧ (0 < byP Trd.b ts x.p → p ≤ x.r)
  b2 : ∀ x ∈ lb, ∀ y ∈ lb, x.r < y.r → byP Trd.b ts y.p < y.n → ¬ 0 < byP Trd.b ts x.p
  a1 : ∀ x ∈ la, byP Trd.s ts x.p ≤ x.n ∧ (0 < byP Trd.s ts x.p → x.r ≤ p)
  a2 : ∀ x ∈ la, ∀ y ∈ la, y.r < x.r → byP Trd.s ts y.p < y.n → ¬ 0 < byP Trd.s ts x.p
  sb : sB (byP Trd.b ts) lb = turn ts
  sa : sB (byP Trd.s ts) la = turn ts
  any : ∀ q, min (tonK (-1) q lb lb.length) (tonK 1 q la la.length) ≤ turn ts
  pos : e = 0 → 0 < turn ts
  len : ts.length ≤ 61
theorem MtR.clear {lb la : List Bid} {p e : Int} {ts : List Trd} (h : MtR lb la p ts e) (hb : ∀ x ∈ lb ++ la, okBid x = true) (h1 : (lb.map Bid.p).Nodup) (h2 : (la.map Bid.p).Nodup) (h3 : lb.length ≤ 20) (h4 : la.length ≤ 20) : Clear lb la p ts e := by
  have hl := h.len
  have hany : ¬ ((lb ++ la).any fun x => !okBid x) = true := fun q => by
    obtain ⟨x, hx, e⟩ := List.any_eq_true.1 q
    simp [hb x hx] at e
  have he : mtErr lb la = if (lb ++ la).length = 0 ∨ (mtBest lb la).t = 0 then 7 else 0 := by
    unfold mtErr
    rw [if_neg (by omega), if_neg hany, if_neg (fun q => q.elim (fun r => r h1) (fun r => r h2))]
  have hany2 := best_any hb
  obtain ⟨e0, h⟩ := h
  rw [he] at e0
  rcases h with ⟨c1, rfl, rfl⟩ | ⟨c1, c2, yb, ya, c3, c4, c5, c6, k, c7, c8, c9⟩
  · have hz : (lb ++ la).length = 0 ∨ (mtBest lb la).t = 0 := Classical.byContradiction fun q => by rw [if_neg q] at e0; exact c1 e0
    rw [if_pos hz] at e0
    refine ⟨.inr ⟨e0, rfl, rfl⟩, fun t ht => (by cases ht), fun x hx => ?_, fun x _ y _ _ _ q => by simp [byP] at q, fun x hx => ?_, fun x _ y _ _ _ q => by simp [byP] at q, sB_zero lb, sB_zero la, fun q => ?_, fun q => by omega, hl⟩
    · have := (okBid_ok (hb x (List.mem_append_left _ hx))).2.1
      simp only [byP]; omega
    · have := (okBid_ok (hb x (List.mem_append_right _ hx))).2.1
      simp only [byP]; omega
    · have := hany2 q
      simp only [turn]
      split at this
      · omega
      · rcases hz with r | r
        · omega
        · omega
  · have hz : ¬ ((lb ++ la).length = 0 ∨ (mtBest lb la).t = 0) := fun q => by rw [if_pos q] at e0; omega
    have hlen := crs_len lb la
    have hc : (crs lb la).length ≠ 0 := by omega
    have ht0 := (mtBest_t hb hc).2.2
    subst c2
    have h0 := MtOk.init hb hc c3 c5
    have sub : ∀ {l : List Bid} {f : Bid → Bool}, (l.map Bid.p).Nodup → ((l.filter f).map Bid.p).Nodup := fun h => h.sublist (List.Sublist.map _ List.filter_sublist)
    have nb : (yb.map Bid.p).Nodup := (c3.map Bid.p).nodup_iff.2 (sub h1)
    have na : (ya.map Bid.p).Nodup := (c5.map Bid.p).nodup_iff.2 (sub h2)
    have ht := trS_ok h0 nb na c8
    have hturn := ht.l
    have hok := ht.ok
    have hsb := ht.b
    have hsa := ht.a
    rw [← c9] at hturn hok hsb hsa
    rw [c7] at hturn
    have mb : ∀ q, q ∈ yb.map Bid.p → q ∈ lb.map Bid.p := fun q hq => by
      obtain ⟨x, hx, e⟩ := List.mem_map.1 hq
      exact e ▸ List.mem_map_of_mem (List.mem_filter.1 (c3.mem_iff.1 hx)).1
    have ma : ∀ q, q ∈ ya.map Bid.p → q ∈ la.map Bid.p := fun q hq => by
      obtain ⟨x, hx, e⟩ := List.mem_map.1 hq
      exact e ▸ List.mem_map_of_mem (List.mem_filter.1 (c5.mem_iff.1 hx)).1
    obtain ⟨b1, b2⟩ := side_end (.inr rfl) c3 c4 h1 (fun x hx => (okBid_ok (hb x (List.mem_append_left _ hx))).2.1.1) hsb
    obtain ⟨a1, a2⟩ := side_end (.inl rfl) c5 c6 h2 (fun x hx => (okBid_ok (hb x (List.mem_append_right _ hx))).2.1.1) hsa
    refine ⟨.inl c1, fun t q => ?_, fun x hx => ⟨(b1 x hx).1, fun q => by have := (b1 x hx).2 q; omega⟩, fun x hx y hy q => b2 x hx y hy (by omega), fun x hx => ⟨(a1 x hx).1, fun q => by have := (a1 x hx).2 q; omega⟩, fun x hx y hy q => a2 x hx y hy (by omega), sB_turn h1 fun t q => mb _ (hok t q).2.1, sB_turn h2 fun t q => ma _ (hok t q).2.2, fun q => ?_, fun _ => by omega, hl⟩
    · obtain ⟨k1, k2, k3⟩ := hok t q
      obtain ⟨x, hx, ex⟩ := List.mem_map.1 (mb _ k2)
      obtain ⟨y, hy, ey⟩ := List.mem_map.1 (ma _ k3)
      have := (okBid_ok (hb x (List.mem_append_left _ hx))).1
      have := (okBid_ok (hb y (List.mem_append_right _ hy))).1
      exact ⟨k1, by omega, by omega⟩
    · have := hany2 q
      rw [if_neg (by omega)] at this
      omega

end Go.Proofs.YtgoajalaomakpaaGreat
