/-
  What is written of a voyage in memory; moved, grab. Conditions: none.
-/
import Derived.Test.YtblkphbblkncdaaA7
import Derived.Test.YtblkphbblkncdaaSta
import Derived.Test.YtblkphbblkncdaaYld
import Derived.Test.YtblkphbblkncdaaClip
namespace Go.Proofs.Ytblkphbblkncdaa
open Go Go.RowKit
theorem nth_set_eq {α : Type} [Inhabited α] {xs : List α} {j : Nat} {y : α} (h : j < xs.length) : nth (xs.set j y) j = y := by simp [nth, List.getD_eq_getElem?_getD, h]
theorem nth_set_ne {α : Type} [Inhabited α] {xs : List α} {i j : Nat} {y : α} (h : i ≠ j) : nth (xs.set j y) i = nth xs i := by simp [nth, List.getD_eq_getElem?_getD, List.getElem?_set_ne (Ne.symm h)]
theorem Sl.subTo {α : Type} [Inhabited α] {enc : α → List Value} {k : Nat} {w : World} {ao : Option Addr} {b o : Nat} {xs : List α} (h : Sl enc k w ao b o xs) (cap n : Nat) (hc : xs.length ≤ cap) : Sl enc k w (subAddr ao cap 0 k) b o (xs.take n) := by
  have := h.sub cap 0 n hc
  simpa using this
theorem Sl.clip {α : Type} [Inhabited α] {enc : α → List Value} {k : Nat} {w : World} {ao : Option Addr} {b o : Nat} {xs : List α} (h : Sl enc k w ao b o xs) : Sl enc k w (subAddr ao xs.length 0 k) b o xs := by
  have := h.subTo xs.length xs.length (Nat.le_refl _)
  rwa [List.take_length] at this

theorem cells_ne {w : World} {a b : Nat} {c1 c2 : Array Value} {t1 t2 : TypeId} {f1 f2 : Nat × Nat} (h1 : w.heap[a]? = some (.cells c1 t1 f1)) (h2 : w.heap[b]? = some (.cells c2 t2 f2)) (hn : t1 ≠ t2) : a ≠ b := fun e => by
  subst e; rw [h1] at h2; injection h2 with h2; injection h2 with _ h2; exact hn h2
theorem Acc.own {α : Type} {enc : α → List Value} {k : Nat} {e : TypeId} {base : Nat} {w : World} {ao : Option Addr} {g cap : Nat} {xs : List α} (h : Acc enc k e base w ao g cap xs) (hb : base ≤ g) : ∃ cur : Array Value, w.heap[g]? = some (.cells cur e (0, 0)) := by
  rcases h.at_ with ⟨_, _, _, h1⟩ | ⟨_, _, cur, h3, _⟩
  · omega
  · exact ⟨cur, h3⟩
theorem Acc.neB {α : Type} {enc : α → List Value} {k : Nat} {e : TypeId} {base : Nat} {w : World} {ao : Option Addr} {g cap : Nat} {xs : List α} {b : Nat} {t : TypeId} {cs : List Value} (h : Acc enc k e base w ao g cap xs) (hb : Blk w b t cs) (hn : e ≠ t) (hg : base ≤ g) : g ≠ b := by
  obtain ⟨cur, h1⟩ := h.own hg
  exact cells_ne h1 hb hn
theorem Acc.neA {α β : Type} {enc : α → List Value} {enc' : β → List Value} {k k' : Nat} {e e' : TypeId} {base base' : Nat} {w : World} {ao ao' : Option Addr} {g cap g' cap' : Nat} {xs : List α} {ys : List β} (h : Acc enc k e base w ao g cap xs) (h' : Acc enc' k' e' base' w ao' g' cap' ys) (hn : e ≠ e') (hg : base ≤ g) (hg' : base' ≤ g') : g ≠ g' := by
  obtain ⟨_, h1⟩ := h.own hg
  obtain ⟨_, h2⟩ := h'.own hg'
  exact cells_ne h1 h2 hn
theorem Blk.neT {w : World} {a b : Nat} {t t' : TypeId} {cs cs' : List Value} (h : Blk w a t cs) (h' : Blk w b t' cs') (hn : t ≠ t') : a ≠ b := cells_ne h h' hn
theorem SetB.ne {ks : List Int} {w : World} {r b : Nat} {c : Array Value} {t : TypeId} {f : Nat × Nat} (h : SetB ks w r) (hb : w.heap[b]? = some (.cells c t f)) : r ≠ b := fun e => by
  obtain ⟨es, c, h1, _⟩ := h
  subst e; rw [h1] at hb; cases hb
theorem Acc.base_le {α : Type} {enc : α → List Value} {k : Nat} {e : TypeId} {base : Nat} {w : World} {ao : Option Addr} {g cap : Nat} {xs : List α} (h : Acc enc k e base w ao g cap xs) (hp : 0 < xs.length) : base ≤ g := by
  rcases h.at_ with ⟨_, h1, _⟩ | ⟨_, h2, _⟩
  · subst h1; simp at hp
  · exact h2
theorem Acc.mono {α : Type} {enc : α → List Value} {k : Nat} {e : TypeId} {base base' : Nat} {w : World} {g cap : Nat} {xs : List α} {ad : Addr} (h : Acc enc k e base w (some ad) g cap xs) (hb : base' ≤ base) : Acc enc k e base' w (some ad) g cap xs := by
  refine ⟨h.lt, ?_⟩
  rcases h.at_ with ⟨h1, _⟩ | ⟨h1, h2, h3⟩
  · cases h1
  · exact .inr ⟨h1, by omega, h3⟩
theorem Acc.take {α : Type} {enc : α → List Value} {k : Nat} {e : TypeId} {base : Nat} {w : World} {ao : Option Addr} {g cap : Nat} {xs : List α} (h : Acc enc k e base w ao g cap xs) (hk : ∀ x, (enc x).length = k) (n : Nat) : Acc enc k e base w ao g cap (xs.take n) := by
  refine ⟨h.lt, ?_⟩
  rcases h.at_ with ⟨h1, h2, h3, h4⟩ | ⟨h1, h2, cur, h3, h4, h5, h6, h7⟩
  · exact .inl ⟨h1, by rw [h2]; simp, h3, h4⟩
  · refine .inr ⟨h1, h2, cur, h3, Nat.le_trans (List.length_take_le' _ _) h4, h5, h6, ?_⟩
    have e1 : (xs.take n).flatMap enc = (xs.flatMap enc).take ((xs.take n).length * k) := by
      have h8 : xs.flatMap enc = (xs.take n).flatMap enc ++ (xs.drop n).flatMap enc := by rw [← List.flatMap_append, List.take_append_drop]
      rw [h8, ← flatMap_len hk (xs.take n), List.take_left']; rfl
    rw [e1, ← h7, List.take_take, Nat.min_eq_left]
    exact Nat.mul_le_mul_right k (List.length_take_le' _ _)
theorem subAddr0 (ao : Option Addr) (cap k : Nat) : subAddr ao cap 0 k = ao := by
  unfold subAddr
  split
  · rfl
  · cases ao with
    | none => rfl
    | some a => simp [Addr.add]
theorem mem_set {α : Type} [Inhabited α] {xs : List α} {i : Nat} {y h : α} (hh : h ∈ xs.set i y) : h = y ∨ ∃ j, j < xs.length ∧ j ≠ i ∧ h = nth xs j := by
  obtain ⟨j, hj, rfl⟩ := List.mem_iff_getElem.1 hh
  rw [List.length_set] at hj
  by_cases e : j = i
  · left; subst e; simp
  · right; exact ⟨j, hj, e, by rw [List.getElem_set_ne (Ne.symm e), nth_eq hj]⟩
/-- None of a voyage's blocks is in S. -/
structure VOff (base pv : Nat) (S : Nat → Prop) (V : VG) : Prop where
  pv : ¬ S pv
  bb : 0 < V.bs.length → ¬ S V.bb
  pg : base ≤ V.pg → ¬ S V.pg
  hp : ∀ h ∈ V.hl, ¬ S h.p ∧ (base ≤ h.g → ¬ S h.g) ∧ ∀ x ∈ h.xs, base ≤ x.b → ¬ S x.b
  lb : ¬ S V.lb
  r : ¬ S V.r
  dg : base ≤ V.dg → ¬ S V.dg
  ld : ∀ x ∈ V.ld, (base ≤ x.g → ¬ S x.g) ∧ ∀ y ∈ x.xs, base ≤ y.b → ¬ S y.b
theorem VOff.mono {base pv : Nat} {S T : Nat → Prop} {V : VG} (h : VOff base pv S V) (hs : ∀ k, T k → S k) : VOff base pv T V :=
  ⟨fun q => h.pv (hs _ q), fun q t => h.bb q (hs _ t), fun q t => h.pg q (hs _ t), fun x hx => ⟨fun t => (h.hp x hx).1 (hs _ t), fun q t => (h.hp x hx).2.1 q (hs _ t), fun y hy q t => (h.hp x hx).2.2 y hy q (hs _ t)⟩, fun t => h.lb (hs _ t), fun t => h.r (hs _ t), fun q t => h.dg q (hs _ t), fun x hx => ⟨fun q t => (h.ld x hx).1 q (hs _ t), fun y hy q t => (h.ld x hx).2 y hy q (hs _ t)⟩⟩
theorem Voy.off {base pv : Nat} {w : World} {V : VG} (h : Voy base pv w V) : VOff base pv (fun k => w.heap.size ≤ k) V :=
  ⟨Nat.not_le.2 h.blk.lt, fun hp => Nat.not_le.2 (h.bil.lt hp), fun _ => Nat.not_le.2 h.pacc.lt, fun x hx => ⟨Nat.not_le.2 (h.hold x hx).blk.lt, fun _ => Nat.not_le.2 (h.hold x hx).lays.acc.lt, fun y hy _ => Nat.not_le.2 ((h.hold x hx).lays.path y hy).1.lt⟩, Nat.not_le.2 h.lblk.lt, Nat.not_le.2 h.seals.set.lt, fun _ => Nat.not_le.2 h.dacc.lt,
    fun x hx => ⟨fun _ => Nat.not_le.2 (h.land x hx).acc.lt, fun y hy _ => Nat.not_le.2 ((h.land x hx).path y hy).1.lt⟩⟩
theorem Voy.keepS {base pv : Nat} {w w' : World} {V : VG} {S : Nat → Prop} (h : Voy base pv w V) (u : Upd S w w') (o : VOff base pv S V) : Voy base pv w' V :=
  ⟨h.pge, h.blk.keep u o.pv, h.bil.keep u o.bb, h.bold, h.pacc.keep u o.pg, fun x hx => (h.hold x hx).keep u (o.hp x hx).1 (o.hp x hx).2.1 (o.hp x hx).2.2, h.pne, h.gne, h.lblk.keep u o.lb, h.lge, h.seals.keep u o.r, h.rge, h.dacc.keep u o.dg, fun x hx => (h.land x hx).keep u (o.ld x hx).1 (o.ld x hx).2, h.lne⟩
def VG.setH (V : VG) (i : Nat) (h : HG) : VG := { V with hl := V.hl.set i h }
theorem VG.setH_len {V : VG} {i : Nat} {h : HG} : (V.setH i h).hl.length = V.hl.length := by simp [VG.setH]
theorem VG.setH_cells {V : VG} {i : Nat} {h : HG} : (V.setH i h).cells = V.cells := by simp [VG.setH, VG.cells]
/-- One hold is another one. -/
theorem Voy.setH {base pv : Nat} {w w' : World} {V : VG} {S T : Nat → Prop} (h : Voy base pv w V) {i : Nat} (hi : i < V.hl.length) (q : HG) (u : Upd S w w') (hS : ∀ k, S k → k = (nth V.hl i).p ∨ (k = (nth V.hl i).g ∧ base ≤ k) ∨ T k) (o : VOff base pv T V)
    (hp : q.p = (nth V.hl i).p) (hm : HoldM base w' V.lb q) (hg : base ≤ q.g → q.g = (nth V.hl i).g ∨ w.heap.size ≤ q.g) : Voy base pv w' (V.setH i q) := by
  have hm0 := h.hold _ (nth_mem hi)
  have no : ∀ k, k < w.heap.size → k ≠ (nth V.hl i).p → (base ≤ (nth V.hl i).g → k ≠ (nth V.hl i).g) → ¬ T k → ¬ S k := fun k hk h1 h2 h3 hs => by
    rcases hS k hs with e | e | e
    · exact h1 e
    · exact h2 (by omega) e.1
    · exact h3 e
  have blkOff : ∀ b t cs, Blk w b t cs → t ≠ 122 → t ≠ 97 → ¬ T b → ¬ S b := fun b t cs hb h1 h2 h3 => no b hb.lt (hb.neT hm0.blk h1) (fun hq e => hm0.lays.acc.neB hb (Ne.symm h2) hq e.symm) h3
  have pathOff : ∀ x : HLay, PathM base w V.lb x → (base ≤ x.b → ¬ T x.b) → base ≤ x.b → ¬ S x.b := fun x hx h3 hb => no _ hx.1.lt (hx.1.neB hm0.blk (by decide) hb) (fun hq => hx.1.neA hm0.lays.acc (by decide) hb hq) (h3 hb)
  have hold' : ∀ j, j < V.hl.length → j ≠ i → HoldM base w' V.lb (nth V.hl j) := fun j hj hji => by
    have hmj := h.hold _ (nth_mem hj)
    have oj := o.hp _ (nth_mem hj)
    have hpne : (nth V.hl j).p ≠ (nth V.hl i).p := by
      rcases Nat.lt_or_gt_of_ne hji with hlt | hlt
      · exact h.pne j i hlt hi
      · exact (h.pne i j hlt hj).symm
    have hgne : base ≤ (nth V.hl j).g → (nth V.hl j).g ≠ (nth V.hl i).g := fun hb => by
      rcases Nat.lt_or_gt_of_ne hji with hlt | hlt
      · exact h.gne j i hlt hi hb
      · intro e; exact h.gne i j hlt hj (by omega) e.symm
    exact hmj.keep u (no _ hmj.blk.lt hpne (fun hq e => hm0.lays.acc.neB hmj.blk (by decide) hq e.symm) oj.1)
      (fun hb => no _ hmj.lays.acc.lt (hmj.lays.acc.neB hm0.blk (by decide) hb) (fun _ => hgne hb) (oj.2.1 hb))
      (fun x hx hb => pathOff x (hmj.lays.path x hx) (oj.2.2 x hx) hb)
  have hsz := u.size
  refine ⟨h.pge, by rw [VG.setH_cells]; exact h.blk.keep u (blkOff _ _ _ h.blk (by decide) (by decide) o.pv), h.bil.keep u (fun hq => ?_), h.bold, ?_, fun x hx => ?_, ?_, ?_, h.lblk.keep u (blkOff _ _ _ h.lblk (by decide) (by decide) o.lb), h.lge,
    h.seals.keep u (no _ h.seals.set.lt (h.seals.ne hm0.blk) (fun hq => by obtain ⟨_, hc⟩ := hm0.lays.acc.own hq; exact h.seals.ne hc) o.r), h.rge,
    h.dacc.keep u (fun hb => no _ h.dacc.lt (h.dacc.neB hm0.blk (by decide) hb) (fun hq => h.dacc.neA hm0.lays.acc (by decide) hb hq) (o.dg hb)), fun x hx => ?_, fun x hx y hy => ?_⟩
  · have := h.bold hq
    have := hm0.pge
    exact no _ (h.bil.lt hq) (by omega) (fun hg e => by omega) (o.bb hq)
  · have hk := h.pacc.keep u (fun hb => no _ h.pacc.lt (h.pacc.neB hm0.blk (by decide) hb) (fun hq => h.pacc.neA hm0.lays.acc (by decide) hb hq) (o.pg hb))
    show Acc encPt 1 119 base w' V.pa V.pg V.pc (V.hl.set i q)
    have e : (V.hl.set i q).flatMap encPt = V.hl.flatMap encPt := by
      rw [List.flatMap_def, List.flatMap_def, List.map_set]
      congr 1
      refine List.ext_getElem? fun j => ?_
      by_cases hj : i = j
      · subst hj
        rw [List.getElem?_set_self (by simpa using hi), List.getElem?_map, List.getElem?_eq_getElem hi, ← nth_eq hi]
        simp [encPt, hp]
      · rw [List.getElem?_set_ne hj]
    refine ⟨hk.lt, ?_⟩
    rcases hk.at_ with ⟨h1, h2, h3⟩ | ⟨h1, h2, cur, h3, h4, h5, h6, h7⟩
    · rw [h2] at hi; simp at hi
    · exact .inr ⟨h1, h2, cur, h3, by rw [List.length_set]; exact h4, h5, h6, by rw [List.length_set, e]; exact h7⟩
  · rcases mem_set hx with rfl | ⟨j, hj, hji, rfl⟩
    · exact hm
    · exact hold' j hj hji
  · intro a b hab hb
    rw [VG.setH_len] at hb
    show (nth (V.hl.set i q) a).p ≠ (nth (V.hl.set i q) b).p
    by_cases ha : a = i
    · subst ha
      rw [nth_set_eq (by omega), nth_set_ne (by omega), hp]; exact h.pne _ _ hab hb
    · rw [nth_set_ne ha]
      by_cases hbi : b = i
      · subst hbi; rw [nth_set_eq hb, hp]; exact h.pne _ _ hab hb
      · rw [nth_set_ne hbi]; exact h.pne _ _ hab hb
  · intro a b hab hb
    rw [VG.setH_len] at hb
    show base ≤ (nth (V.hl.set i q) a).g → (nth (V.hl.set i q) a).g ≠ (nth (V.hl.set i q) b).g
    have lt : ∀ j, j < V.hl.length → (nth V.hl j).g < w.heap.size := fun j hj => (h.hold _ (nth_mem hj)).lays.acc.lt
    by_cases ha : a = i
    · subst ha
      rw [nth_set_eq (by omega), nth_set_ne (by omega)]
      intro hq e
      rcases hg hq with e1 | e1
      · exact h.gne _ _ hab hb (by omega) (e1.symm.trans e)
      · have := lt b hb; omega
    · rw [nth_set_ne ha]
      by_cases hbi : b = i
      · subst hbi
        rw [nth_set_eq hb]
        intro hq e
        rcases hg (by omega) with e1 | e1
        · exact h.gne _ _ hab hb hq (e.trans e1)
        · have := lt a (by omega); omega
      · rw [nth_set_ne hbi]; exact h.gne _ _ hab hb
  · have hl := h.land x hx
    exact hl.keep u (fun hb => no _ hl.acc.lt (hl.acc.neB hm0.blk (by decide) hb) (fun hq e => h.lne x hx _ (nth_mem hi) hq e.symm) ((o.ld x hx).1 hb)) (fun y hy hb => pathOff y (hl.path y hy) ((o.ld x hx).2 y hy) hb)
  · rcases mem_set hy with rfl | ⟨j, hj, hji, rfl⟩
    · intro hb
      rcases hg hb with e1 | e1
      · rw [e1]; exact h.lne x hx _ (nth_mem hi) (by omega)
      · have := (h.land x hx).acc.lt; omega
    · exact h.lne x hx _ (nth_mem hj)
/-- A hold's blocks are outside of what the voyage's were. -/
theorem VOff.setH {base pv : Nat} {S : Nat → Prop} {V : VG} (o : VOff base pv S V) {i : Nat} {q : HG} (h1 : ¬ S q.p) (h2 : base ≤ q.g → ¬ S q.g) (h3 : ∀ x ∈ q.xs, base ≤ x.b → ¬ S x.b) : VOff base pv S (V.setH i q) :=
  ⟨o.pv, o.bb, o.pg, fun h hh => by
    rcases mem_set hh with rfl | ⟨j, hj, _, rfl⟩
    · exact ⟨h1, h2, h3⟩
    · exact o.hp _ (nth_mem hj), o.lb, o.r, o.dg, o.ld⟩
/-- Layers taken from the top: those that are left, those that are taken. -/
def takR : List Lay → Int → List Lay × List Lay
  | [], _ => ([], [])
  | x :: r, t => if t ≤ 0 then (x :: r, []) else if t < x.tons then (⟨x.bill, x.tons - t, x.path⟩ :: r, [⟨x.bill, t, x.path⟩]) else ((takR r (t - x.tons)).1, x :: (takR r (t - x.tons)).2)
def takV (l : List Lay) (t : Int) : List Lay × List Lay := ((takR l.reverse t).1.reverse, (takR l.reverse t).2)
theorem takV_zero (l : List Lay) (t : Int) (h : t ≤ 0) : takV l t = (l, []) := by
  unfold takV
  cases hl : l.reverse with
  | nil => have : l = [] := by simpa using hl
           subst this; rfl
  | cons x r => simp only [takR, if_pos h]; rw [← hl]; simp
theorem takV_part {l : List Lay} {x : Lay} {t : Int} (h0 : 0 < t) (h : t < x.tons) : takV (l ++ [x]) t = (l ++ [⟨x.bill, x.tons - t, x.path⟩], [⟨x.bill, t, x.path⟩]) := by
  unfold takV
  rw [List.reverse_append]
  simp only [List.reverse_cons, List.reverse_nil, List.nil_append, List.singleton_append, takR, if_neg (show ¬ t ≤ 0 by omega), if_pos h]
  simp
theorem takV_pop {l : List Lay} {x : Lay} {t : Int} (h0 : 0 < t) (h : ¬ t < x.tons) : takV (l ++ [x]) t = ((takV l (t - x.tons)).1, x :: (takV l (t - x.tons)).2) := by
  unfold takV
  rw [List.reverse_append]
  simp only [List.reverse_cons, List.reverse_nil, List.nil_append, List.singleton_append, takR, if_neg (show ¬ t ≤ 0 by omega), if_neg h]
def HLay.withT (x : HLay) (n : Int) : HLay := ⟨⟨x.v.bill, n, x.v.path⟩, x.ao, x.b, x.cap⟩
def topL (xs : List HLay) : HLay := nth xs (xs.length - 1)
/-- A part is taken from the top of layers. -/
def Pop (xs : List HLay) (t : Int) (part : HLay) (ys : List HLay) : Prop :=
  (t < (topL xs).v.tons ∧ part = (topL xs).withT t ∧ ys = xs.set (xs.length - 1) ((topL xs).withT ((topL xs).v.tons - t))) ∨ (¬ t < (topL xs).v.tons ∧ part = topL xs ∧ ys = xs.take (xs.length - 1))
theorem last_split {xs : List HLay} (h : 0 < xs.length) : xs = xs.take (xs.length - 1) ++ [topL xs] := by
  have := take_nth (show xs.length - 1 < xs.length by omega)
  rw [show xs.length - 1 + 1 = xs.length by omega, List.take_length] at this
  exact this
theorem set_last {xs : List HLay} (h : 0 < xs.length) (y : HLay) : xs.set (xs.length - 1) y = xs.take (xs.length - 1) ++ [y] := by
  refine List.ext_getElem? fun j => ?_
  have hl : (xs.take (xs.length - 1)).length = xs.length - 1 := by rw [List.length_take]; omega
  by_cases hj : j = xs.length - 1
  · subst hj
    rw [List.getElem?_set_self (by omega), List.getElem?_append_right (by omega)]; simp [hl]
  · rw [List.getElem?_set_ne (Ne.symm hj)]
    rcases Nat.lt_or_ge j (xs.length - 1) with h1 | h1
    · rw [List.getElem?_append_left (by omega), List.getElem?_take, if_pos h1]
    · rw [List.getElem?_eq_none (by omega), List.getElem?_eq_none (by rw [List.length_append, hl, List.length_singleton]; omega)]
theorem Pop.tak {xs ys : List HLay} {t : Int} {part : HLay} (h : Pop xs t part ys) (h0 : 0 < t) (hp : 0 < xs.length) : takV (xs.map HLay.v) t = ((takV (ys.map HLay.v) (t - part.v.tons)).1, part.v :: (takV (ys.map HLay.v) (t - part.v.tons)).2) := by
  have e : xs.map HLay.v = (xs.take (xs.length - 1)).map HLay.v ++ [(topL xs).v] := by
    have := congrArg (List.map HLay.v) (last_split hp)
    rwa [List.map_append, List.map_singleton] at this
  rcases h with ⟨h1, rfl, rfl⟩ | ⟨h1, rfl, rfl⟩
  · rw [e, takV_part h0 h1, set_last hp, List.map_append, takV_zero _ _ (by show t - t ≤ 0; omega)]; rfl
  · rw [e, takV_pop h0 h1]
theorem Pop.sum {xs ys : List HLay} {t : Int} {part : HLay} (h : Pop xs t part ys) (hp : 0 < xs.length) : sumT (ys.map HLay.v) = sumT (xs.map HLay.v) - part.v.tons := by
  have e : xs.map HLay.v = (xs.take (xs.length - 1)).map HLay.v ++ [(topL xs).v] := by
    have := congrArg (List.map HLay.v) (last_split hp)
    rwa [List.map_append, List.map_singleton] at this
  rcases h with ⟨h1, rfl, rfl⟩ | ⟨h1, rfl, rfl⟩
  · rw [e, set_last hp, List.map_append, sumT_append, sumT_append]
    simp only [List.map_cons, List.map_nil, sumT, HLay.withT]; omega
  · rw [e, sumT_append]; simp only [sumT]; omega
theorem Pop.mem {xs ys : List HLay} {t : Int} {part : HLay} (h : Pop xs t part ys) (hp : 0 < xs.length) : ∀ y ∈ ys, y ∈ xs ∨ (t < (topL xs).v.tons ∧ y = (topL xs).withT ((topL xs).v.tons - t)) := fun y hy => by
  rcases h with ⟨h1, rfl, rfl⟩ | ⟨h1, rfl, rfl⟩
  · rcases List.mem_or_eq_of_mem_set hy with h2 | h2
    · exact .inl h2
    · exact .inr ⟨h1, h2⟩
  · exact .inl (List.mem_of_mem_take hy)
theorem topL_mem {xs : List HLay} (h : 0 < xs.length) : topL xs ∈ xs := nth_mem (by omega)
/-- The same layer in memory, of other tons. -/
theorem PathM.withT {base : Nat} {w : World} {lb : Nat} {x : HLay} (h : PathM base w lb x) (n : Int) : PathM base w lb (x.withT n) := h
theorem sumT_pos {xs : List HLay} (h : 0 < sumT (xs.map HLay.v)) : 0 < xs.length := by
  cases xs with
  | nil => simp [sumT] at h
  | cons x l => simp
theorem Acc.cellR {α : Type} {enc : α → List Value} {k : Nat} {e : TypeId} {base : Nat} {w : World} {ao : Option Addr} {g cap : Nat} {xs : List α} {γ : Type} {P : Program} {l D : Nat} {enc' : γ → Value} {Y Z : γ → World → Prop} {R : World → Prop} (h : Acc enc k e base w ao g cap xs) (hH : Hands P l D enc' Y Z R) (hr : R w) (hb : base ≤ g) : g ≠ l ∧ g ≠ D := by
  obtain ⟨cur, hc⟩ := h.own hb
  exact hH.cell hr (show Blk w g e cur.toList by simpa [Blk] using hc)
/-- What an iterator over parts needs: a voyage, its hold i at pf, the boxes of the tons that are left and of the stack's place. -/
structure GrabC (Z : Nat → Prop) (base pv i pf bt bs : Nat) (t : Int) (V : VG) (W : World) : Prop where
  voy : Voy base pv W V
  hi : i < V.hl.length
  hp : (nth V.hl i).p = pf
  tb : Blk W bt 3 [.int .i64 t]
  sb : Blk W bs 182 [.pointer (some ⟨pf, 2, none⟩)]
  off : VOff base pv Z V
  zb : Z bt
  rng : 0 ≤ t ∧ t ≤ sumT ((nth V.hl i).xs.map HLay.v) ∧ sumT ((nth V.hl i).xs.map HLay.v) ≤ 1000000
  tons : ∀ x ∈ (nth V.hl i).xs, 1 ≤ x.v.tons ∧ x.v.tons ≤ 1000000
theorem GrabC.ext {Z : Nat → Prop} {base pv i pf bt bs : Nat} {t : Int} {V : VG} {W W' : World} (h : GrabC Z base pv i pf bt bs t V W) (u : Ext W W') : GrabC Z base pv i pf bt bs t V W' :=
  ⟨h.voy.ext u, h.hi, h.hp, h.tb.keep u id, h.sb.keep u id, h.off, h.zb, h.rng, h.tons⟩
theorem setH_nth {V : VG} {i : Nat} {q : HG} (h : i < V.hl.length) : nth (V.setH i q).hl i = q := nth_set_eq h
theorem setH_ne {V : VG} {i j : Nat} {q : HG} (h : j ≠ i) : nth (V.setH i q).hl j = nth V.hl j := nth_set_ne h
theorem GrabC.len {Z : Nat → Prop} {base pv i pf bt bs : Nat} {t : Int} {V : VG} {W : World} (h : GrabC Z base pv i pf bt bs t V W) : (nth V.hl i).xs.length ≤ 1000000 := by
  have h1 := h.rng
  have h2 : (((nth V.hl i).xs.map HLay.v).length : Int) ≤ sumT ((nth V.hl i).xs.map HLay.v) := sumT_len (fun y hy => by obtain ⟨x, hx, rfl⟩ := List.mem_map.1 hy; exact (h.tons x hx).1)
  rw [List.length_map] at h2
  omega
/-- A part has been taken: the iterator's state behind it. -/
theorem GrabC.pop {Z : Nat → Prop} {base pv i pf bt bs : Nat} {t : Int} {V : VG} {W W' : World} (h : GrabC Z base pv i pf bt bs t V W) (h0 : 0 < t) {q : HG} (hq : nth V.hl i = q) {part : HLay} {ys : List HLay} (hpop : Pop q.xs t part ys) (u : Upd (fun k => k = bt ∨ k = pf ∨ (k = q.g ∧ base ≤ k)) W W')
    (hb : Blk W' pf 122 { q with xs := ys }.cells) (ha : Acc encHLay 3 97 base W' q.ao q.g q.cp ys) (ht : Blk W' bt 3 [.int .i64 (t - part.v.tons)]) (hs : bs ≠ pf ∧ (base ≤ q.g → bs ≠ q.g) ∧ bs ≠ bt) : GrabC Z base pv i pf bt bs (t - part.v.tons) (V.setH i { q with xs := ys }) W' ∧ PathM base W' V.lb part ∧ (1 ≤ part.v.tons ∧ part.v.tons ≤ 1000000) := by
  subst hq
  have hm := h.voy.hold _ (nth_mem h.hi)
  have hr := h.rng
  have hp0 : 0 < (nth V.hl i).xs.length := sumT_pos (by omega)
  have hto := h.tons _ (topL_mem hp0)
  have hoff := h.off.hp _ (nth_mem h.hi)
  have hpth : ∀ y ∈ ys, ∃ x ∈ (nth V.hl i).xs, y.b = x.b ∧ y.ao = x.ao ∧ y.cap = x.cap ∧ y.v.path = x.v.path := fun y hy => by
    rcases hpop.mem hp0 y hy with h1 | ⟨_, rfl⟩
    · exact ⟨y, h1, rfl, rfl, rfl, rfl⟩
    · exact ⟨_, topL_mem hp0, rfl, rfl, rfl, rfl⟩
  have hkeep : ∀ x ∈ (nth V.hl i).xs, PathM base W' V.lb x := fun x hx => by
    have hpx := hm.lays.path x hx
    exact hpx.keep u (fun hb e => by
      rcases e with e | e | e
      · exact hoff.2.2 x hx hb (by rw [e]; exact h.zb)
      · exact hpx.1.neB (h.hp ▸ hm.blk) (by decide) hb e
      · exact hpx.1.neA hm.lays.acc (by decide) hb (by omega) e.1)
  have hmn : HoldM base W' V.lb { nth V.hl i with xs := ys } := by
    refine ⟨by rw [show ({ nth V.hl i with xs := ys } : HG).p = pf from h.hp]; exact hb, hm.pge, ha, fun y hy => ?_⟩
    obtain ⟨x, hx, e1, e2, e3, e4⟩ := hpth y hy
    have hk := hkeep x hx
    unfold PathM at hk ⊢
    rw [e1, e2, e3, e4]; exact hk
  have hv := h.voy.setH h.hi { nth V.hl i with xs := ys } u (T := (· = bt)) (fun k hk => by
    rcases hk with e | e | e
    · exact .inr (.inr e)
    · exact .inl (e.trans h.hp.symm)
    · exact .inr (.inl e)) (h.off.mono (fun k hk => by subst hk; exact h.zb)) rfl hmn (fun _ => .inl rfl)
  have htop := hkeep _ (topL_mem hp0)
  refine ⟨?_, by rcases hpop with ⟨_, rfl, _⟩ | ⟨_, rfl, _⟩ <;> exact htop, by
    rcases hpop with ⟨h1, rfl, _⟩ | ⟨h1, rfl, _⟩
    · show 1 ≤ t ∧ t ≤ 1000000; omega
    · exact hto⟩
  refine ⟨hv, by rw [VG.setH_len]; exact h.hi, by rw [setH_nth h.hi]; exact h.hp, ht, h.sb.keep u (fun e => ?_), h.off.setH hoff.1 hoff.2.1 (fun y hy hb => ?_), h.zb, ?_, ?_⟩
  · rcases e with e | e | e
    · exact hs.2.2 e
    · exact hs.1 e
    · exact hs.2.1 (by omega) e.1
  · obtain ⟨x, hx, e1, _⟩ := hpth y hy
    rw [e1] at hb ⊢; exact hoff.2.2 x hx hb
  · rw [setH_nth h.hi]
    show 0 ≤ t - part.v.tons ∧ t - part.v.tons ≤ sumT (ys.map HLay.v) ∧ sumT (ys.map HLay.v) ≤ 1000000
    rw [hpop.sum hp0]
    have : 0 < part.v.tons ∧ part.v.tons ≤ t := by
      rcases hpop with ⟨h1, rfl, _⟩ | ⟨h1, rfl, _⟩
      · exact ⟨h0, Int.le_refl _⟩
      · omega
    omega
  · rw [setH_nth h.hi]
    intro y hy
    rcases hpop.mem hp0 y hy with h1 | ⟨h1, rfl⟩
    · exact h.tons y h1
    · show 1 ≤ (topL (nth V.hl i).xs).v.tons - t ∧ (topL (nth V.hl i).xs).v.tons - t ≤ 1000000
      omega
/-- A part that is handed out, what is left to be taken, the voyage, and the world then. -/
structure GrE where
  part : HLay
  t : Int
  V : VG
  w : World
def YGr (D : Nat) (M : HLay → Int → VG → World → Prop) (x : GrE) (W : World) : Prop := M x.part x.t x.V W ∧ D + 1 < W.heap.size ∧ Upd (fun _ => True) x.w W
def ZGr (C : Int → VG → World → Prop) (x : GrE) (W : World) : Prop := (∃ V, C x.t V W) ∧ Upd (fun _ => True) x.w W

theorem own88 : Own Try.prog 88 := ⟨Try.f88, Try.func88, by kernel_rfl, by kernel_rfl⟩
theorem own87 : Own Try.prog 87 := ⟨Try.f87, Try.func87, by kernel_rfl, by kernel_rfl⟩
theorem own89 : Own Try.prog 89 := ⟨Try.f89, Try.func89, by kernel_rfl, by kernel_rfl⟩
theorem own93 : Own Try.prog 93 := ⟨Try.f93, Try.func93, by kernel_rfl, by kernel_rfl⟩

theorem clipI_c (pk : List Int) (ao : Option Addr) (cap : Nat) (w0 : World) (hc : pk.length ≤ cap) :
    CallsV Try.prog 88 [.slice ao pk.length cap] w0 (fun v w' => v = .slice (subAddr ao pk.length 0 1) pk.length pk.length ∧ Ext w0 w') := by
 refine f_enter (N := 9) Try.func88 rfl rfl rfl (c_seq fun K1 hK1 => (c_region (t_assign rfl rfl rfl (t_nil' (hK1 _ _ (c_seq fun K2 hK2 => (c_region (t_move rfl rfl rfl (t_move rfl rfl rfl (t_len Try.underlying45 rfl rfl rfl rfl (t_move rfl rfl rfl (t_len Try.underlying45 rfl rfl rfl rfl (t_sliceC Try.underlying45 Try.sizeOf3 rfl rfl rfl rfl rfl rfl rfl hc (t_assign rfl rfl rfl (t_nil' (hK2 _ _ (c_ret (f_ret1 (v := .slice (subAddr ao pk.length 0 1) pk.length pk.length) Try.results88 rfl ?_))))))))))))))))))
 exact ⟨rfl, (Upd.refl (fun _ => False) w0)⟩

theorem moved_c (base bE : Nat) (ev bill tons : Int) (path : List Int) (ao : Option Addr) (b cap : Nat) (w0 : World) (hE : Blk w0 bE 3 [.int .i64 ev]) (hp : Sl encI 1 w0 ao b 0 path) (hc : path.length ≤ cap) (hl : path.length ≤ 100000) (hbw0 : base ≤ w0.heap.size) :
    CallsV Try.prog 87 [.agg #[.int .i64 bill, .int .i64 tons, .slice ao path.length cap], .pointer (some ⟨bE, 0, none⟩)] w0 (fun v w' => ∃ g cp, v = .agg #[.int .i64 bill, .int .i64 tons, .slice (some ⟨g, 0, none⟩) (path ++ [ev]).length cp] ∧ Acc encI 1 3 base w' (some ⟨g, 0, none⟩) g cp (path ++ [ev]) ∧ w0.heap.size ≤ g ∧ Ext w0 w') := by
 refine f_enter (N := 12) Try.func87 rfl rfl rfl (c_seq fun K1 hK1 => (c_region (t_box (cs := [.int .i64 bill, .int .i64 tons, .slice ao path.length cap]) rfl rfl rfl rfl (fun bk2 w3 ebk2 sbk2 B4 u5 => ?_))))
 have zu5 := u5.size
 refine t_alloc (cs := [.int .i64 0, .int .i64 0, .slice none 0 0]) Try.zeroValue97 rfl rfl rfl (fun bk7 w8 ebk7 sbk7 B9 u10 => ?_)
 have zu10 := u10.size
 refine t_nil' (hK1 _ _ (c_seq fun K12 hK12 => ?_))
 have B13 := ((hE.kx u5).kx u10)
 have B14 := (B4.kx u10)
 refine c_drawnS follows 8 5 [some (4, some (.pointer (some ⟨bk2, 2, none⟩))), some (5, some (.slice ao path.length cap)), some (6, some (.slice (subAddr ao path.length 0 1) path.length path.length)), some (7, some (.int .i64 ev)), some (8, none)] [[],[0],[1],[],[3],[2,4,2],[0,1,2,3,4,5],[6,5,5,0,1,2,3,4,5]] (fun D ρ w => Upd (fun _ => False) w8 w ∧ (D 4 = true → ∃ bk21, ρ 4 = .slice (some ⟨bk21, 0, none⟩) 1 1 ∧ w8.heap.size ≤ bk21 ∧ Blk w bk21 3 [.int .i64 ev])) rfl rfl rfl rfl (by kernel_rfl) (by kernel_rfl) (by kernel_rfl) ⟨(Upd.drew _).to, (fun h => by cases h)⟩ ⟨?_, ?_, ?_, ?_, ?_, trivial⟩ ?_
 · exact pzf Try.underlying97 rfl Try.sizeOf45 (2) rfl rfl rfl rfl rfl fun _ _ _ h => h
 · exact fun D ρ w26 hcD hnD hdD hW => ⟨_, kf_fr [4], fun Lr => t_load Try.isAgg45 rfl rfl rfl ((B14.kx hW.1).get rfl) (dz rfl hW)⟩
 ·
  intro D ρ w31 hcD hnD hdD hW
  obtain ⟨u32, F33⟩ := hW
  have zu32 := u32.size
  refine ⟨_, kf_fr [5], fun Lr => ?_⟩
  refine t_call own88 rfl rfl rfl rfl (clipI_c path ao cap _ hc) (fun v35 w36 r38 => ?_)
  obtain ⟨rfl, u37⟩ := r38
  have zu37 := u37.size
  exact dz rfl ⟨(u32.next u37 (fun _ _ h => h.elim)), (fun h => by obtain ⟨b, e, hge, hB⟩ := F33 h; exact ⟨b, e, hge, (hB.keep u37 (fun h => h))⟩)⟩
 · exact fun D ρ w40 hcD hnD hdD hW => ⟨_, kf_fr [1], fun Lr => t_load Try.isAgg3 rfl rfl rfl ((B13.kx hW.1).get rfl) (dz rfl hW)⟩
 ·
  intro D ρ w45 hcD hnD hdD hW
  obtain ⟨u46, F47⟩ := hW
  have zu46 := u46.size
  refine ⟨_, kf_fr [7], fun Lr => ?_⟩
  refine t_bslice (ps := [(0, .int .i64 ev)]) (cs := [.int .i64 ev]) (e := 3) rfl rfl ⟨rfl, rfl⟩ (fun w => by kernel_rfl) (fun bk49 w50 ebk49 sbk49 B51 u52 => ?_)
  have zu52 := u52.size
  exact dzn rfl ⟨(u46.next u52 (fun _ _ h => h.elim)), (fun _ => ⟨bk49, rfl, (by omega), (by show Blk w50 bk49 3 [.int .i64 ev]; exact B51)⟩)⟩
 intro ρ w54 hW
 obtain ⟨u55, F56⟩ := hW
 have zu55 := u55.size
 have E57 := (((Upd.refl (fun _ => False) w0).nx u5).nx u10).nx u55
 obtain ⟨bk21, e58, gebk21, B59⟩ := F56 rfl
 have B59 : Blk w54 bk21 3 [.int .i64 ev] := B59
 have lt_bk21 := B59.lt
 refine t_weak [(2, .pointer (some ⟨bk2, 0, none⟩)), (3, .pointer (some ⟨bk7, 0, none⟩)), (6, .slice (subAddr ao path.length 0 1) path.length path.length), (8, .slice (some ⟨bk21, 0, none⟩) 1 1)] ⟨rfl, rfl, rfl, (look_nd (j := 4) rfl rfl rfl e58), trivial⟩ (t_appClip (z := .int .i64 0) (bytes := 8) (k := 1) (enc := encI) (ev : Int) Try.underlying45 (by kernel_rfl) rfl (by decide) (fun _ => rfl) (by intro x; simp [encI, Value.oneCell']) rfl rfl rfl rfl rfl ((hp.keep E57 (fun _ h => h))).clip B59 (by omega) (by decide) (fun gA cA w60 A62 u61 gegA => ?_))
 have zu61 := u61.size
 refine t_field Try.underlying97 rfl Try.sizeOf45 (2) rfl rfl rfl rfl ?_
 have B64 := ((B14.kx u55).kx u61)
 refine t_st (vs := [.slice (some ⟨gA, 0, none⟩) ((path ++ [ev]).length) cA]) Try.sizeOf45 rfl rfl rfl B64 rfl rfl rfl rfl (fun w65 sw65 B67 u66 => ?_)
 have zu66 := u66.size
 have B67 : Blk w65 bk2 97 [.int .i64 bill, .int .i64 tons, .slice (some ⟨gA, 0, none⟩) ((path ++ [ev]).length) cA] := B67
 refine t_nil' (hK12 _ _ (c_seq fun K69 hK69 => (c_region (t_loadN (vs := [.int .i64 bill, .int .i64 tons, .slice (some ⟨gA, 0, none⟩) ((path ++ [ev]).length) cA]) Try.isAgg97 Try.sizeOf97 rfl rfl rfl (B67.at.sub 0 3) rfl ?_))))
 have B70 := (((B9.kx u55).kx u61).keep u66 (by omega))
 refine t_st (vs := [.int .i64 bill, .int .i64 tons, .slice (some ⟨gA, 0, none⟩) ((path ++ [ev]).length) cA]) Try.sizeOf97 rfl rfl rfl B70 rfl rfl rfl rfl (fun w71 sw71 B73 u72 => ?_)
 have zu72 := u72.size
 have B73 : Blk w71 bk7 97 [.int .i64 bill, .int .i64 tons, .slice (some ⟨gA, 0, none⟩) ((path ++ [ev]).length) cA] := B73
 refine t_nil' (hK69 _ _ (c_ret (f_ret1 (v := .agg #[.int .i64 bill, .int .i64 tons, .slice (some ⟨gA, 0, none⟩) ((path ++ [ev]).length) cA]) Try.results87 ⟨_, _, rfl, run_loadVarN (vs := [.int .i64 bill, .int .i64 tons, .slice (some ⟨gA, 0, none⟩) ((path ++ [ev]).length) cA]) Try.isAgg97 Try.sizeOf97 rfl (B73.at.sub 0 3)⟩ ?_)))
 exact ⟨gA, cA, rfl, (((A62.mono (by omega)).keep u66 (fun _ => show ¬ (gA = bk2) by omega)).keep u72 (fun _ => show ¬ (gA = bk7) by omega)), by omega, (((E57.nx u61).next u66 (fun i hi h => by omega)).next u72 (fun i hi h => by omega))⟩

theorem grab_c (pf : Nat) (t : Int) (w0 : World) :
    CallsV Try.prog 89 [.pointer (some ⟨pf, 2, none⟩), .int .i64 t] w0 (fun v w' => (∃ bt bs, v = .func (.func 93) #[] #[.pointer (some ⟨bt, 0, none⟩), .pointer (some ⟨bs, 0, none⟩)] ∧ w0.heap.size ≤ bt ∧ w0.heap.size ≤ bs ∧ Blk w' bt 3 [.int .i64 t] ∧ Blk w' bs 182 [.pointer (some ⟨pf, 2, none⟩)]) ∧ Ext w0 w') := by
 refine f_enter (N := 6) Try.func89 rfl rfl rfl (c_seq fun K1 hK1 => (c_region (t_box (cs := [.pointer (some ⟨pf, 2, none⟩)]) rfl rfl rfl rfl (fun bk2 w3 ebk2 sbk2 B4 u5 => ?_))))
 have zu5 := u5.size
 refine t_box (cs := [.int .i64 t]) rfl rfl rfl rfl (fun bk7 w8 ebk7 sbk7 B9 u10 => ?_)
 have zu10 := u10.size
 refine t_assign rfl rfl rfl (t_nil' (hK1 _ _ (c_seq fun K12 hK12 => (c_region (t_mkfunc (vs := []) (us := [.pointer (some ⟨bk7, 0, none⟩), .pointer (some ⟨bk2, 0, none⟩)]) rfl rfl rfl rfl (t_assign rfl rfl rfl (t_nil' (hK12 _ _ (c_ret (f_ret1 (v := .func (.func 93) #[] #[.pointer (some ⟨bk7, 0, none⟩), .pointer (some ⟨bk2, 0, none⟩)]) Try.results89 rfl ?_))))))))))
 have B13 := (B4.kx u10)
 exact ⟨⟨_, _, rfl, by omega, by omega, B9, B13⟩, (((Upd.refl (fun _ => False) w0).nx u5).nx u10)⟩

set_option maxHeartbeats 1000000 in
theorem grab1_c (Z : Nat → Prop) (base pv i pf bt bs l D : Nat) (C : Int → VG → World → Prop) (M : HLay → Int → VG → World → Prop) (R : World → Prop) (t0 : Int) (V0 : VG) (w0 : World) (hC : ∀ t V W, C t V W → GrabC Z base pv i pf bt bs t V W) (hE : ∀ t V W W', C t V W → Ext W W' → C t V W') (hM : ∀ t V W q part ys W', C t V W → 0 < t → nth V.hl i = q → Pop q.xs t part ys → Upd (fun k => k = bt ∨ k = pf ∨ (k = q.g ∧ base ≤ k)) W W' → GrabC Z base pv i pf bt bs (t - part.v.tons) (V.setH i { q with xs := ys }) W' → PathM base W' V.lb part → (1 ≤ part.v.tons ∧ part.v.tons ≤ 1000000) → M part (t - part.v.tons) (V.setH i { q with xs := ys }) W') (hH : Hands Try.prog l D (fun x : GrE => .agg (encHLay x.part).toArray) (YGr D M) (ZGr C) R) (hc : C t0 V0 w0) (hr : R w0) (hD : D + 1 < w0.heap.size) (hl : l = D + 1) :
    CallsV Try.prog 93 [.func (.yield l) #[] #[], .pointer (some ⟨bt, 0, none⟩), .pointer (some ⟨bs, 0, none⟩)] w0 (fun _ w' => (∃ V, C 0 V w') ∧ R w') := by
 have hR : ∀ W W', R W → Ext W W' → R W' := fun W W' h u => hH.keep h u (fun h => h) (fun h => h)
 refine f_enter (N := 53) Try.func93 rfl rfl rfl (c_block (c_loop (γ := Int × VG) (fun gg => [(0, .func (.yield l) #[] #[]), (1, .pointer (some ⟨bt, 0, none⟩)), (2, .pointer (some ⟨bs, 0, none⟩))]) (fun gg w => Upd (fun i => (fun _ => True) i) w0 w ∧ (C gg.1 gg.2 w) ∧ (R w)) (fun gg => gg.1.toNat) (t0, V0) ⟨rfl, rfl, rfl, trivial⟩ ⟨Upd.refl _ _, hc, hr⟩ ?_))
 intro gg w2 hW K1 hK1
 obtain ⟨t, V⟩ := gg
 change WC _ _ _ _ _ _ [(0, .func (.yield l) #[] #[]), (1, .pointer (some ⟨bt, 0, none⟩)), (2, .pointer (some ⟨bs, 0, none⟩))] _
 change Upd (fun i => (fun _ => True) i) w0 w2 ∧ (C t V w2) ∧ (R w2) at hW
 obtain ⟨u3, I4, I5⟩ := hW
 have zu3 := u3.size
 have hCk := I4; clear I4
 have hRk := I5; clear I5
 have hG := hC _ _ _ hCk
 obtain ⟨q, hq⟩ : ∃ q, nth V.hl i = q := ⟨_, rfl⟩
 have hm := hG.voy.hold _ (nth_mem hG.hi)
 have hpf := hG.hp
 have hrg := hG.rng
 have htn := hG.tons
 have hln := hG.len
 rw [hq] at hm hpf hrg htn hln
 have hBp : Blk w2 pf 122 q.cells := hpf ▸ hm.blk
 have hBt := hG.tb
 have hBs := hG.sb
 have hAq := hm.lays.acc
 have n1 := hBs.neT hBp (by decide)
 have n2 := hBs.neT hBt (by decide)
 have n3 := hBt.neT hBp (by decide)
 have n4 : base ≤ q.g → q.g ≠ pf := fun h => hAq.neB hBp (by decide) h
 have n5 : base ≤ q.g → q.g ≠ bt := fun h => hAq.neB hBt (by decide) h
 have n6 : base ≤ q.g → q.g ≠ bs := fun h => hAq.neB hBs (by decide) h
 have l1 := hBt.lt
 have l2 := hBs.lt
 have l3 := hBp.lt
 have l4 := hAq.lt
 have lt_q_g := hAq.lt
 refine c_seq fun K7 hK7 => (c_seq fun K8 hK8 => (c_region (t_load Try.isAgg3 rfl rfl rfl (hBt.get rfl) (t_cmp rfl rfl rfl rfl rfl (t_nil' (hK8 _ _ (c_condp rfl (fun g7 => ?_) (fun g7 => ?_))))))))
 ·
  have hpos : 0 < q.xs.length := sumT_pos (by omega)
  have hgb := hAq.base_le hpos
  have n4b := n4 hgb
  have n5b := n5 hgb
  have n6b := n6 hgb
  have k1 := hH.cell hRk hBt
  have k2 := hH.cell hRk hBp
  have k3 := hAq.cellR hH hRk hgb
  have hto := htn _ (topL_mem hpos)
  unfold topL at hto
  refine c_skip (hK7 _ _ (c_block (c_seq fun K9 hK9 => (c_drawnQ follows (by kernel_rfl) (p_load Try.isAgg182 rfl rfl rfl (hBs.get rfl) (p_nilchk rfl rfl rfl (p_load Try.isAgg120 rfl rfl rfl (hBp.get rfl) (p_load Try.isAgg182 rfl rfl rfl (hBs.get rfl) (p_nilchk rfl rfl rfl (p_load Try.isAgg120 rfl rfl rfl (hBp.get rfl) (p_len Try.underlying120 rfl rfl rfl rfl (p_ari rfl rfl rfl rfl rfl (by omega) ?_))))))))))))
  have i11 : (q.xs.length - 1) < q.xs.length := (by omega)
  refine p_index (j := (q.xs.length - 1)) Try.underlying120 Try.sizeOf97 rfl rfl rfl rfl ((hAq.sl (fun _ => rfl)).addr (by omega)) (by omega) i11 (p_assign rfl rfl rfl (p_nil fun w12 u13 => ?_))
  have zu13 := u13.size
  refine t_nil' (hK9 _ _ (c_seq fun K15 hK15 => (c_region (t_move rfl rfl rfl (t_nilchk rfl rfl rfl ?_)))))
  have D16 := (hAq.keep u13 (fun _ h => h))
  refine t_loadN (vs := [.int .i64 ((nth q.xs (q.xs.length - 1)).v.bill), .int .i64 ((nth q.xs (q.xs.length - 1)).v.tons), .slice ((nth q.xs (q.xs.length - 1)).ao) (((nth q.xs (q.xs.length - 1)).v.path).length) ((nth q.xs (q.xs.length - 1)).cap)]) Try.isAgg97 Try.sizeOf97 rfl rfl rfl (((D16.sl (fun _ => rfl)).at_ (q.xs.length - 1) (by omega)).sub 0 3) rfl (t_alloc (cs := [.int .i64 0, .int .i64 0, .slice none 0 0]) Try.zeroValue97 rfl rfl rfl (fun bk17 w18 ebk17 sbk17 B19 u20 => ?_))
  have zu20 := u20.size
  refine t_st (vs := [.int .i64 ((nth q.xs (q.xs.length - 1)).v.bill), .int .i64 ((nth q.xs (q.xs.length - 1)).v.tons), .slice ((nth q.xs (q.xs.length - 1)).ao) (((nth q.xs (q.xs.length - 1)).v.path).length) ((nth q.xs (q.xs.length - 1)).cap)]) Try.sizeOf97 rfl rfl rfl B19 rfl rfl rfl rfl (fun w22 sw22 B24 u23 => ?_)
  have zu23 := u23.size
  have B24 : Blk w22 bk17 97 [.int .i64 ((nth q.xs (q.xs.length - 1)).v.bill), .int .i64 ((nth q.xs (q.xs.length - 1)).v.tons), .slice ((nth q.xs (q.xs.length - 1)).ao) (((nth q.xs (q.xs.length - 1)).v.path).length) ((nth q.xs (q.xs.length - 1)).cap)] := B24
  refine t_nil' (hK15 _ _ (c_seq fun K26 hK26 => (c_seq fun K27 hK27 => (c_region (t_field Try.underlying97 rfl Try.sizeOf3 (1) rfl rfl rfl rfl (t_load Try.isAgg3 rfl rfl rfl (B24.get rfl) ?_))))))
  have B28 := (((hBt.kx u13).kx u20).keep u23 (by omega))
  refine t_load Try.isAgg3 rfl rfl rfl (B28.get rfl) (t_cmp rfl rfl rfl rfl rfl (t_nil' (hK27 _ _ (c_condp rfl (fun g23 => ?_) (fun g23 => ?_)))))
  ·
   refine c_seq fun K29 hK29 => (c_region (t_load Try.isAgg3 rfl rfl rfl (B28.get rfl) (t_field Try.underlying97 rfl Try.sizeOf3 (1) rfl rfl rfl rfl (t_st (vs := [.int .i64 t]) Try.sizeOf3 rfl rfl rfl B24 rfl rfl rfl rfl (fun w30 sw30 B32 u31 => ?_)))))
   have zu31 := u31.size
   have B32 : Blk w30 bk17 97 [.int .i64 ((nth q.xs (q.xs.length - 1)).v.bill), .int .i64 t, .slice ((nth q.xs (q.xs.length - 1)).ao) (((nth q.xs (q.xs.length - 1)).v.path).length) ((nth q.xs (q.xs.length - 1)).cap)] := B32
   refine t_nil' (hK29 _ _ (c_drawnR follows 6 (by kernel_rfl) (p_move rfl rfl rfl (p_nilchk rfl rfl rfl (p_field Try.underlying97 rfl Try.sizeOf3 (0 + (q.xs.length - 1) * 3 + 1) rfl rfl rfl rfl ?_)))))
   have D36 := (((D16.keep u20 (fun _ h => h)).keep u23 (fun hb => show ¬ (q.g = bk17) by first | omega | assumption)).keep u31 (fun hb => show ¬ (q.g = bk17) by first | omega | assumption))
   refine p_load Try.isAgg3 rfl rfl rfl (((D36.sl (fun _ => rfl)).at_ (q.xs.length - 1) (by omega)) 1 _ rfl) ?_
   have B37 := (B28.keep u31 (by omega))
   refine p_load Try.isAgg3 rfl rfl rfl (B37.get rfl) (p_ari rfl rfl rfl rfl rfl (by omega) (p_nil fun w38 u39 => ?_))
   have zu39 := u39.size
   refine t_nilchk rfl rfl rfl (t_field Try.underlying97 rfl Try.sizeOf3 (0 + (q.xs.length - 1) * 3 + 1) rfl rfl rfl rfl ?_)
   have D41 := (D36.keep u39 (fun _ h => h))
   refine t_storeA (vs := [.int .i64 (((nth q.xs (q.xs.length - 1)).v.tons) - t)]) (j := (q.xs.length - 1)) (o' := 1) (k := 3) ((nth q.xs (q.xs.length - 1)).withT (((nth q.xs (q.xs.length - 1)).v.tons) - t)) (fun _ => rfl) Try.sizeOf3 rfl rfl (by omega) rfl D41 (by omega) rfl rfl (by decide) (by simp [Value.oneCell']) rfl (fun w42 R44 u43 => ?_)
   have zu43 := u43.size
   refine t_nil' (hK26 _ _ (c_seq fun K46 hK46 => (c_region ?_)))
   have B47 := ((B37.kx u39).keep u43 (by omega))
   refine t_load Try.isAgg3 rfl rfl rfl (B47.get rfl) (t_field Try.underlying97 rfl Try.sizeOf3 (1) rfl rfl rfl rfl ?_)
   have B48 := ((B32.kx u39).keep u43 (by omega))
   refine t_load Try.isAgg3 rfl rfl rfl (B48.get rfl) (t_ari rfl rfl rfl rfl rfl (by omega) (t_st (vs := [.int .i64 (t - t)]) Try.sizeOf3 rfl rfl rfl B47 rfl rfl rfl rfl (fun w49 sw49 B51 u50 => ?_)))
   have zu50 := u50.size
   have B51 : Blk w49 bt 3 [.int .i64 (t - t)] := B51
   refine t_nil' (hK46 _ _ (c_seq fun K53 hK53 => (c_region (t_move rfl rfl rfl ?_))))
   have B54 := (B48.keep u50 (by omega))
   refine t_loadN (vs := [.int .i64 ((nth q.xs (q.xs.length - 1)).v.bill), .int .i64 t, .slice ((nth q.xs (q.xs.length - 1)).ao) (((nth q.xs (q.xs.length - 1)).v.path).length) ((nth q.xs (q.xs.length - 1)).cap)]) Try.isAgg97 Try.sizeOf97 rfl rfl rfl (B54.at.sub 0 3) rfl ?_
   have B55 := (((((((hBp.kx u13).kx u20).keep u23 (by omega)).keep u31 (by omega)).kx u39).keep u43 (by omega)).keep u50 (by omega))
   have D56 := (R44.keep u50 (fun hb => show ¬ (q.g = bt) by first | omega | assumption))
   have hpop : Pop q.xs t ((nth q.xs (q.xs.length - 1)).withT t) (q.xs.set (q.xs.length - 1) ((nth q.xs (q.xs.length - 1)).withT ((nth q.xs (q.xs.length - 1)).v.tons - t))) := .inl ⟨g23, rfl, rfl⟩
   have hux := ((((((((Upd.refl (fun k => k = bt ∨ k = pf ∨ (k = q.g ∧ base ≤ k)) w2).next u13 (fun _ _ h => h.elim)).next u20 (fun _ _ h => h.elim)).next u23 (fun i hi (h : i = bk17) => show i = bt ∨ i = pf ∨ (i = q.g ∧ base ≤ i) by first | omega | assumption)).next u31 (fun i hi (h : i = bk17) => show i = bt ∨ i = pf ∨ (i = q.g ∧ base ≤ i) by first | omega | assumption)).next u39 (fun _ _ h => h.elim)).next u43 (fun i hi (h : i = q.g) => show i = bt ∨ i = pf ∨ (i = q.g ∧ base ≤ i) by first | omega | assumption)).next u50 (fun i hi (h : i = bt) => show i = bt ∨ i = pf ∨ (i = q.g ∧ base ≤ i) by first | omega | assumption))
   have hGn := hG.pop (by omega) hq hpop hux (by show Blk _ _ _ [.int .i64 q.hull, .int .i64 q.cap, .slice q.ao (List.length (q.xs.set _ _)) q.cp, .bool q.sealed]; rw [List.length_set]; exact B55) D56 (by exact B51) ⟨n1, fun h => (n6 h).symm, n2⟩
   have hMn := hM _ _ _ _ _ _ _ hCk (by omega) hq hpop hux hGn.1 hGn.2.1 hGn.2.2
   have D57 := (hH.keep (hH.keep (hH.keep (hH.keep (hH.keep (hH.keep (hH.keep hRk u13 (show ¬ (False) by first | omega | exact id) (show ¬ (False) by first | omega | exact id)) u20 (show ¬ (False) by first | omega | exact id) (show ¬ (False) by first | omega | exact id)) u23 (show ¬ (l = bk17) by first | omega | exact id) (show ¬ (D = bk17) by first | omega | exact id)) u31 (show ¬ (l = bk17) by first | omega | exact id) (show ¬ (D = bk17) by first | omega | exact id)) u39 (show ¬ (False) by first | omega | exact id) (show ¬ (False) by first | omega | exact id)) u43 (show ¬ (l = q.g) by first | omega | exact id) (show ¬ (D = q.g) by first | omega | exact id)) u50 (show ¬ (l = bt) by first | omega | exact id) (show ¬ (D = bt) by first | omega | exact id))
   refine t_yield (vs := [.agg #[.int .i64 ((nth q.xs (q.xs.length - 1)).v.bill), .int .i64 t, .slice ((nth q.xs (q.xs.length - 1)).ao) (((nth q.xs (q.xs.length - 1)).v.path).length) ((nth q.xs (q.xs.length - 1)).cap)]]) rfl rfl rfl rfl (hH.hand ⟨((nth q.xs (q.xs.length - 1)).withT t), _, _, w49⟩ _ ⟨hMn, (by omega), Upd.refl _ _⟩ D57) (by rintro e w' ⟨rfl, _⟩; exact ⟨_, rfl⟩) (fun v58 w59 r60 => ?_)
   obtain ⟨hvr60, hrr60⟩ := r60
   injection hvr60 with hvr60
   subst hvr60
   obtain ⟨⟨⟨Vz, hzC⟩, u61⟩, hzR⟩ := hrr60
   have zu61 := u61.size
   obtain ⟨tz, htz⟩ : ∃ tz, t - (((nth q.xs (q.xs.length - 1)).withT t)).v.tons = tz := ⟨_, rfl⟩
   have htp : 0 < (((nth q.xs (q.xs.length - 1)).withT t)).v.tons := by show 0 < t; omega
   simp only [htz] at hzC
   refine t_not rfl rfl rfl (t_nil' (hK53 _ _ (c_cond_f rfl (c_skip ?_))))
   exact hK1 (tz, Vz) _ _ (by show tz.toNat < t.toNat; omega) ⟨rfl, rfl, rfl, trivial⟩ ⟨((((((((u3.next u13 (fun _ _ h => h.elim)).next u20 (fun _ _ h => h.elim)).next u23 (fun _ _ _ => trivial)).next u31 (fun _ _ _ => trivial)).next u39 (fun _ _ h => h.elim)).next u43 (fun _ _ _ => trivial)).next u50 (fun _ _ _ => trivial)).next u61 (fun _ _ _ => trivial)), hzC, hzR⟩
  have hcapq : q.xs.length - 1 ≤ q.cp := Nat.le_trans (Nat.sub_le _ _) hAq.cap_le
  have B63 := (((hBs.kx u13).kx u20).keep u23 (by omega))
  refine c_drawnS follows 12 10 [some (34, some (.pointer (some ⟨pf, 2, none⟩))), some (35, some (.pointer (some ⟨pf, 2, none⟩))), some (36, some (.pointer (some ⟨pf, 2, none⟩))), some (37, some (.slice q.ao q.xs.length q.cp)), some (38, some (.pointer (some ⟨pf, 2, none⟩))), some (39, some (.pointer (some ⟨pf, 2, none⟩))), some (40, some (.slice q.ao q.xs.length q.cp)), some (41, some (.int .i64 (q.xs.length : Int))), some (42, some (.int .i64 ((q.xs.length : Int) - 1))), some (43, some (.slice (subAddr q.ao q.cp 0 3) (q.xs.length - 1) q.cp))] [[],[],[1],[2],[],[4],[5],[6],[7],[3,8],[0,0,1,2,3,4,5,6,7,8,9],[10,9,0,1,2,3,4,5,6,7,8,9]] (fun _ _ w => Upd (fun _ => False) w22 w) rfl rfl rfl rfl (by kernel_rfl) (by kernel_rfl) (by kernel_rfl) (Upd.drew _).to ⟨?_, ?_, ?_, ?_, ?_, ?_, ?_, ?_, ?_, ?_, trivial⟩ ?_
  ·
   intro D ρ w65 hcD hnD hdD hW
   have zhW := hW.size
   refine ⟨_, kf_fr [2], fun Lr => ?_⟩
   have B68 := (B63.kx hW)
   refine t_load Try.isAgg182 rfl rfl rfl (B68.get rfl) ?_
   exact dz rfl hW
  ·
   intro D ρ w69 hcD hnD hdD hW
   have zhW := hW.size
   refine ⟨_, kf_fr [2], fun Lr => ?_⟩
   have B72 := (B63.kx hW)
   refine t_load Try.isAgg182 rfl rfl rfl (B72.get rfl) ?_
   exact dz rfl hW
  · exact pz rfl rfl rfl rfl fun _ _ _ h => h
  ·
   intro D ρ w73 hcD hnD hdD hW
   have zhW := hW.size
   refine ⟨_, kf_fr [36], fun Lr => ?_⟩
   have B76 := ((((hBp.kx u13).kx u20).keep u23 (by omega)).kx hW)
   refine t_load Try.isAgg120 rfl rfl rfl (B76.get rfl) ?_
   exact dz rfl hW
  ·
   intro D ρ w77 hcD hnD hdD hW
   have zhW := hW.size
   refine ⟨_, kf_fr [2], fun Lr => ?_⟩
   have B80 := (B63.kx hW)
   refine t_load Try.isAgg182 rfl rfl rfl (B80.get rfl) ?_
   exact dz rfl hW
  · exact pz rfl rfl rfl rfl fun _ _ _ h => h
  ·
   intro D ρ w81 hcD hnD hdD hW
   have zhW := hW.size
   refine ⟨_, kf_fr [39], fun Lr => ?_⟩
   have B84 := ((((hBp.kx u13).kx u20).keep u23 (by omega)).kx hW)
   refine t_load Try.isAgg120 rfl rfl rfl (B84.get rfl) ?_
   exact dz rfl hW
  ·
   intro D ρ w85 hcD hnD hdD hW
   have zhW := hW.size
   refine ⟨_, kf_fr [40], fun Lr => ?_⟩
   refine t_len Try.underlying120 rfl rfl rfl rfl ?_
   exact dz rfl hW
  ·
   intro D ρ w88 hcD hnD hdD hW
   have zhW := hW.size
   refine ⟨_, kf_fr [41], fun Lr => ?_⟩
   refine t_ari rfl rfl rfl rfl rfl (by omega) ?_
   exact dz rfl hW
  ·
   intro D ρ w91 hcD hnD hdD hW
   have zhW := hW.size
   refine ⟨_, kf_fr [37, 42], fun Lr => ?_⟩
   refine t_sliceTo (q.xs.length - 1) Try.underlying120 Try.sizeOf97 rfl rfl rfl rfl (by omega) hcapq ?_
   exact dz rfl hW
  intro ρ w94 hW
  have u95 : Upd (fun _ => False) w22 w94 := hW
  have zu95 := u95.size
  refine t_weak [(0, .func (.yield l) #[] #[]), (1, .pointer (some ⟨bt, 0, none⟩)), (2, .pointer (some ⟨bs, 0, none⟩)), (4, .pointer (some ⟨q.g, 0 + (q.xs.length - 1) * 3, none⟩)), (5, .pointer (some ⟨bk17, 0, none⟩)), (6, .int .i64 t), (7, .bool (decide (0 < t))), (8, .pointer (some ⟨pf, 2, none⟩)), (9, .pointer (some ⟨pf, 2, none⟩)), (10, .slice q.ao q.xs.length q.cp), (11, .pointer (some ⟨pf, 2, none⟩)), (12, .pointer (some ⟨pf, 2, none⟩)), (13, .slice q.ao q.xs.length q.cp), (14, .int .i64 (q.xs.length : Int)), (15, .int .i64 ((q.xs.length : Int) - 1)), (16, .pointer (some ⟨q.g, 0 + (q.xs.length - 1) * 3, none⟩)), (17, .pointer (some ⟨q.g, 0 + (q.xs.length - 1) * 3, none⟩)), (18, .pointer (some ⟨q.g, 0 + (q.xs.length - 1) * 3, none⟩)), (19, .agg #[.int .i64 ((nth q.xs (q.xs.length - 1)).v.bill), .int .i64 ((nth q.xs (q.xs.length - 1)).v.tons), .slice ((nth q.xs (q.xs.length - 1)).ao) (((nth q.xs (q.xs.length - 1)).v.path).length) ((nth q.xs (q.xs.length - 1)).cap)]), (20, .pointer (some ⟨bk17, 1, none⟩)), (21, .int .i64 ((nth q.xs (q.xs.length - 1)).v.tons)), (22, .int .i64 t), (23, .bool (decide (t < (nth q.xs (q.xs.length - 1)).v.tons))), (34, .pointer (some ⟨pf, 2, none⟩)), (35, .pointer (some ⟨pf, 2, none⟩)), (36, .pointer (some ⟨pf, 2, none⟩)), (37, .slice q.ao q.xs.length q.cp), (38, .pointer (some ⟨pf, 2, none⟩)), (39, .pointer (some ⟨pf, 2, none⟩)), (40, .slice q.ao q.xs.length q.cp), (41, .int .i64 (q.xs.length : Int)), (42, .int .i64 ((q.xs.length : Int) - 1)), (43, .slice (subAddr q.ao q.cp 0 3) (q.xs.length - 1) q.cp)] ⟨rfl, rfl, rfl, rfl, rfl, rfl, rfl, rfl, rfl, rfl, rfl, rfl, rfl, rfl, rfl, rfl, rfl, rfl, rfl, rfl, rfl, rfl, rfl, rfl, rfl, rfl, rfl, rfl, rfl, rfl, rfl, rfl, rfl, trivial⟩ (t_nilchk rfl rfl rfl ?_)
  have B97 := ((((hBp.kx u13).kx u20).keep u23 (by omega)).kx u95)
  refine t_st (vs := [.slice (subAddr q.ao q.cp 0 3) (q.xs.length - 1) q.cp]) Try.sizeOf120 rfl rfl rfl B97 rfl rfl rfl rfl (fun w98 sw98 B100 u99 => ?_)
  have zu99 := u99.size
  have B100 : Blk w98 pf 122 [.int .i64 q.hull, .int .i64 q.cap, .slice (subAddr q.ao q.cp 0 3) (q.xs.length - 1) q.cp, .bool q.sealed] := B100
  refine t_nil' (hK26 _ _ (c_seq fun K102 hK102 => (c_region ?_)))
  have B103 := ((B28.kx u95).keep u99 (by omega))
  refine t_load Try.isAgg3 rfl rfl rfl (B103.get rfl) (t_field Try.underlying97 rfl Try.sizeOf3 (1) rfl rfl rfl rfl ?_)
  have B104 := ((B24.kx u95).keep u99 (by omega))
  refine t_load Try.isAgg3 rfl rfl rfl (B104.get rfl) (t_ari rfl rfl rfl rfl rfl (by omega) (t_st (vs := [.int .i64 (t - ((nth q.xs (q.xs.length - 1)).v.tons))]) Try.sizeOf3 rfl rfl rfl B103 rfl rfl rfl rfl (fun w105 sw105 B107 u106 => ?_)))
  have zu106 := u106.size
  have B107 : Blk w105 bt 3 [.int .i64 (t - ((nth q.xs (q.xs.length - 1)).v.tons))] := B107
  refine t_nil' (hK102 _ _ (c_seq fun K109 hK109 => (c_region (t_move rfl rfl rfl ?_))))
  have B110 := (B104.keep u106 (by omega))
  refine t_loadN (vs := [.int .i64 ((nth q.xs (q.xs.length - 1)).v.bill), .int .i64 ((nth q.xs (q.xs.length - 1)).v.tons), .slice ((nth q.xs (q.xs.length - 1)).ao) (((nth q.xs (q.xs.length - 1)).v.path).length) ((nth q.xs (q.xs.length - 1)).cap)]) Try.isAgg97 Try.sizeOf97 rfl rfl rfl (B110.at.sub 0 3) rfl ?_
  have B111 := (B100.keep u106 (by omega))
  have D112 := (((((D16.keep u20 (fun _ h => h)).keep u23 (fun hb => show ¬ (q.g = bk17) by first | omega | assumption)).keep u95 (fun _ h => h)).keep u99 (fun hb => show ¬ (q.g = pf) by first | omega | assumption)).keep u106 (fun hb => show ¬ (q.g = bt) by first | omega | assumption))
  have hpop : Pop q.xs t (nth q.xs (q.xs.length - 1)) (q.xs.take (q.xs.length - 1)) := .inr ⟨g23, rfl, rfl⟩
  have hux := (((((((Upd.refl (fun k => k = bt ∨ k = pf ∨ (k = q.g ∧ base ≤ k)) w2).next u13 (fun _ _ h => h.elim)).next u20 (fun _ _ h => h.elim)).next u23 (fun i hi (h : i = bk17) => show i = bt ∨ i = pf ∨ (i = q.g ∧ base ≤ i) by first | omega | assumption)).next u95 (fun _ _ h => h.elim)).next u99 (fun i hi (h : i = pf) => show i = bt ∨ i = pf ∨ (i = q.g ∧ base ≤ i) by first | omega | assumption)).next u106 (fun i hi (h : i = bt) => show i = bt ∨ i = pf ∨ (i = q.g ∧ base ≤ i) by first | omega | assumption))
  have hGn := hG.pop (by omega) hq hpop hux (by show Blk _ _ _ [.int .i64 q.hull, .int .i64 q.cap, .slice q.ao (List.length (q.xs.take _)) q.cp, .bool q.sealed]; rw [List.length_take, Nat.min_eq_left (Nat.sub_le _ _)]; have h := B111; rw [subAddr0] at h; exact h) (D112.take (fun _ => rfl) _) (by exact B107) ⟨n1, fun h => (n6 h).symm, n2⟩
  have hMn := hM _ _ _ _ _ _ _ hCk (by omega) hq hpop hux hGn.1 hGn.2.1 hGn.2.2
  have D113 := (hH.keep (hH.keep (hH.keep (hH.keep (hH.keep (hH.keep hRk u13 (show ¬ (False) by first | omega | exact id) (show ¬ (False) by first | omega | exact id)) u20 (show ¬ (False) by first | omega | exact id) (show ¬ (False) by first | omega | exact id)) u23 (show ¬ (l = bk17) by first | omega | exact id) (show ¬ (D = bk17) by first | omega | exact id)) u95 (show ¬ (False) by first | omega | exact id) (show ¬ (False) by first | omega | exact id)) u99 (show ¬ (l = pf) by first | omega | exact id) (show ¬ (D = pf) by first | omega | exact id)) u106 (show ¬ (l = bt) by first | omega | exact id) (show ¬ (D = bt) by first | omega | exact id))
  refine t_yield (vs := [.agg #[.int .i64 ((nth q.xs (q.xs.length - 1)).v.bill), .int .i64 ((nth q.xs (q.xs.length - 1)).v.tons), .slice ((nth q.xs (q.xs.length - 1)).ao) (((nth q.xs (q.xs.length - 1)).v.path).length) ((nth q.xs (q.xs.length - 1)).cap)]]) rfl rfl rfl rfl (hH.hand ⟨(nth q.xs (q.xs.length - 1)), _, _, w105⟩ _ ⟨hMn, (by omega), Upd.refl _ _⟩ D113) (by rintro e w' ⟨rfl, _⟩; exact ⟨_, rfl⟩) (fun v114 w115 r116 => ?_)
  obtain ⟨hvr116, hrr116⟩ := r116
  injection hvr116 with hvr116
  subst hvr116
  obtain ⟨⟨⟨Vz, hzC⟩, u117⟩, hzR⟩ := hrr116
  have zu117 := u117.size
  obtain ⟨tz, htz⟩ : ∃ tz, t - ((nth q.xs (q.xs.length - 1))).v.tons = tz := ⟨_, rfl⟩
  have htp : 0 < ((nth q.xs (q.xs.length - 1))).v.tons := by show 0 < (nth q.xs (q.xs.length - 1)).v.tons; omega
  simp only [htz] at hzC
  refine t_not rfl rfl rfl (t_nil' (hK109 _ _ (c_cond_f rfl (c_skip ?_))))
  exact hK1 (tz, Vz) _ _ (by show tz.toNat < t.toNat; omega) ⟨rfl, rfl, rfl, trivial⟩ ⟨(((((((u3.next u13 (fun _ _ h => h.elim)).next u20 (fun _ _ h => h.elim)).next u23 (fun _ _ _ => trivial)).next u95 (fun _ _ h => h.elim)).next u99 (fun _ _ _ => trivial)).next u106 (fun _ _ _ => trivial)).next u117 (fun _ _ _ => trivial)), hzC, hzR⟩
 refine c_exit (f_ret0 Try.results93 ?_)
 exact ⟨⟨_, (by rw [show (0 : Int) = t by omega]; exact hCk)⟩, hRk⟩

end Go.Proofs.Ytblkphbblkncdaa
