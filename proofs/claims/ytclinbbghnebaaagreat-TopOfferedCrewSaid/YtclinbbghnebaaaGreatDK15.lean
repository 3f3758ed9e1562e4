/-
  Part 15 of the proof: contracts and plain laws. Conditions: none.
-/
import Derived.Test.YtclinbbghnebaaaGreatDK14
namespace Go.Proofs.YtclinbbghnebaaaGreat
open Go Go.RowKit
set_option maxRecDepth 10000

/-- One offer's times: when the hull leaves for it, when it begins, when it ends. -/
structure It where
  lv : Int
  b : Int
  e : Int
instance : Inhabited It := ⟨⟨default, default, default⟩⟩
def mvD (i : It) : List Dty := if i.lv < i.b then [⟨i.lv, i.lv, i.b, i.b⟩] else []
def wkD (i : It) : Dty := ⟨i.b, i.b, i.e, i.e⟩
def flD (i : It) : List Dty := mvD i ++ [wkD i]
def FD (l : List It) : List Dty := l.flatMap flD
def BD (l : List It) : List Dty := l.map wkD
def bsS (i : It) : Sp := ⟨i.b, i.e⟩
def flS (i : It) : List Sp := if i.lv < i.b then [⟨i.lv, i.b⟩, ⟨i.b, i.e⟩] else [⟨i.b, i.e⟩]
def fS (l : List It) : List Sp := l.flatMap flS
def bS (l : List It) : List Sp := l.map bsS
theorem flD_map (i : It) : (flD i).map lngS = flS i := by unfold flD mvD flS; split <;> rfl
theorem FD_map : ∀ l : List It, (FD l).map lngS = fS l
  | [] => rfl
  | i :: l => by show ((flD i) ++ FD l).map lngS = flS i ++ fS l; rw [List.map_append, flD_map, FD_map l]
theorem BD_map (l : List It) : (BD l).map lngS = bS l := by unfold BD bS; rw [List.map_map]; rfl
def Chn : Int → List It → Prop
  | _, [] => True
  | m, i :: l => (m ≤ i.lv ∧ i.lv ≤ i.b ∧ i.b ≤ i.e) ∧ Chn i.e l
def lstE : Int → List It → Int
  | m, [] => m
  | _, i :: l => lstE i.e l
theorem chn_snoc : ∀ {l : List It} {m : Int} {i : It}, Chn m l → (lstE m l ≤ i.lv ∧ i.lv ≤ i.b ∧ i.b ≤ i.e) → Chn m (l ++ [i])
  | [], _, _, _, h => ⟨h, trivial⟩
  | _ :: _, _, _, h, h' => ⟨h.1, chn_snoc h.2 h'⟩
theorem lstE_snoc : ∀ {l : List It} {m : Int} {i : It}, lstE m (l ++ [i]) = i.e
  | [], _, _ => rfl
  | _ :: l, _, _ => lstE_snoc (l := l)
theorem mem_flS {i : It} {x : Sp} (h : x ∈ flS i) (hi : i.lv ≤ i.b ∧ i.b ≤ i.e) : i.lv ≤ x.b ∧ x.b ≤ x.e ∧ x.e ≤ i.e := by
  unfold flS at h
  split at h
  · rcases List.mem_cons.1 h with e | h
    · rw [e]; dsimp only; omega
    · rw [List.mem_singleton.1 h]; dsimp only; omega
  · rw [List.mem_singleton.1 h]; dsimp only; omega
theorem chn_lin : ∀ {l : List It} {m : Int}, Chn m l → (∀ x ∈ fS l, m ≤ x.b ∧ x.b ≤ x.e) ∧ Lin (fS l)
  | [], _, _ => ⟨fun x hx => (by cases hx), List.Pairwise.nil⟩
  | i :: l, m, h => by
    obtain ⟨ih1, ih2⟩ := chn_lin h.2
    have h1 := h.1
    have e : fS (i :: l) = flS i ++ fS l := rfl
    rw [e]
    refine ⟨fun x hx => ?_, ?_⟩
    · rcases List.mem_append.1 hx with q | q
      · have := mem_flS q h1.2; omega
      · have := ih1 x q; omega
    · unfold Lin
      rw [List.pairwise_append]
      refine ⟨?_, ih2, fun x hx y hy => ?_⟩
      · unfold flS
        split
        · refine List.Pairwise.cons (fun y hy => ?_) (List.pairwise_singleton _ _)
          rw [List.mem_singleton.1 hy]; exact Int.le_refl _
        · exact List.pairwise_singleton _ _
      · have q1 := mem_flS hx h1.2
        have q2 := ih1 y hy
        omega
theorem chn_linB : ∀ {l : List It} {m : Int}, Chn m l → (∀ x ∈ bS l, m ≤ x.b ∧ x.b ≤ x.e) ∧ Lin (bS l)
  | [], _, _ => ⟨fun x hx => (by cases hx), List.Pairwise.nil⟩
  | i :: l, m, h => by
    obtain ⟨ih1, ih2⟩ := chn_linB h.2
    have h1 := h.1
    have e : bS (i :: l) = bsS i :: bS l := rfl
    rw [e]
    refine ⟨fun x hx => ?_, List.Pairwise.cons (fun y hy => ?_) ih2⟩
    · rcases List.mem_cons.1 hx with q | q
      · rw [q]; show m ≤ i.b ∧ i.b ≤ i.e; omega
      · have := ih1 x q; omega
    · have := ih1 y hy
      show i.e ≤ y.b; omega
theorem srt_lin : ∀ {l : List Sp}, (∀ x ∈ l, x.b ≤ x.e) → Lin l → srtS l = l
  | [], _, _ => rfl
  | s :: l, h, hl => by
    have ih := srt_lin (l := l) (fun x hx => h x (List.mem_cons_of_mem _ hx)) (List.Pairwise.of_cons hl)
    show insS s (srtS l) = s :: l
    rw [ih]
    cases l with
    | nil => rfl
    | cons x l =>
      have h1 : s.e ≤ x.b := List.rel_of_pairwise_cons hl (by simp)
      have h2 := h s (by simp)
      have h3 := h x (by simp)
      rw [insS, if_neg (by unfold LtS; omega)]
theorem brok_no1 {r : Rul} {l : List Sp} (h : ovlP 0 l = false) : brokP r l ≠ 1 := by
  unfold brokP
  rw [if_neg (by rw [h]; exact Bool.false_ne_true)]
  split
  · decide
  · split
    · decide
    · split <;> decide
/-- Times one after another: no duty begins before the end of one before it. -/
theorem rule_no1 {r : Rul} {D : List Dty} {a rule e : Int} {pos : Bool} (hr : okRul r = true) (hl : D.length ≤ 20) (hd : ∀ d ∈ D, okDty d = true) (hx : ∀ x ∈ D.map lngS, 0 ≤ x.b ∧ x.b ≤ x.e) (hL : Lin (D.map lngS)) (h : RestA r D a rule pos e) : chkRD r D = 0 ∧ e = 0 ∧ rule ≠ 1 := by
  have hc : chkRD r D = 0 := by
    unfold chkRD chkR chkD
    rw [if_pos hr, if_neg (by decide), if_neg (by omega), if_neg]
    intro hc
    obtain ⟨d, hd9, hq⟩ := List.any_eq_true.1 hc
    rw [hd d hd9] at hq; cases hq
  refine ⟨hc, ?_⟩
  rcases h with ⟨q, _⟩ | ⟨_, h1, h2, _⟩
  · exact absurd hc q
  · refine ⟨h1, ?_⟩
    rcases h2 with ⟨_, h3, _⟩ | ⟨k, _, _, h3, _, _⟩
    · rw [h3]; decide
    · rw [h3]
      unfold brkK
      have hs : ((D.take (k + 1)).map lngS).Sublist (D.map lngS) := (List.take_sublist _ _).map _
      have hx2 : ∀ x ∈ (D.take (k + 1)).map lngS, 0 ≤ x.b ∧ x.b ≤ x.e := fun x hm => hx x (hs.subset hm)
      have hL2 : Lin ((D.take (k + 1)).map lngS) := List.Pairwise.sublist hs hL
      rw [srt_lin (fun x hm => (hx2 x hm).2) hL2]
      exact brok_no1 (ovl_lin.2 ⟨fun x hm => (hx2 x hm).1, hL2⟩)
theorem chk_0 {r : Rul} {D : List Dty} (hr : okRul r = true) (hl : D.length ≤ 20) (hd : ∀ d ∈ D, okDty d = true) : chkRD r D = 0 := by
  unfold chkRD chkR chkD
  rw [if_pos hr, if_neg (by decide), if_neg (by omega), if_neg]
  intro hc
  obtain ⟨d, hd9, hq⟩ := List.any_eq_true.1 hc
  rw [hd d hd9] at hq; cases hq
/-! Shifts -/
def totW : List Shf → Int
  | [] => 0
  | x :: l => x.w + totW l
theorem totW_app : ∀ a b : List Shf, totW (a ++ b) = totW a + totW b
  | [], b => by show totW b = 0 + totW b; omega
  | x :: a, b => by show x.w + totW (a ++ b) = x.w + totW a + totW b; rw [totW_app a b]; omega
def wk : List Sp → Int
  | [] => 0
  | s :: l => (s.e - s.b) + wk l
theorem wk_app : ∀ a b : List Sp, wk (a ++ b) = wk a + wk b
  | [], b => by show wk b = 0 + wk b; omega
  | x :: a, b => by show (x.e - x.b) + wk (a ++ b) = (x.e - x.b) + wk a + wk b; rw [wk_app a b]; omega
theorem tot_shGo (r : Rul) : ∀ (l : List Sp) (X : Shf), totW (shGo r X l) = X.w + wk l
  | [], X => rfl
  | s :: l, X => by
    rw [shGo]
    split
    · rw [tot_shGo r l]; show X.w + (s.e - s.b) + wk l = X.w + ((s.e - s.b) + wk l); omega
    · show X.w + totW (shGo r ⟨s.b, s.e, s.e - s.b⟩ l) = X.w + ((s.e - s.b) + wk l)
      rw [tot_shGo r l]
theorem tot_shifts (r : Rul) : ∀ l : List Sp, totW (shiftsP r l) = wk l
  | [] => rfl
  | s :: l => by show totW (shGo r ⟨s.b, s.e, s.e - s.b⟩ l) = _; rw [tot_shGo]; rfl
theorem shGo_nn (r : Rul) : ∀ (l : List Sp) (X : Shf), 0 ≤ X.w → (∀ x ∈ l, x.b ≤ x.e) → ∀ y ∈ shGo r X l, 0 ≤ y.w
  | [], X, h, _, y, hy => by rw [List.mem_singleton.1 hy]; exact h
  | s :: l, X, h, hl, y, hy => by
    have h1 := hl s (by simp)
    rw [shGo] at hy
    split at hy
    · exact shGo_nn r l _ (by show 0 ≤ X.w + (s.e - s.b); omega) (fun x hx => hl x (List.mem_cons_of_mem _ hx)) y hy
    · rcases List.mem_cons.1 hy with e | hy
      · rw [e]; exact h
      · exact shGo_nn r l _ (by show 0 ≤ s.e - s.b; omega) (fun x hx => hl x (List.mem_cons_of_mem _ hx)) y hy
theorem shifts_nn (r : Rul) {l : List Sp} (hl : ∀ x ∈ l, x.b ≤ x.e) : ∀ y ∈ shiftsP r l, 0 ≤ y.w := by
  cases l with
  | nil => intro y hy; cases hy
  | cons s l => exact shGo_nn r l _ (by have := hl s (by simp); show 0 ≤ s.e - s.b; omega) (fun x hx => hl x (List.mem_cons_of_mem _ hx))
theorem totW_rng : ∀ {l : List Shf}, (∀ y ∈ l, 0 ≤ y.w) → 0 ≤ totW l ∧ ∀ k, 0 ≤ totW (l.take k) ∧ totW (l.take k) ≤ totW l
  | [], _ => ⟨Int.le_refl _, fun k => by rw [List.take_nil]; exact ⟨Int.le_refl _, Int.le_refl _⟩⟩
  | x :: l, h => by
    have h1 := h x (by simp)
    obtain ⟨i1, i2⟩ := totW_rng (l := l) (fun y hy => h y (List.mem_cons_of_mem _ hy))
    refine ⟨by show 0 ≤ x.w + totW l; omega, fun k => ?_⟩
    cases k with
    | zero => rw [List.take_zero]; exact ⟨Int.le_refl _, by show 0 ≤ x.w + totW l; omega⟩
    | succ k =>
      have := i2 k
      rw [List.take_succ_cons]
      show 0 ≤ x.w + totW (l.take k) ∧ x.w + totW (l.take k) ≤ x.w + totW l
      omega
def smW (l : List Shf) (k : Nat) : Int := totW (l.take k)
theorem smW_succ {l : List Shf} {k : Nat} (h : k < l.length) : smW l (k + 1) = smW l k + (nth l k).w := by
  unfold smW; rw [take_nth h, totW_app]; show _ + ((nth l k).w + 0) = _; omega
def mxW (l : List Shf) (k : Nat) : Int := (l.take k).foldl (fun m y => max m y.w) 0
theorem mxW_succ {l : List Shf} {k : Nat} (h : k < l.length) : mxW l (k + 1) = max (mxW l k) (nth l k).w := by
  unfold mxW; rw [take_nth h, List.foldl_append]; rfl
theorem mxW_ge {l : List Shf} : ∀ k, k ≤ l.length → 0 ≤ mxW l k ∧ ∀ i, i < k → (nth l i).w ≤ mxW l k
  | 0, _ => ⟨Int.le_refl _, fun i h => absurd h (Nat.not_lt_zero i)⟩
  | k + 1, h => by
    obtain ⟨i1, i2⟩ := mxW_ge (l := l) k (by omega)
    rw [mxW_succ (by omega)]
    refine ⟨by omega, fun i hi => ?_⟩
    rcases Nat.lt_or_ge i k with q | q
    · have := i2 i q; omega
    · rw [show i = k by omega]; omega
theorem mxW_le {l : List Shf} {M : Int} (hM : 0 ≤ M) (h : ∀ y ∈ l, y.w ≤ M) : ∀ k, k ≤ l.length → mxW l k ≤ M
  | 0, _ => hM
  | k + 1, hk => by
    rw [mxW_succ (by omega)]
    have h1 := mxW_le hM h k (by omega)
    have h2 := h _ (nth_mem (xs := l) (i := k) (by omega))
    omega
theorem mx_cmp {a b : List Shf} (h : ∀ y ∈ a, ∃ z ∈ b, y.w ≤ z.w) : mxW a a.length ≤ mxW b b.length := by
  obtain ⟨h1, h2⟩ := mxW_ge (l := b) b.length (Nat.le_refl _)
  refine mxW_le h1 (fun y hy => ?_) a.length (Nat.le_refl _)
  obtain ⟨z, hz, hw⟩ := h y hy
  obtain ⟨i, hi, rfl⟩ := List.mem_iff_getElem.1 hz
  have := h2 i hi
  rw [nth_eq hi] at this
  omega
theorem shGo_last (r : Rul) : ∀ (l : List Sp) (Z : Shf), (∀ x ∈ l, x.b ≤ x.e) → ∃ z ∈ shGo r Z l, Z.w ≤ z.w
  | [], Z, _ => ⟨Z, List.mem_singleton.2 rfl, Int.le_refl _⟩
  | s :: l, Z, h => by
    have h1 := h s (by simp)
    rw [shGo]
    split
    · obtain ⟨z, hz, hw⟩ := shGo_last r l ⟨Z.b, max Z.e s.e, Z.w + (s.e - s.b)⟩ (fun x hx => h x (List.mem_cons_of_mem _ hx))
      have hw' : Z.w + (s.e - s.b) ≤ z.w := hw
      exact ⟨z, hz, by omega⟩
    · exact ⟨Z, by simp, Int.le_refl _⟩
/-- Without the moves no shift has more work. -/
theorem sim {r : Rul} (hr : 1 ≤ r.rest) : ∀ {is : List It} {X Z : Shf}, 0 ≤ X.w → X.e = Z.e → X.w ≤ Z.w → Chn X.e is → ∀ y ∈ shGo r X (bS is), ∃ z ∈ shGo r Z (fS is), y.w ≤ z.w
  | [], X, Z, _, _, hw, _, y, hy => ⟨Z, List.mem_singleton.2 rfl, by rw [List.mem_singleton.1 hy]; exact hw⟩
  | i :: is, X, Z, h0, he, hw, hc, y, hy => by
    obtain ⟨⟨h1, h2, h3⟩, hc2⟩ := hc
    have hfl : ∀ x ∈ fS (i :: is), x.b ≤ x.e := fun x hx => ((chn_lin (m := X.e) (l := i :: is) ⟨⟨h1, h2, h3⟩, hc2⟩).1 x hx).2
    have eb : bS (i :: is) = ⟨i.b, i.e⟩ :: bS is := rfl
    rw [eb, shGo] at hy
    by_cases c : i.lv < i.b
    · have ef : fS (i :: is) = ⟨i.lv, i.b⟩ :: ⟨i.b, i.e⟩ :: fS is := by show flS i ++ fS is = _; unfold flS; rw [if_pos c]; rfl
      have step2 : ∀ Z1 : Shf, i.b ≤ Z1.e → shGo r Z1 (⟨i.b, i.e⟩ :: fS is) = shGo r ⟨Z1.b, max Z1.e i.e, Z1.w + (i.e - i.b)⟩ (fS is) := fun Z1 hz => by
        rw [shGo, if_pos (show i.b < Z1.e + r.rest by omega)]
      by_cases d : i.b < X.e + r.rest
      · rw [if_pos d] at hy
        rw [ef, shGo, if_pos (show i.lv < Z.e + r.rest by omega), step2 _ (show i.b ≤ max Z.e i.b by omega)]
        refine sim hr (X := ⟨X.b, max X.e i.e, X.w + (i.e - i.b)⟩) (by show 0 ≤ X.w + (i.e - i.b); omega) (by show max X.e i.e = max (max Z.e i.b) i.e; omega) (by show X.w + (i.e - i.b) ≤ Z.w + (i.b - i.lv) + (i.e - i.b); omega) ?_ y hy
        show Chn (max X.e i.e) is
        rw [show max X.e i.e = i.e by omega]; exact hc2
      · rw [if_neg d] at hy
        rcases List.mem_cons.1 hy with e | hy
        · obtain ⟨z, hz, hzw⟩ := shGo_last r (fS (i :: is)) Z hfl
          exact ⟨z, hz, by rw [e]; omega⟩
        · rw [ef, shGo]
          split
          · rw [step2 _ (show i.b ≤ max Z.e i.b by omega)]
            exact sim hr (X := ⟨i.b, i.e, i.e - i.b⟩) (by show 0 ≤ i.e - i.b; omega) (by show i.e = max (max Z.e i.b) i.e; omega) (by show i.e - i.b ≤ Z.w + (i.b - i.lv) + (i.e - i.b); omega) hc2 y hy
          · rw [step2 _ (show i.b ≤ i.b by omega)]
            obtain ⟨z, hz, hzw⟩ := sim hr (X := ⟨i.b, i.e, i.e - i.b⟩) (Z := ⟨i.lv, max i.b i.e, i.b - i.lv + (i.e - i.b)⟩) (by show 0 ≤ i.e - i.b; omega) (by show i.e = max i.b i.e; omega) (by show i.e - i.b ≤ i.b - i.lv + (i.e - i.b); omega) hc2 y hy
            exact ⟨z, List.mem_cons_of_mem _ hz, hzw⟩
    · have ef : fS (i :: is) = ⟨i.b, i.e⟩ :: fS is := by show flS i ++ fS is = _; unfold flS; rw [if_neg c]; rfl
      by_cases d : i.b < X.e + r.rest
      · rw [if_pos d] at hy
        rw [ef, shGo, if_pos (show i.b < Z.e + r.rest by omega)]
        refine sim hr (X := ⟨X.b, max X.e i.e, X.w + (i.e - i.b)⟩) (by show 0 ≤ X.w + (i.e - i.b); omega) (by show max X.e i.e = max Z.e i.e; omega) (by show X.w + (i.e - i.b) ≤ Z.w + (i.e - i.b); omega) ?_ y hy
        show Chn (max X.e i.e) is
        rw [show max X.e i.e = i.e by omega]; exact hc2
      · rw [if_neg d] at hy
        rcases List.mem_cons.1 hy with e | hy
        · obtain ⟨z, hz, hzw⟩ := shGo_last r (fS (i :: is)) Z hfl
          exact ⟨z, hz, by rw [e]; omega⟩
        · rw [ef, shGo, if_neg (show ¬ i.b < Z.e + r.rest by omega)]
          obtain ⟨z, hz, hzw⟩ := sim hr (X := ⟨i.b, i.e, i.e - i.b⟩) (Z := ⟨i.b, i.e, i.e - i.b⟩) (by show 0 ≤ i.e - i.b; omega) rfl (Int.le_refl _) hc2 y hy
          exact ⟨z, List.mem_cons_of_mem _ hz, hzw⟩
theorem sim0 {r : Rul} (hr : 1 ≤ r.rest) {is : List It} {m : Int} (hc : Chn m is) : ∀ y ∈ shiftsP r (bS is), ∃ z ∈ shiftsP r (fS is), y.w ≤ z.w := by
  cases is with
  | nil => intro y hy; cases hy
  | cons i is =>
    obtain ⟨⟨_, h2, h3⟩, hc2⟩ := hc
    intro y hy
    by_cases c : i.lv < i.b
    · have ef : fS (i :: is) = ⟨i.lv, i.b⟩ :: ⟨i.b, i.e⟩ :: fS is := by show flS i ++ fS is = _; unfold flS; rw [if_pos c]; rfl
      rw [ef]
      show ∃ z ∈ shGo r ⟨i.lv, i.b, i.b - i.lv⟩ (⟨i.b, i.e⟩ :: fS is), _
      rw [shGo, if_pos (show i.b < i.b + r.rest by omega)]
      exact sim hr (X := ⟨i.b, i.e, i.e - i.b⟩) (by show 0 ≤ i.e - i.b; omega) (by show i.e = max i.b i.e; omega) (by show i.e - i.b ≤ i.b - i.lv + (i.e - i.b); omega) hc2 y hy
    · have ef : fS (i :: is) = ⟨i.b, i.e⟩ :: fS is := by show flS i ++ fS is = _; unfold flS; rw [if_neg c]; rfl
      rw [ef]
      exact sim hr (X := ⟨i.b, i.e, i.e - i.b⟩) (Z := ⟨i.b, i.e, i.e - i.b⟩) (by show 0 ≤ i.e - i.b; omega) rfl (Int.le_refl _) hc2 y hy
def smI : List It → Int
  | [] => 0
  | i :: l => (i.e - i.lv) + smI l
theorem smI_snoc : ∀ {l : List It} {i : It}, smI (l ++ [i]) = smI l + i.e - i.lv
  | [], i => by show i.e - i.lv + 0 = 0 + i.e - i.lv; omega
  | j :: l, i => by show j.e - j.lv + smI (l ++ [i]) = j.e - j.lv + smI l + i.e - i.lv; rw [smI_snoc]; omega
theorem wk_fS : ∀ {l : List It} {m : Int}, Chn m l → wk (fS l) = smI l
  | [], _, _ => rfl
  | i :: l, m, h => by
    have ih := wk_fS h.2
    have h1 := h.1
    have e : fS (i :: l) = flS i ++ fS l := rfl
    rw [e, wk_app, ih]
    show _ = i.e - i.lv + smI l
    unfold flS
    split
    · show (i.b - i.lv) + ((i.e - i.b) + 0) + smI l = _; omega
    · show (i.e - i.b) + 0 + smI l = _; omega
/-! What the chosen offers are -/
def hsK (l : List Off) (h : Hul) (s : List Int) : Nat → Hul
  | 0 => h
  | k + 1 => aftH (hsK l h s k) (nth l (nth s k).toNat)
def itK (l : List Off) (h : Hul) (s : List Int) (k : Nat) : It := ⟨(nth l (nth s k).toNat).b - farH (hsK l h s k) (nth l (nth s k).toNat) * h.s, (nth l (nth s k).toNat).b, (nth l (nth s k).toNat).e⟩
def itL (l : List Off) (h : Hul) (s : List Int) (k : Nat) : List It := (List.range k).map (itK l h s)
theorem itL_succ {l : List Off} {h : Hul} {s : List Int} {k : Nat} : itL l h s (k + 1) = itL l h s k ++ [itK l h s k] := by unfold itL; rw [List.range_succ, List.map_append]; rfl
theorem itL_len {l : List Off} {h : Hul} {s : List Int} {k : Nat} : (itL l h s k).length = k := by unfold itL; rw [List.length_map, List.length_range]
theorem hsK_s {l : List Off} {h : Hul} {s : List Int} : ∀ k, (hsK l h s k).s = h.s ∧ (hsK l h s k).c = h.c
  | 0 => ⟨rfl, rfl⟩
  | k + 1 => hsK_s k
theorem fea_K {l : List Off} {h : Hul} {s : List Int} (hf : Fea l h s) : ∀ k, k ≤ s.length → Fea l (hsK l h s k) (s.drop k)
  | 0, _ => hf
  | k + 1, hk => (fea_at (by omega) (fea_K hf k (by omega))).2.2.1
theorem it_at {l : List Off} {h : Hul} {s : List Int} (hf : Fea l h s) {k : Nat} (hk : k < s.length) : (0 ≤ nth s k ∧ nth s k < (l.length : Int)) ∧ (hsK l h s k).m ≤ (itK l h s k).lv := by
  obtain ⟨h1, h2, _⟩ := fea_at hk (fea_K hf k (by omega))
  rw [(hsK_s k).1] at h2
  exact ⟨h1, by show _ ≤ _ - _; omega⟩
theorem hsK_ok {l : List Off} {h : Hul} {s : List Int} (hl : ∀ x ∈ l, okOff x = true) (hh : okHul h) (hf : Fea l h s) : ∀ k, k ≤ s.length → okHul (hsK l h s k)
  | 0, _ => hh
  | k + 1, hk => by
    have h1 := (it_at hf (k := k) (by omega)).1
    exact aftH_ok (hsK_ok hl hh hf k (by omega)) (hl _ (nth_mem (by omega)))
theorem it_rng {l : List Off} {h : Hul} {s : List Int} (hl : ∀ x ∈ l, okOff x = true) (hh : okHul h) (hf : Fea l h s) {k : Nat} (hk : k < s.length) : 0 ≤ (itK l h s k).lv ∧ (itK l h s k).lv ≤ (itK l h s k).b ∧ (itK l h s k).b ≤ (itK l h s k).e ∧ (itK l h s k).e ≤ 100000 ∧ (0 ≤ farH (hsK l h s k) (nth l (nth s k).toNat) ∧ farH (hsK l h s k) (nth l (nth s k).toNat) ≤ 100000) ∧ (0 ≤ farH (hsK l h s k) (nth l (nth s k).toNat) * h.s ∧ farH (hsK l h s k) (nth l (nth s k).toNat) * h.s ≤ 100000000) := by
  obtain ⟨h1, h2⟩ := it_at hf hk
  have h3 := hsK_ok hl hh hf k (by omega)
  have h4 := hl _ (nth_mem (xs := l) (i := (nth s k).toNat) (by omega))
  have h5 := farH_rng h3 h4
  have h6 := Int.mul_nonneg h5.1 hh.2.2.1.1
  have h7 := Int.mul_le_mul h5.2 hh.2.2.1.2 hh.2.2.1.1 (by omega)
  unfold okOff at h4
  rw [decide_eq_true_eq] at h4
  have h8 := h3.2.1
  have e1 : (itK l h s k).lv = (nth l (nth s k).toNat).b - farH (hsK l h s k) (nth l (nth s k).toNat) * h.s := rfl
  have e2 : (itK l h s k).b = (nth l (nth s k).toNat).b := rfl
  have e3 : (itK l h s k).e = (nth l (nth s k).toNat).e := rfl
  omega
theorem chn_K {l : List Off} {h : Hul} {s : List Int} (hl : ∀ x ∈ l, okOff x = true) (hh : okHul h) (hf : Fea l h s) : ∀ k, k ≤ s.length → Chn h.m (itL l h s k) ∧ lstE h.m (itL l h s k) = (hsK l h s k).m
  | 0, _ => ⟨trivial, rfl⟩
  | k + 1, hk => by
    obtain ⟨i1, i2⟩ := chn_K hl hh hf k (by omega)
    have h1 := (it_at hf (k := k) (by omega)).2
    have h2 := it_rng hl hh hf (k := k) (by omega)
    rw [itL_succ]
    exact ⟨chn_snoc i1 (by rw [i2]; omega), lstE_snoc⟩
theorem FD_snoc {l : List It} {i : It} : FD (l ++ [i]) = FD l ++ mvD i ++ [wkD i] := by
  unfold FD; rw [List.flatMap_append, List.append_assoc]; simp [flD]
theorem BD_snoc {l : List It} {i : It} : BD (l ++ [i]) = BD l ++ [wkD i] := by unfold BD; rw [List.map_append]; rfl
theorem FD_len : ∀ l : List It, (FD l).length ≤ 2 * l.length
  | [] => Nat.le_refl _
  | i :: l => by
    have ih := FD_len l
    show (flD i ++ FD l).length ≤ 2 * (l.length + 1)
    rw [List.length_append]
    have : (flD i).length ≤ 2 := by unfold flD mvD; split <;> simp
    omega
theorem BD_len (l : List It) : (BD l).length = l.length := List.length_map ..
theorem FD_ok {l : List It} (h : ∀ i ∈ l, 0 ≤ i.lv ∧ i.lv ≤ i.b ∧ i.b ≤ i.e ∧ i.e ≤ 20160) : (∀ d ∈ FD l, okDty d = true) ∧ ∀ d ∈ BD l, okDty d = true := by
  have ok : ∀ a b : Int, 0 ≤ a → a ≤ b → b ≤ 20160 → okDty ⟨a, a, b, b⟩ = true := fun a b h1 h2 h3 => by
    unfold okDty; rw [decide_eq_true_eq]; dsimp only; omega
  constructor
  · intro d hd
    obtain ⟨i, hi, hd⟩ := List.mem_flatMap.1 hd
    have h1 := h i hi
    unfold flD mvD at hd
    rcases List.mem_append.1 hd with q | q
    · split at q
      · rw [List.mem_singleton.1 q]; exact ok _ _ (by omega) (by omega) (by omega)
      · cases q
    · rw [List.mem_singleton.1 q]; exact ok _ _ (by omega) (by omega) (by omega)
  · intro d hd
    obtain ⟨i, hi, rfl⟩ := List.mem_map.1 hd
    have h1 := h i hi
    exact ok _ _ (by omega) (by omega) (by omega)
theorem bestE_two {l : List Off} {h : Hul} (hl : l.length ≤ 12) (he : bestE l h ≠ 0) : bestE l h = 2 ∨ bestE l h = 3 := by
  unfold bestE at he ⊢
  rw [if_neg (by omega)] at he ⊢
  split
  · exact .inl rfl
  · rename_i c
    rw [if_neg c] at he
    split
    · exact .inr rfl
    · rename_i d; rw [if_neg d] at he; exact absurd rfl he
theorem bestE_zero {l : List Off} {h : Hul} (hl : l.length ≤ 12) (he : bestE l h = 0) : (∀ x ∈ l, okOff x = true) ∧ okHul h := by
  unfold bestE at he
  rw [if_neg (by omega)] at he
  split at he
  · cases he
  · rename_i c
    split at he
    · cases he
    · rename_i d
      refine ⟨fun x hx => ?_, Decidable.not_not.1 d⟩
      cases q : okOff x
      · exact absurd (List.any_eq_true.2 ⟨x, hx, by simp [q]⟩) c
      · rfl
/-- All that is to be known of the shifts. -/
theorem shifts_K {r : Rul} (hr : 1 ≤ r.rest) {is : List It} {m : Int} (_hm : 0 ≤ m) (hc : Chn m is) : (∀ y ∈ shiftsP r (fS is), 0 ≤ y.w) ∧ (∀ y ∈ shiftsP r (bS is), 0 ≤ y.w) ∧ totW (shiftsP r (fS is)) = smI is ∧ mxW (shiftsP r (bS is)) (shiftsP r (bS is)).length ≤ mxW (shiftsP r (fS is)) (shiftsP r (fS is)).length :=
  ⟨shifts_nn r fun x hx => ((chn_lin hc).1 x hx).2, shifts_nn r fun x hx => ((chn_linB hc).1 x hx).2, (tot_shifts r _).trans (wk_fS hc), mx_cmp (sim0 hr hc)⟩
theorem smI_rng : ∀ {l : List It}, (∀ i ∈ l, 0 ≤ i.lv ∧ i.lv ≤ i.b ∧ i.b ≤ i.e ∧ i.e ≤ 20160) → 0 ≤ smI l ∧ smI l ≤ 20160 * (l.length : Int)
  | [], _ => ⟨Int.le_refl _, by show (0 : Int) ≤ _; omega⟩
  | i :: l, h => by
    have h1 := h i (by simp)
    have ih := smI_rng (l := l) (fun j hj => h j (List.mem_cons_of_mem _ hj))
    show 0 ≤ i.e - i.lv + smI l ∧ i.e - i.lv + smI l ≤ 20160 * ((l.length + 1 : Nat) : Int)
    omega
/-- There are no more shifts than spans of work. -/
theorem shGo_len9 (r : Rul) : ∀ (l : List Sp) (X : Shf), (shGo r X l).length ≤ l.length + 1
  | [], X => Nat.le_refl _
  | s :: l, X => by
    rw [shGo]
    split
    · have := shGo_len9 r l ⟨X.b, max X.e s.e, X.w + (s.e - s.b)⟩
      rw [List.length_cons]; omega
    · have := shGo_len9 r l ⟨s.b, s.e, s.e - s.b⟩
      rw [List.length_cons, List.length_cons]; omega
theorem shifts_len9 (r : Rul) : ∀ l : List Sp, (shiftsP r l).length ≤ l.length
  | [] => Nat.le_refl _
  | _s :: l => shGo_len9 r l _

end Go.Proofs.YtclinbbghnebaaaGreat
namespace Go.Proofs.YtclinbbghnebaaaGreat
open Go Go.RowKit
section
variable {rd : Option Nat} {P : Program} {ops : Array Oper} {Q : Exit → Act → World → Prop} {N : Nat} {ds : List Deferred} {rest : List Oper} {L : Slots} {w : World}
variable {d : Nat} {ty : TypeId} {pos : String} {aft : Array Edge} {g : Option (Nat × Bool)}
end
end Go.Proofs.YtclinbbghnebaaaGreat
namespace Go.Proofs.YtclinbbghnebaaaGreat
open Go Go.RowKit Go.Proofs.Tryz
set_option maxRecDepth 10000

structure Prt where
  h : Int
  w : Int
instance : Inhabited Prt := ⟨⟨default, default⟩⟩
/-- A way, or an arc: from, to, cost, room. -/
structure Ew where
  f : Int
  t : Int
  c : Int
  r : Int
instance : Inhabited Ew := ⟨⟨default, default, default, default⟩⟩
def encPrt (p : Prt) : List Value := [.int .i64 p.h, .int .i64 p.w]
def encEw (a : Ew) : List Value := [.int .i64 a.f, .int .i64 a.t, .int .i64 a.c, .int .i64 a.r]
def okPrt (p : Prt) : Bool := decide ((0 ≤ p.h ∧ p.h ≤ 1000) ∧ (0 ≤ p.w ∧ p.w ≤ 1000))
def okEw (n : Int) (a : Ew) : Bool := decide (((0 ≤ a.f ∧ a.f ≤ n - 1) ∧ (0 ≤ a.t ∧ a.t ≤ n - 1)) ∧ a.f ≠ a.t ∧ (0 ≤ a.c ∧ a.c ≤ 1000000) ∧ (0 ≤ a.r ∧ a.r ≤ 1000))
def okNet (ps : List Prt) (ws : List Ew) : Bool := decide ((1 ≤ ps.length ∧ ps.length ≤ 60) ∧ ws.length ≤ 300) && (!(ps.any fun x => !okPrt x) && !(ws.any fun x => !okEw (ps.length : Int) x))
theorem okNet_of {ps : List Prt} {ws : List Ew} (h : okNet ps ws = true) : ((1 ≤ ps.length ∧ ps.length ≤ 60) ∧ ws.length ≤ 300) ∧ (ps.any fun x => !okPrt x) = false ∧ (ws.any fun x => !okEw (ps.length : Int) x) = false := by
  unfold okNet at h
  rw [Bool.and_eq_true, Bool.and_eq_true, decide_eq_true_eq, Bool.not_eq_true', Bool.not_eq_true'] at h
  exact h
theorem okNet_p {ps : List Prt} {ws : List Ew} (h : okNet ps ws = true) {p : Prt} (hp : p ∈ ps) : (0 ≤ p.h ∧ p.h ≤ 1000) ∧ (0 ≤ p.w ∧ p.w ≤ 1000) := by
  have h1 := List.any_eq_false.1 (okNet_of h).2.1 p hp
  unfold okPrt at h1
  simpa using h1
theorem okNet_w {ps : List Prt} {ws : List Ew} (h : okNet ps ws = true) {a : Ew} (ha : a ∈ ws) : ((0 ≤ a.f ∧ a.f ≤ (ps.length : Int) - 1) ∧ (0 ≤ a.t ∧ a.t ≤ (ps.length : Int) - 1)) ∧ a.f ≠ a.t ∧ (0 ≤ a.c ∧ a.c ≤ 1000000) ∧ (0 ≤ a.r ∧ a.r ≤ 1000) := by
  have h1 := List.any_eq_false.1 (okNet_of h).2.2 a ha
  have h2 : okEw (ps.length : Int) a = true := by simpa using h1
  unfold okEw at h2
  rwa [decide_eq_true_eq] at h2
/-- An arc and its opposite. -/
def lnk (f t c r : Int) : List Ew := [⟨f, t, c, r⟩, ⟨t, f, -c, 0⟩]
def opW (ws : List Ew) (k : Nat) : List Ew := (ws.take k).flatMap fun w => lnk w.f w.t w.c w.r
def opP (n : Int) (ps : List Prt) (k : Nat) : List Ew := (List.range k).flatMap fun (i : Nat) => lnk n (i : Int) 0 (nth ps i).h ++ lnk (i : Int) (n + 1) 0 (nth ps i).w
theorem opW_succ {ws : List Ew} {k : Nat} (h : k < ws.length) : opW ws (k + 1) = opW ws k ++ lnk (nth ws k).f (nth ws k).t (nth ws k).c (nth ws k).r := by
  unfold opW; rw [take_nth h, List.flatMap_append]; simp
theorem opP_succ {n : Int} {ps : List Prt} {k : Nat} : opP n ps (k + 1) = opP n ps k ++ lnk n k 0 (nth ps k).h ++ lnk k (n + 1) 0 (nth ps k).w := by
  unfold opP; rw [List.range_succ, List.flatMap_append]; simp
theorem opW_len {ws : List Ew} : ∀ {k : Nat}, k ≤ ws.length → (opW ws k).length = 2 * k
  | 0, _ => rfl
  | k + 1, h => by rw [opW_succ (by omega), List.length_append, opW_len (by omega)]; show 2 * k + 2 = _; omega
theorem opP_len {n : Int} {ps : List Prt} : ∀ {k : Nat}, (opP n ps k).length = 4 * k
  | 0 => rfl
  | k + 1 => by rw [opP_succ, List.length_append, List.length_append, opP_len]; show 4 * k + 2 + 2 = _; omega
def opnG (ps : List Prt) (ws : List Ew) : List Ew := opW ws ws.length ++ opP (ps.length : Int) ps ps.length
theorem own240 : Own Tryz.prog 240 := ⟨Tryz.f240, func240, by kernel_rfl, by kernel_rfl⟩
theorem own242 : Own Tryz.prog 242 := ⟨Tryz.f242, func242, by kernel_rfl, by kernel_rfl⟩
theorem own244 : Own Tryz.prog 244 := ⟨Tryz.f244, func244, by kernel_rfl, by kernel_rfl⟩
theorem own197 : Own Tryz.prog 197 := ⟨Tryz.f197, func197, by kernel_rfl, by kernel_rfl⟩
theorem ewithin1_c (lo hi n : Int) (b c : Nat) (t1 t2 : TypeId) (w0 : World) (hb : Blk w0 b t1 [.int .i64 lo]) (hc : Blk w0 c t2 [.int .i64 hi]) :
    CallsV Tryz.prog 240 [.int .i64 n, .pointer (some ⟨b, 0, none⟩), .pointer (some ⟨c, 0, none⟩)] w0 (fun v w' => v = .bool (out1 lo hi n) ∧ Ext w0 w') := by
 refine f_n func240 ?_
 refine go ?_
 refine t_splitp 8 rfl (fun g8 => ?_) (fun g8 => ?_)
 ·
  refine go ?_
  refine f_1 results240 ?_
  exact ⟨by simp [out1, *], u_d⟩
 refine go ?_
 refine f_1 results240 ?_
 exact ⟨by simp [out1, *], u_d⟩

theorem ewithin_c (lo hi : Int) (xs : List Int) (ao : Option Addr) (b o cap : Nat) (w0 : World) (hs : Sl encI 1 w0 ao b o xs) (hl : xs.length ≤ 1000000) :
    CallsV Tryz.prog 194 [.int .i64 lo, .int .i64 hi, .slice ao xs.length cap] w0 (fun v w' => v = .bool (decide (∀ n ∈ xs, lo ≤ n ∧ n ≤ hi)) ∧ Ext w0 w') := by
 refine f_n func194 ?_
 refine go ?_
 refine x_b fun bk2 w3 ebk2 sbk2 B4 u5 => ?_
 refine x_b fun bk7 w8 ebk7 sbk7 B9 u10 => ?_
 refine go ?_
 refine t_mkfunc (vs := []) (us := [.pointer (some ⟨bk2, 0, none⟩), .pointer (some ⟨bk7, 0, none⟩)]) rfl rfl rfl rfl ?_
 have B13 := (B4.kx u10)
 refine x_c func82 rfl rfl (containsI_c (out1 lo hi) 240 [.pointer (some ⟨bk2, 0, none⟩), .pointer (some ⟨bk7, 0, none⟩)] xs ao b o cap _ own240 (fun x _ w u => ewithin1_c lo hi x bk2 bk7 _ _ w (B13.keep u (fun h => h)) (B9.keep u (fun h => h))) (hs.keep (((Upd.refl (fun _ => False) w0).nx u5).nx u10) (fun _ h => h)) hl) ?_
 rintro _ w15 ⟨rfl, u16⟩ zu16
 refine go ?_
 refine f_1 results194 ?_
 exact ⟨by rw [not_any_out], u_d⟩

theorem ewithin1_v (lo hi m : Int) (b : Nat) (t : TypeId) (w : World) (h : Blk w b t [.int .i64 m]) :
    CallsV Tryz.prog 194 [.int .i64 lo, .int .i64 hi, .slice (some ⟨b, 0, none⟩) 1 1] w (fun v w' => v = .bool (decide ((lo ≤ m ∧ m ≤ hi))) ∧ Ext w w') :=
  (ewithin_c lo hi [m] _ b 0 1 w (SlI.own (xs := [m]) h) (by simp)).mono fun v w' ⟨e, u⟩ => ⟨by rw [e]; simp, u⟩

theorem ewithin2_v (lo hi m n : Int) (b : Nat) (t : TypeId) (w : World) (h : Blk w b t [.int .i64 m, .int .i64 n]) :
    CallsV Tryz.prog 194 [.int .i64 lo, .int .i64 hi, .slice (some ⟨b, 0, none⟩) 2 2] w (fun v w' => v = .bool (decide ((lo ≤ m ∧ m ≤ hi) ∧ (lo ≤ n ∧ n ≤ hi))) ∧ Ext w w') :=
  (ewithin_c lo hi [m, n] _ b 0 2 w (SlI.own (xs := [m, n]) h) (by simp)).mono fun v w' ⟨e, u⟩ => ⟨by rw [e]; simp, u⟩

theorem indexPt_c {α : Type} [Inhabited α] (enc : α → List Value) (hk : ∀ x, (enc x).length = 2) (p : α → Bool) (fv : FuncId) (caps : List Value) (xs : List α) (ao : Option Addr) (b o cap : Nat) (w0 : World) (ho : Own Tryz.prog fv) (hp : ∀ x ∈ xs, ∀ w, Ext w0 w → CallsV Tryz.prog fv ([.agg (enc x).toArray] ++ caps) w fun v w' => v = .bool (p x) ∧ Ext w w') (hs : Sl enc 2 w0 ao b o xs) (hl : xs.length ≤ 1000000) :
    CallsV Tryz.prog 282 [.slice ao xs.length cap, .func (.func fv) #[] (caps).toArray] w0 (fun v w' => (∃ n : Int, v = .int .i64 n ∧ decide (0 ≤ n) = xs.any p) ∧ Ext w0 w') := by
 refine f_n func282 ?_
 refine go ?_
 refine x_l1 (fun _ => False) [0, 1, 7] (fun (k : Nat) => [(8, .int .i64 (k : Int))]) (fun k w => (k ≤ xs.length) ∧ ((xs.take k).any p = false)) (fun k => xs.length - k) 0 ⟨Nat.zero_le _, (by simp)⟩ ?_
 rintro k w5 ⟨hle, hnot⟩ u6 zu6 K4 hK4
 have E7 := Sc.mk ((Upd.refl (fun _ => False) w0).nx u6)
 refine go ?_
 refine q_p (fun g9 => ?_) fun g9 => ?_
 ·
  refine go ?_
  refine g_i k (hs.keep E7.u (fun _ h => h)) (fun _ => ?_)
  refine t_loadN (vs := enc (nth xs k)) isAgg189 sizeOf189 rfl rfl rfl ((hs.keep E7.u (fun _ h => h)).at_ k (by omega)) (hk _) (t_call (fs := []) (cs := caps) ho rfl rfl rfl rfl (hp (nth xs k) (nth_mem (by omega)) _ E7.u) (fun v14 w15 r17 => ?_))
  obtain ⟨rfl, u16⟩ := r17
  have zu16 := u16.size
  refine go ?_
  refine q_b (fun g16 => ?_) fun g16 => ?_
  ·
   refine go ?_
   refine f_1 results282 ?_
   exact ⟨⟨_, rfl, any_hit (by omega) g16⟩, u_d⟩
  refine go ?_
  exact hK4 (k + 1) ⟨(by omega), (any_snoc (by omega) hnot g16)⟩
 refine go ?_
 refine f_1 results282 ?_
 exact ⟨⟨_, rfl, any_none (by omega) hnot⟩, u_d⟩

theorem containsPt_c {α : Type} [Inhabited α] (enc : α → List Value) (hk : ∀ x, (enc x).length = 2) (p : α → Bool) (fv : FuncId) (caps : List Value) (xs : List α) (ao : Option Addr) (b o cap : Nat) (w0 : World) (ho : Own Tryz.prog fv) (hp : ∀ x ∈ xs, ∀ w, Ext w0 w → CallsV Tryz.prog fv ([.agg (enc x).toArray] ++ caps) w fun v w' => v = .bool (p x) ∧ Ext w w') (hs : Sl enc 2 w0 ao b o xs) (hl : xs.length ≤ 1000000) :
    CallsV Tryz.prog 241 [.slice ao xs.length cap, .func (.func fv) #[] (caps).toArray] w0 (fun v w' => v = .bool (xs.any p) ∧ Ext w0 w') := by
 refine f_n func241 ?_
 refine go ?_
 refine x_c func282 rfl rfl (indexPt_c enc hk p fv caps xs ao b o cap _ ho hp hs hl) ?_
 rintro _ w4 ⟨⟨n, rfl, hn⟩, u5⟩ zu5
 refine go ?_
 refine f_1 results241 ?_
 exact ⟨by rw [hn], u_d⟩

theorem indexEw_c {α : Type} [Inhabited α] (enc : α → List Value) (hk : ∀ x, (enc x).length = 4) (p : α → Bool) (fv : FuncId) (caps : List Value) (xs : List α) (ao : Option Addr) (b o cap : Nat) (w0 : World) (ho : Own Tryz.prog fv) (hp : ∀ x ∈ xs, ∀ w, Ext w0 w → CallsV Tryz.prog fv ([.agg (enc x).toArray] ++ caps) w fun v w' => v = .bool (p x) ∧ Ext w w') (hs : Sl enc 4 w0 ao b o xs) (hl : xs.length ≤ 1000000) :
    CallsV Tryz.prog 283 [.slice ao xs.length cap, .func (.func fv) #[] (caps).toArray] w0 (fun v w' => (∃ n : Int, v = .int .i64 n ∧ decide (0 ≤ n) = xs.any p) ∧ Ext w0 w') := by
 refine f_n func283 ?_
 refine go ?_
 refine x_l1 (fun _ => False) [0, 1, 7] (fun (k : Nat) => [(8, .int .i64 (k : Int))]) (fun k w => (k ≤ xs.length) ∧ ((xs.take k).any p = false)) (fun k => xs.length - k) 0 ⟨Nat.zero_le _, (by simp)⟩ ?_
 rintro k w5 ⟨hle, hnot⟩ u6 zu6 K4 hK4
 have E7 := Sc.mk ((Upd.refl (fun _ => False) w0).nx u6)
 refine go ?_
 refine q_p (fun g9 => ?_) fun g9 => ?_
 ·
  refine go ?_
  refine g_i k (hs.keep E7.u (fun _ h => h)) (fun _ => ?_)
  refine t_loadN (vs := enc (nth xs k)) isAgg192 sizeOf192 rfl rfl rfl ((hs.keep E7.u (fun _ h => h)).at_ k (by omega)) (hk _) (t_call (fs := []) (cs := caps) ho rfl rfl rfl rfl (hp (nth xs k) (nth_mem (by omega)) _ E7.u) (fun v14 w15 r17 => ?_))
  obtain ⟨rfl, u16⟩ := r17
  have zu16 := u16.size
  refine go ?_
  refine q_b (fun g16 => ?_) fun g16 => ?_
  ·
   refine go ?_
   refine f_1 results283 ?_
   exact ⟨⟨_, rfl, any_hit (by omega) g16⟩, u_d⟩
  refine go ?_
  exact hK4 (k + 1) ⟨(by omega), (any_snoc (by omega) hnot g16)⟩
 refine go ?_
 refine f_1 results283 ?_
 exact ⟨⟨_, rfl, any_none (by omega) hnot⟩, u_d⟩

theorem containsEw_c {α : Type} [Inhabited α] (enc : α → List Value) (hk : ∀ x, (enc x).length = 4) (p : α → Bool) (fv : FuncId) (caps : List Value) (xs : List α) (ao : Option Addr) (b o cap : Nat) (w0 : World) (ho : Own Tryz.prog fv) (hp : ∀ x ∈ xs, ∀ w, Ext w0 w → CallsV Tryz.prog fv ([.agg (enc x).toArray] ++ caps) w fun v w' => v = .bool (p x) ∧ Ext w w') (hs : Sl enc 4 w0 ao b o xs) (hl : xs.length ≤ 1000000) :
    CallsV Tryz.prog 243 [.slice ao xs.length cap, .func (.func fv) #[] (caps).toArray] w0 (fun v w' => v = .bool (xs.any p) ∧ Ext w0 w') := by
 refine f_n func243 ?_
 refine go ?_
 refine x_c func283 rfl rfl (indexEw_c enc hk p fv caps xs ao b o cap _ ho hp hs hl) ?_
 rintro _ w4 ⟨⟨n, rfl, hn⟩, u5⟩ zu5
 refine go ?_
 refine f_1 results243 ?_
 exact ⟨by rw [hn], u_d⟩

theorem badPrt_c (x : Prt) (w0 : World) :
    CallsV Tryz.prog 242 [.agg #[.int .i64 x.h, .int .i64 x.w]] w0 (fun v w' => v = .bool (!okPrt x) ∧ Ext w0 w') := by
 refine f_n func242 ?_
 refine go ?_
 refine x_b fun bk2 w3 ebk2 sbk2 B4 u5 => ?_
 refine go ?_
 refine x_l fun bk8 w9 ebk8 sbk8 B10 u11 => ?_
 refine x_c func194 rfl rfl (ewithin2_v 0 1000 x.h x.w _ _ _ B10) ?_
 rintro _ w14 ⟨rfl, u15⟩ zu15
 refine go ?_
 refine f_1 results242 ?_
 exact ⟨congrArg Value.bool (by rw [Bool.eq_iff_iff]; simp only [okPrt, decide_eq_true_eq, Bool.not_eq_eq_eq_not] <;> grind), u_d⟩

theorem arePorts_c (ps : List Prt) (ap : Option Addr) (bp op cp : Nat) (w0 : World) (hp : Sl encPrt 2 w0 ap bp op ps) (hpl : ps.length ≤ 1000000) :
    CallsV Tryz.prog 195 [.slice ap ps.length cp] w0 (fun v w' => v = .bool (!(ps.any fun x => !okPrt x)) ∧ Ext w0 w') := by
 refine f_n func195 ?_
 refine go ?_
 refine x_c func241 rfl rfl (containsPt_c encPrt (fun _ => rfl) (fun x => !okPrt x) 242 [] ps ap bp op cp _ own242 (fun x _ w _ => badPrt_c x w) hp hpl) ?_
 rintro _ w4 ⟨rfl, u5⟩ zu5
 refine go ?_
 refine f_1 results195 ?_
 exact ⟨rfl, u_d⟩

theorem badEw_c (n : Int) (b : Nat) (x : Ew) (w0 : World) (hb : Blk w0 b 3 [.int .i64 n]) (hn : 0 ≤ n ∧ n ≤ 1000000) :
    CallsV Tryz.prog 244 [.agg #[.int .i64 x.f, .int .i64 x.t, .int .i64 x.c, .int .i64 x.r], .pointer (some ⟨b, 0, none⟩)] w0 (fun v w' => v = .bool (!okEw n x) ∧ Ext w0 w') := by
 refine f_n func244 ?_
 refine go ?_
 refine x_b fun bk2 w3 ebk2 sbk2 B4 u5 => ?_
 refine go ?_
 refine x_l fun bk8 w9 ebk8 sbk8 B10 u11 => ?_
 refine x_c func194 rfl rfl (ewithin2_v 0 (n - 1) x.f x.t _ _ _ B10) ?_
 rintro _ w14 ⟨rfl, u15⟩ zu15
 refine go ?_
 refine t_splitp 13 rfl (fun g13 => ?_) (fun g13 => ?_)
 ·
  refine go ?_
  refine f_1 results244 ?_
  exact ⟨congrArg Value.bool (by rw [Bool.eq_iff_iff]; simp only [okEw, ne_eq, Bool.not_eq_eq_eq_not] <;> grind), u_d⟩
 refine go ?_
 refine t_splitp 20 rfl (fun g20 => ?_) (fun g20 => ?_)
 ·
  refine go ?_
  refine f_1 results244 ?_
  exact ⟨congrArg Value.bool (by rw [Bool.eq_iff_iff]; simp only [okEw, ne_eq, Bool.not_eq_eq_eq_not] <;> grind), u_d⟩
 refine go ?_
 refine x_l fun bk18 w19 ebk18 sbk18 B20 u21 => ?_
 refine x_c func194 rfl rfl (ewithin1_v 0 1000000 x.c _ _ _ B20) ?_
 rintro _ w24 ⟨rfl, u25⟩ zu25
 refine go ?_
 refine t_splitp 27 rfl (fun g27 => ?_) (fun g27 => ?_)
 ·
  refine go ?_
  refine f_1 results244 ?_
  exact ⟨congrArg Value.bool (by rw [Bool.eq_iff_iff]; simp only [okEw, ne_eq, Bool.not_eq_eq_eq_not] <;> grind), u_d⟩
 refine go ?_
 refine x_l fun bk28 w29 ebk28 sbk28 B30 u31 => ?_
 refine x_c func194 rfl rfl (ewithin1_v 0 1000 x.r _ _ _ B30) ?_
 rintro _ w34 ⟨rfl, u35⟩ zu35
 refine go ?_
 refine f_1 results244 ?_
 exact ⟨congrArg Value.bool (by rw [Bool.eq_iff_iff]; simp only [okEw, ne_eq, decide_eq_true_eq, Bool.not_eq_eq_eq_not] <;> grind), u_d⟩

theorem areWays_c (n : Int) (ws : List Ew) (aw : Option Addr) (bw ow cw : Nat) (w0 : World) (hn : 0 ≤ n ∧ n ≤ 1000000) (hw : Sl encEw 4 w0 aw bw ow ws) (hwl : ws.length ≤ 1000000) :
    CallsV Tryz.prog 196 [.int .i64 n, .slice aw ws.length cw] w0 (fun v w' => v = .bool (!(ws.any fun x => !okEw n x)) ∧ Ext w0 w') := by
 refine f_n func196 ?_
 refine go ?_
 refine x_b fun bk2 w3 ebk2 sbk2 B4 u5 => ?_
 refine go ?_
 refine t_mkfunc (vs := []) (us := [.pointer (some ⟨bk2, 0, none⟩)]) rfl rfl rfl rfl ?_
 refine x_c func243 rfl rfl (containsEw_c encEw (fun _ => rfl) (fun x => !okEw n x) 244 [.pointer (some ⟨bk2, 0, none⟩)] ws aw bw ow cw _ own244 (fun x _ w u => badEw_c n bk2 x w (B4.keep u (fun h => h)) hn) (hw.keep ((Upd.refl (fun _ => False) w0).nx u5) (fun _ h => h)) hwl) ?_
 rintro _ w9 ⟨rfl, u10⟩ zu10
 refine go ?_
 refine f_1 results196 ?_
 exact ⟨rfl, u_d⟩

theorem eCheck_c (ps : List Prt) (ap : Option Addr) (bp op cp : Nat) (ws : List Ew) (aw : Option Addr) (bw ow cw : Nat) (w0 : World) (hp : Sl encPrt 2 w0 ap bp op ps) (hpl : ps.length ≤ 1000000) (hw : Sl encEw 4 w0 aw bw ow ws) (hwl : ws.length ≤ 1000000) (hok : okNet ps ws = true) :
    CallsV Tryz.prog 137 [.agg #[.slice ap ps.length cp, .slice aw ws.length cw]] w0 (fun v w' => v = .int .i64 0 ∧ Ext w0 w') := by
 obtain ⟨hln, hpn, hwn⟩ := okNet_of hok
 refine f_n func137 ?_
 refine go ?_
 refine x_b fun bk2 w3 ebk2 sbk2 B4 u5 => ?_
 refine go ?_
 refine x_l fun bk9 w10 ebk9 sbk9 B11 u12 => ?_
 refine x_c func194 rfl rfl (ewithin1_v 1 60 (ps.length : Int) _ _ _ B11) ?_
 rintro _ w15 ⟨rfl, u16⟩ zu16
 have E18 := Sc.mk ((((Upd.refl (fun _ => False) w0).nx u5).nx u12).nx u16)
 refine t_same 7 (v := .bool true) rfl (congrArg Value.bool (decide_eq_true (by omega))) ?_
 iterate 6 refine st1 ?_
 refine t_same 13 (v := .bool false) rfl (congrArg Value.bool (decide_eq_false (by omega))) ?_
 refine go ?_
 refine x_c func195 rfl rfl (arePorts_c ps ap bp op cp _ (hp.keep E18.u (fun _ h => h)) hpl) ?_
 rintro _ w20 ⟨rfl, u21⟩ zu21
 refine t_same 18 (v := .bool true) rfl (congrArg Value.bool (by rw [hpn]; rfl)) ?_
 refine go ?_
 refine x_c func196 rfl rfl (areWays_c (ps.length : Int) ws aw bw ow cw _ (by omega) (hw.keep (E18.u.nx u21) (fun _ h => h)) hwl) ?_
 rintro _ w25 ⟨rfl, u26⟩ zu26
 refine t_same 27 (v := .bool true) rfl (congrArg Value.bool (by rw [hwn]; rfl)) ?_
 refine go ?_
 refine f_1 results137 ?_
 exact ⟨rfl, u_d⟩

theorem link_c (gb : Nat) (n m : Int) (base : Nat) (ao : Option Addr) (ga ca : Nat) (xs : List Ew) (f t c r : Int) (w0 : World) (hgb : Blk w0 gb 349 [.int .i64 n, .int .i64 m, .slice ao xs.length ca]) (har : Acc encEw 4 356 base w0 ao ga ca xs) (hb : base ≤ w0.heap.size) (hl : xs.length ≤ 10000) (hne : base ≤ ga → gb ≠ ga) (hc : -1000000000 ≤ c ∧ c ≤ 1000000000) :
    CallsV Tryz.prog 197 [.pointer (some ⟨gb, 0, none⟩), .int .i64 f, .int .i64 t, .int .i64 c, .int .i64 r] w0 (fun v w' => v = .tuple #[] ∧ (∃ ao' ga' ca', Blk w' gb 349 [.int .i64 n, .int .i64 m, .slice ao' (List.length (xs ++ lnk f t c r)) ca'] ∧ Acc encEw 4 356 base w' ao' ga' ca' (xs ++ lnk f t c r) ∧ (ga' = ga ∨ w0.heap.size ≤ ga')) ∧ Upd (fun i => i = gb ∨ (i = ga ∧ base ≤ i)) w0 w') := by
 have hgl := hgb.lt
 have hal := har.lt
 refine f_n func197 ?_
 refine go ?_
 refine t_neg rfl rfl rfl (by omega) ?_
 refine go ?_
 refine x_l fun bk1 w2 ebk1 sbk1 B3 u4 => ?_
 refine t_same 25 (v := .slice (some ⟨bk1, 0, none⟩) ((lnk f t c r).length) 2) rfl rfl ?_
 have D6 := (har.keep u4 (fun _ h => h))
 refine t_appendAll (enc := encEw) (z := .agg #[.int .i64 0, .int .i64 0, .int .i64 0, .int .i64 0]) (bytes := 32) (k := 4) (base := base) (xs := xs) (ys := (lnk f t c r)) underlying347 (by kernel_rfl) rfl (by decide) (fun _ => rfl) (by intro x; simp [encEw, Value.oneCell']) rfl rfl rfl rfl D6 (Sl.ofBlk (enc := encEw) (xs := lnk f t c r) (fun _ => rfl) B3) (by omega) (by omega) (by show 2 ≤ 1000000; decide) (by decide) (fun ao7 gb8 cp9 w10 A11 u12 gegb8 lngb8 => ?_)
 have zu12 := u12.size
 have lt_gb8 := A11.lt
 refine go ?_
 refine x_s fun w14 sw14 B16 u15 => ?_
 refine go ?_
 refine f_ret0 results197 ?_
 have D18 := (A11.keep u15 (fun hb => show ¬ (gb8 = gb) by first | omega | assumption))
 exact ⟨rfl, ⟨_, _, _, B16, D18, by omega⟩, u_d⟩

theorem source_c (gb : Nat) (n m : Int) (ao : Option Addr) (la ca : Nat) (w0 : World) (hgb : Blk w0 gb 349 [.int .i64 n, .int .i64 m, .slice ao la ca]) :
    CallsV Tryz.prog 198 [.pointer (some ⟨gb, 0, none⟩)] w0 (fun v w' => v = .int .i64 n ∧ Ext w0 w') := by
 refine f_n func198 ?_
 refine go ?_
 refine f_1 results198 ?_
 exact ⟨rfl, u_d⟩

theorem sink_c (gb : Nat) (n m : Int) (ao : Option Addr) (la ca : Nat) (w0 : World) (hgb : Blk w0 gb 349 [.int .i64 n, .int .i64 m, .slice ao la ca]) (hn : 0 ≤ n ∧ n ≤ 1000000) :
    CallsV Tryz.prog 199 [.pointer (some ⟨gb, 0, none⟩)] w0 (fun v w' => v = .int .i64 (n + 1) ∧ Ext w0 w') := by
 refine f_n func199 ?_
 refine go ?_
 refine f_1 results199 ?_
 exact ⟨rfl, u_d⟩

set_option maxHeartbeats 4000000 in
theorem eopen_c (ps : List Prt) (ap : Option Addr) (bp op cp : Nat) (ws : List Ew) (aw : Option Addr) (bw ow cw : Nat) (w0 : World) (hp : Sl encPrt 2 w0 ap bp op ps) (hpl : ps.length ≤ 1000000) (hw : Sl encEw 4 w0 aw bw ow ws) (hwl : ws.length ≤ 1000000) (hok : okNet ps ws = true) (hpos : 0 < w0.heap.size) :
    CallsV Tryz.prog 138 [.agg #[.slice ap ps.length cp, .slice aw ws.length cw]] w0 (fun v w' => (∃ gb ao ga ca base, v = .pointer (some ⟨gb, 0, none⟩) ∧ w0.heap.size ≤ gb ∧ gb < base ∧ base ≤ w'.heap.size ∧ Blk w' gb 349 [.int .i64 (ps.length : Int), .int .i64 (ws.length : Int), .slice ao (opnG ps ws).length ca] ∧ Acc encEw 4 356 base w' ao ga ca (opnG ps ws)) ∧ Ext w0 w') := by
 obtain ⟨hln, hpn, hwn⟩ := okNet_of hok
 refine f_n func138 ?_
 refine go ?_
 refine x_b fun bk2 w3 ebk2 sbk2 B4 u5 => ?_
 refine go ?_
 refine x_b fun bk8 w9 ebk8 sbk8 B10 u11 => ?_
 refine go ?_
 refine x_l4 (fun i => i = bk8 ∨ w9.heap.size ≤ i) [1, 3, 17, 18] (fun (k : Nat) (ao : Option Addr) (ga : Nat) (ca : Nat) => [(19, .int .i64 (k : Int))]) (fun k ao ga ca w => Blk w bk8 349 [.int .i64 (ps.length : Int), .int .i64 (ws.length : Int), .slice ao ((opW ws k).length) ca] ∧ (k ≤ ws.length) ∧ (Acc encEw 4 356 w9.heap.size w ao ga ca (opW ws k))) (fun k ao ga ca => ws.length - k) 0 none 0 0 ⟨B10, (Nat.zero_le _), (Acc.nil encEw 4 356 w9.heap.size _ (by omega) (Nat.le_refl _))⟩ ?_
 rintro k ao ga ca w16 ⟨I18, hk, har⟩ u17 zu17 K15 hK15
 have E19 := Sc.mk ((((Upd.refl (fun _ => False) w0).nx u5).nx u11).next u17 (fun i hi (h : i = bk8 ∨ w9.heap.size ≤ i) => show False by first | omega | assumption))
 have lt_ga := har.lt
 have hwk := opW_len hk
 refine go ?_
 refine q_p (fun g20 => ?_) fun g20 => ?_
 ·
  have hwm := okNet_w hok (nth_mem (xs := ws) (i := k) (by omega))
  have hst1 := opW_succ (ws := ws) (k := k) (by omega)
  refine go ?_
  refine g_i k (hw.keep E19.u (fun _ h => h)) (fun _ => ?_)
  refine go ?_
  refine x_n fun bk25 w26 ebk25 sbk25 B27 u28 => ?_
  refine x_s fun w30 sw30 B32 u31 => ?_
  refine go ?_
  have B35 := ((I18.kx u28).keep u31 (by omega))
  have D36 := ((har.keep u28 (fun _ h => h)).keep u31 (fun hb => show ¬ (ga = bk25) by first | omega | assumption))
  refine t_call own197 rfl rfl rfl rfl (link_c bk8 (ps.length : Int) (ws.length : Int) w9.heap.size ao ga ca (opW ws k) ((nth ws k).f) ((nth ws k).t) ((nth ws k).c) ((nth ws k).r) _ B35 D36 (by omega) (by omega) (by omega) (by omega)) (fun v37 w38 r40 => ?_)
  obtain ⟨rfl, ⟨aq34, gq34, cq34, hgq34, haq34, hhq34⟩, u39⟩ := r40
  have zu39 := u39.size
  have lt_gq34 := haq34.lt
  have hlbq34 := hgq34.lt
  refine go ?_
  exact hK15 (k + 1) aq34 gq34 cq34 ⟨(by rw [hst1]; exact hgq34), (by omega), (by rw [hst1]; exact haq34)⟩ (hu := (((u17.nx u28).next u31 (fun i hi (h : i = bk25) => show i = bk8 ∨ w9.heap.size ≤ i by first | omega | assumption)).next u39 (fun i hi (h : i = bk8 ∨ (i = ga ∧ w9.heap.size ≤ i)) => show i = bk8 ∨ w9.heap.size ≤ i by first | omega | assumption)))
 have hst0 : opW ws ws.length ++ opP (ps.length : Int) ps 0 = opW ws k := by rw [show k = ws.length by omega]; exact List.append_nil _
 refine go ?_
 refine x_l4 (fun i => i = bk8 ∨ w9.heap.size ≤ i) [3, 35, 36] (fun (i : Nat) (ao : Option Addr) (ga : Nat) (ca : Nat) => [(37, .int .i64 (i : Int))]) (fun i ao ga ca w => Blk w bk8 349 [.int .i64 (ps.length : Int), .int .i64 (ws.length : Int), .slice ao ((opW ws ws.length ++ opP (ps.length : Int) ps i).length) ca] ∧ (i ≤ ps.length) ∧ (Acc encEw 4 356 w9.heap.size w ao ga ca (opW ws ws.length ++ opP (ps.length : Int) ps i))) (fun i ao ga ca => ps.length - i) 0 ao ga ca ⟨(by rw [hst0]; exact I18), (Nat.zero_le _), (by rw [hst0]; exact har)⟩ ?_
 rintro i ao ga ca w45 ⟨I47, hi, har⟩ u46 zu46 K44 hK44
 have lt_ga := har.lt
 have hwk := opW_len (ws := ws) (Nat.le_refl _)
 have hpk := opP_len (n := (ps.length : Int)) (ps := ps) (k := i)
 have hlk : (opW ws ws.length ++ opP (ps.length : Int) ps i).length = 2 * ws.length + 4 * i := by rw [List.length_append, hwk, hpk]
 refine go ?_
 refine q_p (fun g38 => ?_) fun g38 => ?_
 ·
  have hpm := okNet_p hok (nth_mem (xs := ps) (i := i) (by omega))
  have hst2 : opW ws ws.length ++ opP (ps.length : Int) ps (i + 1) = (opW ws ws.length ++ opP (ps.length : Int) ps i) ++ lnk (ps.length : Int) i 0 (nth ps i).h ++ lnk i ((ps.length : Int) + 1) 0 (nth ps i).w := by rw [opP_succ, List.append_assoc, List.append_assoc, List.append_assoc]
  have hln3 : ((opW ws ws.length ++ opP (ps.length : Int) ps i) ++ lnk (ps.length : Int) i 0 (nth ps i).h).length = (opW ws ws.length ++ opP (ps.length : Int) ps i).length + 2 := List.length_append
  refine go ?_
  refine g_i i (hp.keep (E19.u.next u46 (fun i hi (h : i = bk8 ∨ w9.heap.size ≤ i) => show False by first | omega | assumption)) (fun _ h => h)) (fun _ => ?_)
  refine go ?_
  refine x_n fun bk54 w55 ebk54 sbk54 B56 u57 => ?_
  refine go ?_
  refine x_s fun w59 sw59 B61 u60 => ?_
  refine go ?_
  refine c_drawnM follows (fun i => i = bk8 ∨ (i = ga ∧ w9.heap.size ≤ i)) (OTl [0, 2, 6, 8, 10, 5, 13]) (by kernel_rfl) fun w64 u65 => ?_
  have zu65 := u65.size
  refine go ?_
  have B67 := (((I47.kx u57).keep u60 (by omega)).kx u65)
  refine x_c func198 rfl rfl (source_c bk8 (ps.length : Int) (ws.length : Int) ao ((opW ws ws.length ++ opP (ps.length : Int) ps i).length) ca _ B67) ?_
  rintro _ w69 ⟨rfl, u70⟩ zu70
  refine go ?_
  have B74 := (B67.kx u70)
  have D75 := ((((har.keep u57 (fun _ h => h)).keep u60 (fun hb => show ¬ (ga = bk54) by first | omega | assumption)).keep u65 (fun _ h => h)).keep u70 (fun _ h => h))
  refine t_call own197 rfl rfl rfl rfl (link_c bk8 (ps.length : Int) (ws.length : Int) w9.heap.size ao ga ca (opW ws ws.length ++ opP (ps.length : Int) ps i) (ps.length : Int) (i : Int) 0 ((nth ps i).h) _ B74 D75 (by omega) (by omega) (by omega) (by omega)) (fun v76 w77 r79 => ?_)
  obtain ⟨rfl, ⟨aq73, gq73, cq73, hgq73, haq73, hhq73⟩, u78⟩ := r79
  have zu78 := u78.size
  have lt_gq73 := haq73.lt
  have hlbq73 := hgq73.lt
  refine go ?_
  refine c_drawnM follows (fun i => i = bk8 ∨ (i = gq73 ∧ w9.heap.size ≤ i)) (OTl [0, 2, 4, 8, 10, 7, 13]) (by kernel_rfl) fun w81 u82 => ?_
  have zu82 := u82.size
  refine go ?_
  have B84 := (hgq73.kx u82)
  refine x_c func199 rfl rfl (sink_c bk8 (ps.length : Int) (ws.length : Int) aq73 (((opW ws ws.length ++ opP (ps.length : Int) ps i) ++ lnk (ps.length : Int) (i : Int) 0 ((nth ps i).h)).length) cq73 _ B84 (by omega)) ?_
  rintro _ w86 ⟨rfl, u87⟩ zu87
  refine go ?_
  have B91 := (B84.kx u87)
  have D92 := ((haq73.keep u82 (fun _ h => h)).keep u87 (fun _ h => h))
  refine t_call own197 rfl rfl rfl rfl (link_c bk8 (ps.length : Int) (ws.length : Int) w9.heap.size aq73 gq73 cq73 ((opW ws ws.length ++ opP (ps.length : Int) ps i) ++ lnk (ps.length : Int) (i : Int) 0 ((nth ps i).h)) (i : Int) ((ps.length : Int) + 1) 0 ((nth ps i).w) _ B91 D92 (by omega) (by omega) (by omega) (by omega)) (fun v93 w94 r96 => ?_)
  obtain ⟨rfl, ⟨aq90, gq90, cq90, hgq90, haq90, hhq90⟩, u95⟩ := r96
  have zu95 := u95.size
  have lt_gq90 := haq90.lt
  have hlbq90 := hgq90.lt
  refine go ?_
  exact hK44 (i + 1) aq90 gq90 cq90 ⟨(by rw [hst2]; exact hgq90), (by omega), (by rw [hst2]; exact haq90)⟩ (hu := ((((((((u46.nx u57).next u60 (fun i hi (h : i = bk54) => show i = bk8 ∨ w9.heap.size ≤ i by first | omega | assumption)).nx u65).nx u70).next u78 (fun i hi (h : i = bk8 ∨ (i = ga ∧ w9.heap.size ≤ i)) => show i = bk8 ∨ w9.heap.size ≤ i by first | omega | assumption)).nx u82).nx u87).next u95 (fun i hi (h : i = bk8 ∨ (i = gq73 ∧ w9.heap.size ≤ i)) => show i = bk8 ∨ w9.heap.size ≤ i by first | omega | assumption)))
 refine go ?_
 refine f_1 results138 ?_
 obtain rfl : i = ps.length := by omega
 exact ⟨⟨bk8, ao, ga, ca, w9.heap.size, rfl, by omega, by omega, by omega, I47, har⟩, u_d⟩

end Go.Proofs.YtclinbbghnebaaaGreat
