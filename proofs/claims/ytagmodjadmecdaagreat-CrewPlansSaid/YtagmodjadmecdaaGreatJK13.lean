/-
  Part 13 of the proof: contracts and plain laws. Conditions: none.
-/
import Derived.Test.YtagmodjadmecdaaGreatJK12
namespace Go.Proofs.YtagmodjadmecdaaGreat
open Go Go.RowKit Tryz

theorem nth_set_eq {α : Type} [Inhabited α] {xs : List α} {j : Nat} {y : α} (h : j < xs.length) : nth (xs.set j y) j = y := by simp [nth, List.getD_eq_getElem?_getD, h]
theorem Acc.posG {α : Type} {enc : α → List Value} {k : Nat} {e : TypeId} {base : Nat} {w : World} {ao : Option Addr} {g cap : Nat} {xs : List α} (h : Acc enc k e base w ao g cap xs) (hp : 0 < xs.length) : base ≤ g := by
  rcases h.at_ with ⟨_, h1, _⟩ | ⟨_, h1, _⟩
  · rw [h1] at hp; cases hp
  · exact h1
def addS (r : Rul) (ys : List Shf) (s : Sp) : List Shf :=
  if ys.length = 0 ∨ (nth ys (ys.length - 1)).e + r.rest ≤ s.b then ys ++ [⟨s.b, s.e, s.e - s.b⟩]
  else ys.set (ys.length - 1) ⟨(nth ys (ys.length - 1)).b, max (nth ys (ys.length - 1)).e s.e, (nth ys (ys.length - 1)).w + (s.e - s.b)⟩
theorem addS_cons {r : Rul} {x : Shf} {ys : List Shf} {s : Sp} (h : 0 < ys.length) : addS r (x :: ys) s = x :: addS r ys s := by
  have e : nth (x :: ys) ((x :: ys).length - 1) = nth ys (ys.length - 1) := by
    rw [show (x :: ys).length - 1 = (ys.length - 1) + 1 by rw [List.length_cons]; omega]; simp [nth]
  unfold addS
  rw [e]
  by_cases hc : (nth ys (ys.length - 1)).e + r.rest ≤ s.b
  · rw [if_pos (.inr hc), if_pos (.inr hc)]; rfl
  · rw [if_neg (by rintro (q | q); · rw [List.length_cons] at q; omega
                   · exact hc q), if_neg (by rintro (q | q); · omega
                                             · exact hc q)]
    rw [show (x :: ys).length - 1 = (ys.length - 1) + 1 by rw [List.length_cons]; omega]; rfl
theorem shGo_pos {r : Rul} : ∀ {l : List Sp} {x : Shf}, 0 < (shGo r x l).length
  | [], x => by simp [shGo]
  | s :: l, x => by
    unfold shGo
    split
    · exact shGo_pos
    · simp
theorem shGo_snoc {r : Rul} {s : Sp} : ∀ {l : List Sp} {x : Shf}, shGo r x (l ++ [s]) = addS r (shGo r x l) s
  | [], x => by
    show shGo r x [s] = addS r [x] s
    rw [shGo]
    unfold addS
    have e : nth [x] ([x].length - 1) = x := rfl
    rw [e]
    by_cases h : s.b < x.e + r.rest
    · rw [if_pos h, if_neg (by rintro (q | q); · cases q
                               · omega)]; rfl
    · rw [if_neg h, if_pos (.inr (by omega))]; rfl
  | t :: l, x => by
    show shGo r x (t :: (l ++ [s])) = addS r (shGo r x (t :: l)) s
    rw [shGo, shGo]
    split
    · exact shGo_snoc
    · rw [shGo_snoc, addS_cons shGo_pos]
theorem shs_snoc {r : Rul} {s : Sp} {l : List Sp} : shiftsP r (l ++ [s]) = addS r (shiftsP r l) s := by
  cases l with
  | nil => unfold addS; rw [if_pos (.inl rfl)]; rfl
  | cons t l => exact shGo_snoc
theorem shGo_bnd {r : Rul} : ∀ {l : List Sp} {x : Shf}, (∀ s ∈ l, OkSp s) → ((0 ≤ x.b ∧ x.b ≤ 20160) ∧ (0 ≤ x.e ∧ x.e ≤ 20160) ∧ 0 ≤ x.w) → ∀ y ∈ shGo r x l, (0 ≤ y.b ∧ y.b ≤ 20160) ∧ (0 ≤ y.e ∧ y.e ≤ 20160) ∧ 0 ≤ y.w ∧ y.w ≤ max x.w 0 + 20160 * (l.length : Int)
  | [], x, _, h, y, hy => by rw [List.mem_singleton.1 hy]; simp only [List.length_nil]; omega
  | s :: l, x, hl, h, y, hy => by
    have hs := hl s (by simp); unfold OkSp at hs
    rw [shGo] at hy
    rw [List.length_cons]
    split at hy
    · have := shGo_bnd (x := ⟨x.b, max x.e s.e, x.w + (s.e - s.b)⟩) (fun z hz => hl z (by simp [hz])) (by simp only []; omega) y hy
      simp only [] at this; omega
    · rcases List.mem_cons.1 hy with e | hy
      · subst e; omega
      · have := shGo_bnd (x := ⟨s.b, s.e, s.e - s.b⟩) (fun z hz => hl z (by simp [hz])) (by simp only []; omega) y hy
        simp only [] at this; omega
theorem shs_bnd {r : Rul} {l : List Sp} (hl : ∀ s ∈ l, OkSp s) : ∀ y ∈ shiftsP r l, (0 ≤ y.b ∧ y.b ≤ 20160) ∧ (0 ≤ y.e ∧ y.e ≤ 20160) ∧ 0 ≤ y.w ∧ y.w ≤ 20160 * (l.length : Int) := fun y hy => by
  match l, hl, hy with
  | s :: l, hl, hy =>
    have hs := hl s (by simp); unfold OkSp at hs
    have := shGo_bnd (x := ⟨s.b, s.e, s.e - s.b⟩) (fun z hz => hl z (by simp [hz])) (by simp only []; omega) y hy
    rw [List.length_cons]
    simp only [] at this; omega
theorem addS_new {r : Rul} {l : List Sp} {out : List Shf} {k : Nat} (he : out = shiftsP r (l.take k)) (hk : k < l.length) (hc : out.length = 0 ∨ (nth out (out.length - 1)).e + r.rest ≤ (nth l k).b) : out ++ [⟨(nth l k).b, (nth l k).e, (nth l k).e - (nth l k).b⟩] = shiftsP r (l.take (k + 1)) := by
  rw [take_nth hk, shs_snoc, ← he]; unfold addS; rw [if_pos hc]
theorem addS_old {r : Rul} {l : List Sp} {out : List Shf} {k : Nat} (he : out = shiftsP r (l.take k)) (hk : k < l.length) (hc : ¬ (out.length = 0 ∨ (nth out (out.length - 1)).e + r.rest ≤ (nth l k).b)) {a b : Int} (ha : a = max (nth out (out.length - 1)).e (nth l k).e) (hb : b = (nth out (out.length - 1)).w + ((nth l k).e - (nth l k).b)) :
    (out.set (out.length - 1) ⟨(nth out (out.length - 1)).b, a, (nth out (out.length - 1)).w⟩).set (out.length - 1) ⟨(nth out (out.length - 1)).b, a, b⟩ = shiftsP r (l.take (k + 1)) := by
  rw [take_nth hk, shs_snoc, ← he]; unfold addS; rw [if_neg hc, List.set_set, ha, hb]
def winK (r : Rul) (l : List Sp) (t : Int) (k : Nat) : Int := sumI2 ((l.take k).map fun s => inW s (t - r.week) t)
theorem winK_succ {r : Rul} {l : List Sp} {t : Int} {k : Nat} (hk : k < l.length) : winK r l t (k + 1) = winK r l t k + inW (nth l k) (t - r.week) t := by unfold winK; rw [take_nth hk, List.map_append]; exact sumI2_snoc _ _
theorem winK_rng {r : Rul} {l : List Sp} {t : Int} (hl : ∀ s ∈ l, OkSp s) : ∀ {k : Nat}, k ≤ l.length → 0 ≤ winK r l t k ∧ winK r l t k ≤ 20160 * (k : Int)
  | 0, _ => ⟨Int.le_refl _, Int.le_refl _⟩
  | k + 1, hk => by
    have h1 := winK_rng (r := r) (t := t) hl (k := k) (by omega)
    have h2 := inW_rng (a := t - r.week) (b := t) (hl _ (nth_mem (show k < l.length by omega)))
    rw [winK_succ (by omega)]; omega
def mxN (l : List Sp) (k : Nat) : Int := (l.take k).foldl (fun e s => max e s.e) (-1)
theorem mxN_succ {l : List Sp} {k : Nat} (hk : k < l.length) : mxN l (k + 1) = max (mxN l k) (nth l k).e := by unfold mxN; rw [take_nth hk, List.foldl_append]; rfl
theorem mxN_rng {l : List Sp} (hl : ∀ s ∈ l, OkSp s) : ∀ {k : Nat}, k ≤ l.length → -1 ≤ mxN l k ∧ mxN l k ≤ 20160
  | 0, _ => by unfold mxN; simp
  | k + 1, hk => by
    have h1 := mxN_rng hl (k := k) (by omega)
    have h2 := hl _ (nth_mem (show k < l.length by omega)); unfold OkSp at h2
    rw [mxN_succ (by omega)]; omega
theorem ovl_neg {l : List Sp} (hl : ∀ s ∈ l, OkSp s) : ovlP 0 l = ovlP (-1) l := by
  cases l with
  | nil => rfl
  | cons s l =>
    have hs := hl s (by simp); unfold OkSp at hs
    unfold ovlP
    rw [show max (0 : Int) s.e = max (-1) s.e by omega, show decide (s.b < 0) = decide (s.b < -1) by rw [decide_eq_decide]; omega]
theorem ovlN_yes {l : List Sp} (hl : ∀ s ∈ l, OkSp s) {k : Nat} (hk : k < l.length) (h : (nth l k).b < mxN l k) : ovlP 0 l = true := by rw [ovl_neg hl]; exact ovl_take.2 ⟨k, hk, h⟩
theorem ovlN_no {l : List Sp} (hl : ∀ s ∈ l, OkSp s) (h : ∀ k, k < l.length → ¬ (nth l k).b < mxN l k) : ovlP 0 l = false := by
  rw [ovl_neg hl]
  cases hc : ovlP (-1) l with
  | false => rfl
  | true => obtain ⟨k, hk, hq⟩ := ovl_take.1 hc; exact absurd hq (h k hk)
theorem any_no {α : Type} [Inhabited α] {p : α → Bool} {l : List α} (h : ∀ k, k < l.length → p (nth l k) = false) : l.any p = false := by
  rw [List.any_eq_false]
  intro x hx
  obtain ⟨i, hi, rfl⟩ := List.getElem_of_mem hx
  have := h i hi
  rw [nth_eq hi] at this
  simp [this]
theorem own15 : Own Tryz.prog 15 := ⟨Tryz.f15, func15, by kernel_rfl, by kernel_rfl⟩
theorem own56 : Own Tryz.prog 56 := ⟨Tryz.f56, func56, by kernel_rfl, by kernel_rfl⟩
theorem own18 : Own Tryz.prog 18 := ⟨Tryz.f18, func18, by kernel_rfl, by kernel_rfl⟩
theorem rShifts_c (r : Rul) (l : List Sp) (al : Option Addr) (bl ol cl : Nat) (w0 : World) (hl : Sl encSp 2 w0 al bl ol l) (hll : l.length ≤ 1000) (hok : ∀ s ∈ l, OkSp s) (hr : okRul r = true) (hpos : 0 < w0.heap.size) :
    CallsV Tryz.prog 15 [.agg #[.int .i64 r.rest, .int .i64 r.span, .int .i64 r.work, .int .i64 r.week, .int .i64 r.ww], .slice al l.length cl] w0 (fun v w' => (∃ ao g cp, v = .slice ao (List.length (shiftsP r l)) cp ∧ Acc encShf 3 44 w0.heap.size w' ao g cp (shiftsP r l)) ∧ Ext w0 w') := by
 have hrr := rul_rng hr
 refine f_enter (N := 102) func15 rfl rfl rfl (c_seq fun K1 hK1 => (c_region (t_box (cs := [.int .i64 r.rest, .int .i64 r.span, .int .i64 r.work, .int .i64 r.week, .int .i64 r.ww]) rfl rfl rfl rfl (fun bk2 w3 ebk2 sbk2 B4 u5 => ?_))))
 have zu5 := u5.size
 refine t_assign rfl rfl rfl (t_nil' (hK1 _ _ (c_seq fun K7 hK7 => (c_region (t_bslice (ps := []) (cs := []) (e := 44) rfl rfl ⟨rfl, rfl⟩ (fun w => by kernel_rfl) (fun bk8 w9 ebk8 sbk8 B10 u11 => ?_))))))
 have zu11 := u11.size
 refine t_assign rfl rfl rfl (t_nil' (hK7 _ _ (c_seq fun K13 hK13 => (c_seq fun K14 hK14 => (c_region (t_assign rfl rfl rfl (t_nil' (hK14 _ _ (c_block (c_loop (γ := Nat × Option Addr × Nat × Nat × List Shf) (fun gg => [(1, .slice al l.length cl), (2, .pointer (some ⟨bk2, 0, none⟩)), (5, .slice gg.2.1 gg.2.2.2.2.length gg.2.2.2.1), (6, .int .i64 (gg.1 : Int))]) (fun gg w => Upd (fun i => bk8 ≤ i) w9 w ∧ (gg.1 ≤ l.length) ∧ (Acc encShf 3 44 bk8 w gg.2.1 gg.2.2.1 gg.2.2.2.1 gg.2.2.2.2) ∧ (gg.2.2.2.2 = shiftsP r (l.take gg.1))) (fun gg => l.length - gg.1) (0, some ⟨bk8, 0, none⟩, bk8, 0, []) ⟨rfl, rfl, rfl, rfl, trivial⟩ ⟨Upd.refl _ _, (Nat.zero_le _), (Acc.ofRaw (cs := []) B10 (Nat.le_refl _) (Nat.le_refl _) (Nat.zero_le _) (by rfl) (by rfl)), rfl⟩ ?_))))))))))
 intro gg w16 hW K15 hK15
 obtain ⟨k, ao, go, co, out⟩ := gg
 change WC _ _ _ _ _ _ [(1, .slice al l.length cl), (2, .pointer (some ⟨bk2, 0, none⟩)), (5, .slice ao out.length co), (6, .int .i64 (k : Int))] _
 change Upd (fun i => bk8 ≤ i) w9 w16 ∧ (k ≤ l.length) ∧ (Acc encShf 3 44 bk8 w16 ao go co out) ∧ (out = shiftsP r (l.take k)) at hW
 obtain ⟨u17, I18, I19, I20⟩ := hW
 have zu17 := u17.size
 have E21 := (((Upd.refl (fun _ => False) w0).nx u5).nx u11).next u17 (fun i hi (h : bk8 ≤ i) => show False by first | omega | assumption)
 have hk := I18; clear I18
 have hout := I19; clear I19
 have hoe := I20; clear I20
 have lt_go := hout.lt
 have hol : out.length ≤ k := by rw [hoe]; have h9 := shifts_len (r := r) (l := l.take k); rw [List.length_take] at h9; omega
 refine c_seq fun K22 hK22 => (c_seq fun K23 hK23 => (c_region (t_move rfl rfl rfl (t_move rfl rfl rfl (t_len underlying41 rfl rfl rfl rfl (t_cmp rfl rfl rfl rfl rfl (t_nil' (hK23 _ _ (c_condp rfl (fun g12 => ?_) (fun g12 => ?_))))))))))
 ·
  have hbl := hl.lt (show 0 < l.length by omega)
  have ho := hok _ (nth_mem (show k < l.length by omega))
  unfold OkSp at ho
  refine c_skip (hK22 _ _ (c_seq fun K24 hK24 => (c_block (c_seq fun K25 hK25 => (c_region (t_move rfl rfl rfl (t_len underlying29 rfl rfl rfl rfl (t_assign rfl rfl rfl (t_nil' (hK25 _ _ (c_seq fun K26 hK26 => (c_cut (γ := Bool) (fun q => [(1, .slice al l.length cl), (2, .pointer (some ⟨bk2, 0, none⟩)), (5, .slice ao out.length co), (6, .int .i64 (k : Int)), (7, .int .i64 (out.length : Int)), (35, .bool q)]) (fun q w => Upd (fun _ => False) w16 w ∧ (q = true ↔ (out.length = 0 ∨ (nth out (out.length - 1)).e + r.rest ≤ (nth l k).b))) (fun K28 hK28 => ?_) ?_))))))))))))
  ·
   refine c_drawnM follows (fun _ => False) (.look 0 (.look 1 (.look 2 (.look 3 (.look 4 (.look 5 (.look 6 (.look 7 (.look 8 (.look 9 (.look 10 (.look 11 (.look 12 (.look 13 (.look 14 (.look 15 (.look 16 (.look 17 (.look 18 .done))))))))))))))))))) (by kernel_rfl) fun w31 u32 => ?_
   have zu32 := u32.size
   have E33 := E21.nx u32
   refine y_move rfl rfl rfl (y_cmp rfl rfl rfl rfl rfl (y_move rfl rfl rfl (y_splitp 19 rfl (fun g19 => ?_) (fun g19 => ?_))))
   ·
    refine y_skip rfl rfl rfl (y_skip rfl rfl rfl (y_skip rfl rfl rfl (y_skip rfl rfl rfl (y_skip rfl rfl rfl (y_skip rfl rfl rfl (y_skip rfl rfl rfl (y_skip rfl rfl rfl (y_skip rfl rfl rfl (y_skip rfl rfl rfl (y_skip rfl rfl rfl (y_skip rfl rfl rfl (y_skip rfl rfl rfl (y_skip rfl rfl rfl (y_skip rfl rfl rfl (y_pick_t rfl rfl rfl rfl (s_nil ?_))))))))))))))))
    exact hK28 true _ _ ⟨rfl, rfl, rfl, rfl, rfl, rfl, trivial⟩ ⟨((Upd.refl _ _).nx u32), ⟨fun _ => .inl (by omega), fun _ => rfl⟩⟩
   have hyb := shs_bnd (r := r) (l := l.take k) (fun s hs => hok s (List.mem_of_mem_take hs)) (nth out (out.length - 1)) (by rw [← hoe]; exact nth_mem (show out.length - 1 < out.length by omega))
   rw [List.length_take] at hyb
   refine y_move rfl rfl rfl (y_move rfl rfl rfl ?_)
   have i34 : k < l.length := (by omega)
   refine y_index (j := k) underlying41 sizeOf114 rfl rfl rfl rfl ((hl.keep E33 (fun _ h => h)).addr (by omega)) rfl i34 (y_field underlying114 rfl sizeOf3 (ol + k * 2 + 0) rfl rfl rfl rfl (y_load isAgg3 rfl rfl rfl (((hl.keep E33 (fun _ h => h)).at_ k (by omega)) 0 _ rfl) (fun h => h) (y_move rfl rfl rfl (y_move rfl rfl rfl (y_ari rfl rfl rfl rfl rfl (by omega) ?_)))))
   have D35 := (hout.kE u32)
   have i36 : (out.length - 1) < out.length := (by omega)
   refine y_index (j := (out.length - 1)) underlying29 sizeOf44 rfl rfl rfl rfl ((D35.sl (fun _ => rfl)).addr (by omega)) (by omega) i36 (y_field underlying44 rfl sizeOf3 (0 + (out.length - 1) * 3 + 1) rfl rfl rfl rfl ?_)
   have D37 := (hout.kE u32)
   refine y_load isAgg3 rfl rfl rfl (((D37.sl (fun _ => rfl)).at_ (out.length - 1) (by omega)) 1 _ rfl) (fun h => h) (y_field underlying23 rfl sizeOf3 (0) rfl rfl rfl rfl ?_)
   have B38 := (((B4.kx u11).keep u17 (show ¬ (bk8 ≤ bk2) by first | omega | assumption)).kx u32)
   refine y_load isAgg3 rfl rfl rfl (B38.get rfl) (fun h => h) (y_ari rfl rfl rfl rfl rfl (by omega) (y_cmp rfl rfl rfl rfl rfl (y_pick_f rfl rfl rfl rfl (s_nil ?_))))
   exact hK28 (decide (((nth out (out.length - 1)).e + r.rest) ≤ (nth l k).b)) _ _ ⟨rfl, rfl, rfl, rfl, rfl, rfl, trivial⟩ ⟨((Upd.refl _ _).nx u32), (by rw [decide_eq_true_eq]; exact ⟨fun h => .inr (by omega), fun h => by omega⟩)⟩
  intro q w29 hW
  obtain ⟨u30, I39⟩ := hW
  have zu30 := u30.size
  have E40 := E21.nx u30
  have hcc := I39; clear I39
  refine c_cond rfl (fun g35 => ?_) (fun g35 => ?_)
  ·
   refine c_seq fun K41 hK41 => (c_drawnM follows (fun i => (i = go ∧ bk8 ≤ i)) (.look 0 (.look 1 (.look 2 (.look 3 (.look 4 (.look 5 (.look 6 (.look 7 (.look 8 (.look 9 (.look 10 (.look 11 (.look 12 (.look 13 (.look 14 (.look 15 (.look 16 (.look 17 (.look 18 (.look 19 (.look 20 (.look 21 (.look 22 (.act 23 (.act 24 (.look 25 .done) .stop) .stop)))))))))))))))))))))))) (by kernel_rfl) fun w42 u43 => ?_)
   have zu43 := u43.size
   have E44 := E40.nx u43
   refine y_move rfl rfl rfl (y_move rfl rfl rfl (y_move rfl rfl rfl ?_))
   have i45 : k < l.length := (by omega)
   refine y_index (j := k) underlying41 sizeOf114 rfl rfl rfl rfl ((hl.keep E44 (fun _ h => h)).addr (by omega)) rfl i45 (y_field underlying114 rfl sizeOf3 (ol + k * 2 + 0) rfl rfl rfl rfl (y_load isAgg3 rfl rfl rfl (((hl.keep E44 (fun _ h => h)).at_ k (by omega)) 0 _ rfl) (by show ¬ ((bl = go ∧ bk8 ≤ bl)); first | omega | assumption) (y_move rfl rfl rfl (y_move rfl rfl rfl ?_))))
   have i46 : k < l.length := (by omega)
   refine y_index (j := k) underlying41 sizeOf114 rfl rfl rfl rfl ((hl.keep E44 (fun _ h => h)).addr (by omega)) rfl i46 (y_field underlying114 rfl sizeOf3 (ol + k * 2 + 1) rfl rfl rfl rfl (y_load isAgg3 rfl rfl rfl (((hl.keep E44 (fun _ h => h)).at_ k (by omega)) 1 _ rfl) (by show ¬ ((bl = go ∧ bk8 ≤ bl)); first | omega | assumption) (y_move rfl rfl rfl (y_move rfl rfl rfl ?_))))
   have i47 : k < l.length := (by omega)
   refine y_index (j := k) underlying41 sizeOf114 rfl rfl rfl rfl ((hl.keep E44 (fun _ h => h)).addr (by omega)) rfl i47 (y_field underlying114 rfl sizeOf3 (ol + k * 2 + 1) rfl rfl rfl rfl (y_load isAgg3 rfl rfl rfl (((hl.keep E44 (fun _ h => h)).at_ k (by omega)) 1 _ rfl) (by show ¬ ((bl = go ∧ bk8 ≤ bl)); first | omega | assumption) (y_move rfl rfl rfl (y_move rfl rfl rfl ?_))))
   have i48 : k < l.length := (by omega)
   refine y_index (j := k) underlying41 sizeOf114 rfl rfl rfl rfl ((hl.keep E44 (fun _ h => h)).addr (by omega)) rfl i48 (y_field underlying114 rfl sizeOf3 (ol + k * 2 + 0) rfl rfl rfl rfl (y_load isAgg3 rfl rfl rfl (((hl.keep E44 (fun _ h => h)).at_ k (by omega)) 0 _ rfl) (by show ¬ ((bl = go ∧ bk8 ≤ bl)); first | omega | assumption) (y_ari rfl rfl rfl rfl rfl (by omega) (y_build (ps := [(0, .int .i64 ((nth l k).b)), (1, .int .i64 ((nth l k).e)), (2, .int .i64 (((nth l k).e) - ((nth l k).b)))]) (v := .agg #[.int .i64 ((nth l k).b), .int .i64 ((nth l k).e), .int .i64 (((nth l k).e) - ((nth l k).b))]) rfl rfl ⟨rfl, rfl⟩ (fun w => by kernel_rfl) (s_do (t_bslice (ps := [(0, .agg #[.int .i64 ((nth l k).b), .int .i64 ((nth l k).e), .int .i64 (((nth l k).e) - ((nth l k).b))])]) (cs := [.int .i64 ((nth l k).b), .int .i64 ((nth l k).e), .int .i64 (((nth l k).e) - ((nth l k).b))]) (e := 44) rfl rfl ⟨rfl, rfl⟩ (fun w => by kernel_rfl) (fun bk49 w50 ebk49 sbk49 B51 u52 => ?_)))))))
   have zu52 := u52.size
   refine s_next ((Upd.refl _ _).nx u52) (s_do ?_)
   have D54 := (((hout.kE u30).kE u43).kE u52)
   refine t_append (z := .agg #[.int .i64 0, .int .i64 0, .int .i64 0]) (bytes := 24) (k := 3) (base := bk8) (⟨(nth l k).b, (nth l k).e, (((nth l k).e) - ((nth l k).b))⟩ : Shf) underlying29 (by kernel_rfl) rfl (by decide) (fun _ => rfl) (by intro x; simp [encShf, Value.oneCell']) rfl rfl rfl rfl D54 B51 (by omega) (by omega) (by decide) (fun ao55 gb56 cp57 w58 A59 u60 gegb56 lngb56 => ?_)
   have zu60 := u60.size
   have lt_gb56 := A59.lt
   refine s_next ((Upd.refl _ _).next u60 (fun i hi (h : (i = go ∧ bk8 ≤ i)) => show w42.heap.size ≤ i ∨ ((i = go ∧ bk8 ≤ i)) by first | omega | exact .inr h)) (y_assign rfl rfl rfl (s_nil (hK41 _ _ (c_exit (hK24 _ _ (c_region (t_move rfl rfl rfl (t_ari rfl rfl rfl rfl rfl (by omega) (t_assign rfl rfl rfl (t_nil' ?_))))))))))
   exact hK15 (k + 1, ao55, gb56, cp57, (out ++ [(⟨(nth l k).b, (nth l k).e, (((nth l k).e) - ((nth l k).b))⟩ : Shf)])) _ _ (by show l.length - (k + 1) < l.length - k; omega) ⟨rfl, rfl, (by first | rfl | exact congrArg (fun n => some (Value.slice ao n co)) (show out.length = _ by simp only [List.length_set])), rfl, trivial⟩ ⟨((((u17.nx u30).nx u43).nx u52).next u60 (fun i hi (h : (i = go ∧ bk8 ≤ i)) => show bk8 ≤ i by first | omega | assumption)), (by omega), A59, (addS_new hoe (by omega) (hcc.1 g35))⟩
  have ho0 : 0 < out.length := by
    rcases Nat.eq_zero_or_pos out.length with h | h
    · rw [hcc.2 (.inl h)] at g35; cases g35
    · exact h
  have hgo := hout.posG ho0
  have hyb := shs_bnd (r := r) (l := l.take k) (fun s hs => hok s (List.mem_of_mem_take hs)) (nth out (out.length - 1)) (by rw [← hoe]; exact nth_mem (show out.length - 1 < out.length by omega))
  rw [List.length_take] at hyb
  refine c_skip (hK26 _ _ (c_drawnM follows (fun i => i = go) (.look 0 (.look 1 (.look 2 (.look 3 (.look 4 (.look 5 (.look 6 (.look 7 (.look 8 (.look 9 (.look 10 (.look 12 (.look 13 (.look 14 (.look 15 (.look 16 (.look 18 (.look 19 (.look 20 (.look 21 (.look 22 (.look 24 (.look 25 (.look 26 (.look 27 (.look 28 (.look 30 (.look 31 (.look 32 (.look 33 (.look 34 (.act 11 (.look 17 (.act 23 (.look 29 (.look 35 (.look 36 (.look 37 (.act 38 (.look 39 (.look 40 (.act 41 .done .stop))) .stop))))) .stop)) (.act 23 (.look 29 (.look 35 (.act 11 (.look 17 (.look 36 (.look 37 (.act 38 (.look 39 (.look 40 (.act 41 .done .stop))) .stop)))) .stop))) .stop))))))))))))))))))))))))))))))))) (by kernel_rfl) fun w62 u63 => ?_))
  have zu63 := u63.size
  have E64 := E40.nx u63
  refine y_move rfl rfl rfl (y_move rfl rfl rfl (y_ari rfl rfl rfl rfl rfl (by omega) (y_move rfl rfl rfl (y_move rfl rfl rfl (y_ari rfl rfl rfl rfl rfl (by omega) (y_move rfl rfl rfl (y_move rfl rfl rfl (y_ari rfl rfl rfl rfl rfl (by omega) ?_))))))))
  have D65 := ((hout.kE u30).kE u63)
  have i66 : (out.length - 1) < out.length := (by omega)
  refine y_index (j := (out.length - 1)) underlying29 sizeOf44 rfl rfl rfl rfl ((D65.sl (fun _ => rfl)).addr (by omega)) (by omega) i66 (y_field underlying44 rfl sizeOf3 (0 + (out.length - 1) * 3 + 1) rfl rfl rfl rfl (y_move rfl rfl rfl (y_move rfl rfl rfl ?_)))
  have i67 : k < l.length := (by omega)
  refine y_index (j := k) underlying41 sizeOf114 rfl rfl rfl rfl ((hl.keep E64 (fun _ h => h)).addr (by omega)) rfl i67 (y_field underlying114 rfl sizeOf3 (ol + k * 2 + 1) rfl rfl rfl rfl (y_load isAgg3 rfl rfl rfl (((hl.keep E64 (fun _ h => h)).at_ k (by omega)) 1 _ rfl) (by show ¬ (bl = go); first | omega | assumption) (y_move rfl rfl rfl (y_move rfl rfl rfl (y_ari rfl rfl rfl rfl rfl (by omega) ?_)))))
  have i68 : (out.length - 1) < out.length := (by omega)
  refine y_index (j := (out.length - 1)) underlying29 sizeOf44 rfl rfl rfl rfl ((D65.sl (fun _ => rfl)).addr (by omega)) (by omega) i68 (y_field underlying44 rfl sizeOf3 (0 + (out.length - 1) * 3 + 2) rfl rfl rfl rfl (y_move rfl rfl rfl (y_move rfl rfl rfl ?_)))
  have i69 : k < l.length := (by omega)
  refine y_index (j := k) underlying41 sizeOf114 rfl rfl rfl rfl ((hl.keep E64 (fun _ h => h)).addr (by omega)) rfl i69 (y_field underlying114 rfl sizeOf3 (ol + k * 2 + 1) rfl rfl rfl rfl (y_load isAgg3 rfl rfl rfl (((hl.keep E64 (fun _ h => h)).at_ k (by omega)) 1 _ rfl) (by show ¬ (bl = go); first | omega | assumption) (y_move rfl rfl rfl (y_move rfl rfl rfl ?_))))
  have i70 : k < l.length := (by omega)
  refine y_index (j := k) underlying41 sizeOf114 rfl rfl rfl rfl ((hl.keep E64 (fun _ h => h)).addr (by omega)) rfl i70 (y_field underlying114 rfl sizeOf3 (ol + k * 2 + 0) rfl rfl rfl rfl (y_load isAgg3 rfl rfl rfl (((hl.keep E64 (fun _ h => h)).at_ k (by omega)) 0 _ rfl) (by show ¬ (bl = go); first | omega | assumption) (s_or ?_ ?_)))
  ·
   refine s_do (t_load isAgg3 rfl rfl rfl (((D65.sl (fun _ => rfl)).at_ (out.length - 1) (by omega)) 1 _ rfl) (s_next (Upd.refl _ _) (y_max rfl rfl rfl rfl (s_do (t_load isAgg3 rfl rfl rfl (((D65.sl (fun _ => rfl)).at_ (out.length - 1) (by omega)) 2 _ rfl) (s_next (Upd.refl _ _) (y_ari rfl rfl rfl rfl rfl (by omega) (y_ari rfl rfl rfl rfl rfl (by omega) ?_))))))))
   have i71 : (out.length - 1) < out.length := (by omega)
   refine y_index (j := (out.length - 1)) underlying29 sizeOf44 rfl rfl rfl rfl ((D65.sl (fun _ => rfl)).addr (by omega)) (by omega) i71 (y_field underlying44 rfl sizeOf3 (0 + (out.length - 1) * 3 + 1) rfl rfl rfl rfl (s_do (t_storeA (vs := [.int .i64 (max ((nth out (out.length - 1)).e) ((nth l k).e))]) (j := (out.length - 1)) (o' := 1) (k := 3) (⟨(nth out (out.length - 1)).b, (max ((nth out (out.length - 1)).e) ((nth l k).e)), (nth out (out.length - 1)).w⟩ : Shf) (fun _ => rfl) sizeOf3 rfl rfl (by omega) rfl D65 (by first | omega | (rw [List.length_set]; omega)) rfl rfl (by decide) (by simp [Value.oneCell']) rfl (fun w72 R74 u73 => ?_))))
   have zu73 := u73.size
   refine s_next ((Upd.refl _ _).next u73 (fun i hi (h : i = go) => show w62.heap.size ≤ i ∨ (i = go) by first | omega | exact .inr h)) ?_
   have i76 : (out.length - 1) < (out.set (out.length - 1) (⟨(nth out (out.length - 1)).b, (max ((nth out (out.length - 1)).e) ((nth l k).e)), (nth out (out.length - 1)).w⟩ : Shf)).length := (by rw [List.length_set]; omega)
   refine y_index (j := (out.length - 1)) underlying29 sizeOf44 rfl rfl rfl rfl ((R74.sl (fun _ => rfl)).addr (by omega)) (by omega) (by first | omega | (rw [List.length_set]; omega)) (y_field underlying44 rfl sizeOf3 (0 + (out.length - 1) * 3 + 2) rfl rfl rfl rfl (s_do (t_storeA (vs := [.int .i64 (((nth out (out.length - 1)).w + ((nth l k).e)) - ((nth l k).b))]) (j := (out.length - 1)) (o' := 2) (k := 3) (⟨(nth out (out.length - 1)).b, (max ((nth out (out.length - 1)).e) ((nth l k).e)), (((nth out (out.length - 1)).w + ((nth l k).e)) - ((nth l k).b))⟩ : Shf) (fun _ => rfl) sizeOf3 rfl rfl (by omega) rfl R74 (by first | omega | (rw [List.length_set]; omega)) rfl rfl (by decide) (by simp [Value.oneCell']) (by rw [nth_set_eq (by omega)]; rfl) (fun w77 R79 u78 => ?_))))
   have zu78 := u78.size
   refine s_next ((Upd.refl _ _).next u78 (fun i hi (h : i = go) => show w62.heap.size ≤ i ∨ (i = go) by first | omega | exact .inr h)) (s_nil (hK24 _ _ (c_region (t_move rfl rfl rfl (t_ari rfl rfl rfl rfl rfl (by omega) (t_assign rfl rfl rfl (t_nil' ?_)))))))
   exact hK15 (k + 1, ao, go, co, ((out.set (out.length - 1) (⟨(nth out (out.length - 1)).b, (max ((nth out (out.length - 1)).e) ((nth l k).e)), (nth out (out.length - 1)).w⟩ : Shf)).set (out.length - 1) (⟨(nth out (out.length - 1)).b, (max ((nth out (out.length - 1)).e) ((nth l k).e)), (((nth out (out.length - 1)).w + ((nth l k).e)) - ((nth l k).b))⟩ : Shf))) _ _ (by show l.length - (k + 1) < l.length - k; omega) ⟨rfl, rfl, (by first | rfl | exact congrArg (fun n => some (Value.slice ao n co)) (show out.length = _ by simp only [List.length_set])), rfl, trivial⟩ ⟨((((u17.nx u30).nx u63).next u73 (fun i hi (h : i = go) => show bk8 ≤ i by first | omega | assumption)).next u78 (fun i hi (h : i = go) => show bk8 ≤ i by first | omega | assumption)), (by omega), R79, (addS_old hoe (by omega) (fun h => by rw [hcc.2 h] at g35; cases g35) rfl (by omega))⟩
  refine s_do (t_load isAgg3 rfl rfl rfl (((D65.sl (fun _ => rfl)).at_ (out.length - 1) (by omega)) 2 _ rfl) (s_next (Upd.refl _ _) (y_ari rfl rfl rfl rfl rfl (by omega) (y_ari rfl rfl rfl rfl rfl (by omega) (s_do (t_load isAgg3 rfl rfl rfl (((D65.sl (fun _ => rfl)).at_ (out.length - 1) (by omega)) 1 _ rfl) (s_next (Upd.refl _ _) (y_max rfl rfl rfl rfl ?_))))))))
  have i81 : (out.length - 1) < out.length := (by omega)
  refine y_index (j := (out.length - 1)) underlying29 sizeOf44 rfl rfl rfl rfl ((D65.sl (fun _ => rfl)).addr (by omega)) (by omega) i81 (y_field underlying44 rfl sizeOf3 (0 + (out.length - 1) * 3 + 1) rfl rfl rfl rfl (s_do (t_storeA (vs := [.int .i64 (max ((nth out (out.length - 1)).e) ((nth l k).e))]) (j := (out.length - 1)) (o' := 1) (k := 3) (⟨(nth out (out.length - 1)).b, (max ((nth out (out.length - 1)).e) ((nth l k).e)), (nth out (out.length - 1)).w⟩ : Shf) (fun _ => rfl) sizeOf3 rfl rfl (by omega) rfl D65 (by first | omega | (rw [List.length_set]; omega)) rfl rfl (by decide) (by simp [Value.oneCell']) rfl (fun w82 R84 u83 => ?_))))
  have zu83 := u83.size
  refine s_next ((Upd.refl _ _).next u83 (fun i hi (h : i = go) => show w62.heap.size ≤ i ∨ (i = go) by first | omega | exact .inr h)) ?_
  have i86 : (out.length - 1) < (out.set (out.length - 1) (⟨(nth out (out.length - 1)).b, (max ((nth out (out.length - 1)).e) ((nth l k).e)), (nth out (out.length - 1)).w⟩ : Shf)).length := (by rw [List.length_set]; omega)
  refine y_index (j := (out.length - 1)) underlying29 sizeOf44 rfl rfl rfl rfl ((R84.sl (fun _ => rfl)).addr (by omega)) (by omega) (by first | omega | (rw [List.length_set]; omega)) (y_field underlying44 rfl sizeOf3 (0 + (out.length - 1) * 3 + 2) rfl rfl rfl rfl (s_do (t_storeA (vs := [.int .i64 (((nth out (out.length - 1)).w + ((nth l k).e)) - ((nth l k).b))]) (j := (out.length - 1)) (o' := 2) (k := 3) (⟨(nth out (out.length - 1)).b, (max ((nth out (out.length - 1)).e) ((nth l k).e)), (((nth out (out.length - 1)).w + ((nth l k).e)) - ((nth l k).b))⟩ : Shf) (fun _ => rfl) sizeOf3 rfl rfl (by omega) rfl R84 (by first | omega | (rw [List.length_set]; omega)) rfl rfl (by decide) (by simp [Value.oneCell']) (by rw [nth_set_eq (by omega)]; rfl) (fun w87 R89 u88 => ?_))))
  have zu88 := u88.size
  refine s_next ((Upd.refl _ _).next u88 (fun i hi (h : i = go) => show w62.heap.size ≤ i ∨ (i = go) by first | omega | exact .inr h)) (s_nil (hK24 _ _ (c_region (t_move rfl rfl rfl (t_ari rfl rfl rfl rfl rfl (by omega) (t_assign rfl rfl rfl (t_nil' ?_)))))))
  exact hK15 (k + 1, ao, go, co, ((out.set (out.length - 1) (⟨(nth out (out.length - 1)).b, (max ((nth out (out.length - 1)).e) ((nth l k).e)), (nth out (out.length - 1)).w⟩ : Shf)).set (out.length - 1) (⟨(nth out (out.length - 1)).b, (max ((nth out (out.length - 1)).e) ((nth l k).e)), (((nth out (out.length - 1)).w + ((nth l k).e)) - ((nth l k).b))⟩ : Shf))) _ _ (by show l.length - (k + 1) < l.length - k; omega) ⟨rfl, rfl, (by first | rfl | exact congrArg (fun n => some (Value.slice ao n co)) (show out.length = _ by simp only [List.length_set])), rfl, trivial⟩ ⟨((((u17.nx u30).nx u63).next u83 (fun i hi (h : i = go) => show bk8 ≤ i by first | omega | assumption)).next u88 (fun i hi (h : i = go) => show bk8 ≤ i by first | omega | assumption)), (by omega), R89, (addS_old hoe (by omega) (fun h => by rw [hcc.2 h] at g35; cases g35) rfl (by omega))⟩
 refine c_exit (hK13 _ _ (c_seq fun K91 hK91 => (c_region (t_move rfl rfl rfl (t_assign rfl rfl rfl (t_nil' (hK91 _ _ (c_ret (f_ret1 (v := .slice ao out.length co) results15 rfl ?_)))))))))
 have hpe : out = shiftsP r l := by rw [hoe, List.take_of_length_le (by omega)]
 subst hpe
 obtain ⟨g9, ha9⟩ := Acc.lower (base' := w0.heap.size) hout (by omega) hpos
 exact ⟨⟨ao, g9, co, rfl, ha9⟩, E21⟩

theorem rWindow_c (r : Rul) (l : List Sp) (al : Option Addr) (bl ol cl : Nat) (t : Int) (w0 : World) (hl : Sl encSp 2 w0 al bl ol l) (hll : l.length ≤ 1000) (hok : ∀ s ∈ l, OkSp s) (hr : okRul r = true) (ht : 0 ≤ t ∧ t ≤ 20160) :
    CallsV Tryz.prog 56 [.agg #[.int .i64 r.rest, .int .i64 r.span, .int .i64 r.work, .int .i64 r.week, .int .i64 r.ww], .slice al l.length cl, .int .i64 t] w0 (fun v w' => v = .int .i64 (winP r l t) ∧ Ext w0 w') := by
 have hrr := rul_rng hr
 refine f_enter (N := 37) func56 rfl rfl rfl (c_seq fun K1 hK1 => (c_region (t_box (cs := [.int .i64 r.rest, .int .i64 r.span, .int .i64 r.work, .int .i64 r.week, .int .i64 r.ww]) rfl rfl rfl rfl (fun bk2 w3 ebk2 sbk2 B4 u5 => ?_))))
 have zu5 := u5.size
 refine t_assign rfl rfl rfl (t_nil' (hK1 _ _ (c_seq fun K7 hK7 => (c_region (t_assign rfl rfl rfl (t_nil' (hK7 _ _ (c_seq fun K8 hK8 => (c_seq fun K9 hK9 => (c_region (t_assign rfl rfl rfl (t_nil' (hK9 _ _ (c_block (c_loop (γ := Nat) (fun k => [(1, .slice al l.length cl), (2, .int .i64 t), (3, .pointer (some ⟨bk2, 0, none⟩)), (7, .int .i64 (winK r l t k)), (8, .int .i64 (k : Int))]) (fun k w => Upd (fun _ => False) w3 w ∧ (k ≤ l.length)) (fun k => l.length - k) 0 ⟨rfl, rfl, rfl, rfl, rfl, trivial⟩ ⟨Upd.refl _ _, (Nat.zero_le _)⟩ ?_)))))))))))))))
 intro k w11 hW K10 hK10
 obtain ⟨u12, I13⟩ := hW
 have zu12 := u12.size
 have E14 := ((Upd.refl (fun _ => False) w0).nx u5).nx u12
 have hk := I13; clear I13
 refine c_seq fun K15 hK15 => (c_seq fun K16 hK16 => (c_region (t_move rfl rfl rfl (t_move rfl rfl rfl (t_len underlying41 rfl rfl rfl rfl (t_cmp rfl rfl rfl rfl rfl (t_nil' (hK16 _ _ (c_condp rfl (fun g12 => ?_) (fun g12 => ?_))))))))))
 ·
  have ho := hok _ (nth_mem (show k < l.length by omega))
  unfold OkSp at ho
  have hwk := winK_rng (r := r) (t := t) hok (show k ≤ l.length by omega)
  refine c_skip (hK15 _ _ (c_seq fun K17 hK17 => (c_block (c_drawnM follows (fun _ => False) (.look 0 (.look 1 (.look 2 (.look 3 (.look 4 (.look 5 (.look 6 (.look 7 (.look 8 (.look 9 (.look 10 (.look 11 (.look 12 (.look 13 (.look 14 (.look 15 (.look 16 (.look 17 (.look 18 (.look 19 (.look 20 (.look 21 .done)))))))))))))))))))))) (by kernel_rfl) fun w18 u19 => ?_))))
  have zu19 := u19.size
  have E20 := E14.nx u19
  refine y_move rfl rfl rfl (y_move rfl rfl rfl (y_move rfl rfl rfl ?_))
  have i21 : k < l.length := (by omega)
  refine y_index (j := k) underlying41 sizeOf114 rfl rfl rfl rfl ((hl.keep E20 (fun _ h => h)).addr (by omega)) rfl i21 (y_field underlying114 rfl sizeOf3 (ol + k * 2 + 1) rfl rfl rfl rfl (y_load isAgg3 rfl rfl rfl (((hl.keep E20 (fun _ h => h)).at_ k (by omega)) 1 _ rfl) (fun h => h) (y_move rfl rfl rfl (y_min rfl rfl rfl rfl (y_move rfl rfl rfl (y_move rfl rfl rfl ?_))))))
  have i22 : k < l.length := (by omega)
  refine y_index (j := k) underlying41 sizeOf114 rfl rfl rfl rfl ((hl.keep E20 (fun _ h => h)).addr (by omega)) rfl i22 (y_field underlying114 rfl sizeOf3 (ol + k * 2 + 0) rfl rfl rfl rfl (y_load isAgg3 rfl rfl rfl (((hl.keep E20 (fun _ h => h)).at_ k (by omega)) 0 _ rfl) (fun h => h) (y_move rfl rfl rfl (y_field underlying23 rfl sizeOf3 (3) rfl rfl rfl rfl ?_))))
  have B23 := ((B4.kx u12).kx u19)
  refine y_load isAgg3 rfl rfl rfl (B23.get rfl) (fun h => h) (y_ari rfl rfl rfl rfl rfl (by omega) (y_max rfl rfl rfl rfl (y_ari rfl rfl rfl rfl rfl (by omega) (y_max rfl rfl rfl rfl (y_ari rfl rfl rfl rfl rfl (by omega) (y_assign rfl rfl rfl (s_nil (hK17 _ _ (c_region (t_move rfl rfl rfl (t_ari rfl rfl rfl rfl rfl (by omega) (t_assign rfl rfl rfl (t_nil' ?_)))))))))))))
  exact hK10 (k + 1) _ _ (by omega) ⟨rfl, rfl, rfl, (congrArg (fun z => some (Value.int .i64 z)) (winK_succ (by omega)).symm), rfl, trivial⟩ ⟨(u12.nx u19), (by omega)⟩
 refine c_exit (hK8 _ _ (c_seq fun K24 hK24 => (c_region (t_move rfl rfl rfl (t_assign rfl rfl rfl (t_nil' (hK24 _ _ (c_ret (f_ret1 (v := .int .i64 (winK r l t k)) results56 rfl ?_)))))))))
 exact ⟨congrArg (Value.int .i64) (by unfold winK; rw [List.take_of_length_le (by omega)]; rfl), E14⟩

set_option maxHeartbeats 1000000 in
theorem rBroken_c (r : Rul) (l : List Sp) (al : Option Addr) (bl ol cl : Nat) (w0 : World) (hl : Sl encSp 2 w0 al bl ol l) (hll : l.length ≤ 1000) (hok : ∀ s ∈ l, OkSp s) (hr : okRul r = true) (hpos : 0 < w0.heap.size) :
    CallsV Tryz.prog 18 [.agg #[.int .i64 r.rest, .int .i64 r.span, .int .i64 r.work, .int .i64 r.week, .int .i64 r.ww], .slice al l.length cl] w0 (fun v w' => v = .int .i64 (brokP r l) ∧ Ext w0 w') := by
 have hrr := rul_rng hr
 refine f_enter (N := 85) func18 rfl rfl rfl (c_seq fun K1 hK1 => (c_region (t_box (cs := [.int .i64 r.rest, .int .i64 r.span, .int .i64 r.work, .int .i64 r.week, .int .i64 r.ww]) rfl rfl rfl rfl (fun bk2 w3 ebk2 sbk2 B4 u5 => ?_))))
 have zu5 := u5.size
 refine t_assign rfl rfl rfl (t_nil' (hK1 _ _ (c_seq fun K7 hK7 => (c_region (t_assign rfl rfl rfl (t_nil' (hK7 _ _ (c_seq fun K8 hK8 => (c_seq fun K9 hK9 => (c_region (t_assign rfl rfl rfl (t_nil' (hK9 _ _ (c_block (c_loop (γ := Nat) (fun k => [(1, .slice al l.length cl), (2, .pointer (some ⟨bk2, 0, none⟩)), (5, .int .i64 (mxN l k)), (6, .int .i64 (k : Int))]) (fun k w => Upd (fun _ => False) w3 w ∧ (k ≤ l.length) ∧ (∀ j, j < k → ¬ (nth l j).b < mxN l j)) (fun k => l.length - k) 0 ⟨rfl, rfl, rfl, rfl, trivial⟩ ⟨Upd.refl _ _, (Nat.zero_le _), (fun j hj => absurd hj (Nat.not_lt_zero _))⟩ ?_)))))))))))))))
 intro k w11 hW K10 hK10
 obtain ⟨u12, I13, I14⟩ := hW
 have zu12 := u12.size
 have E15 := ((Upd.refl (fun _ => False) w0).nx u5).nx u12
 have hk := I13; clear I13
 have hno := I14; clear I14
 refine c_seq fun K16 hK16 => (c_seq fun K17 hK17 => (c_region (t_move rfl rfl rfl (t_move rfl rfl rfl (t_len underlying41 rfl rfl rfl rfl (t_cmp rfl rfl rfl rfl rfl (t_nil' (hK17 _ _ (c_condp rfl (fun g14 => ?_) (fun g14 => ?_))))))))))
 ·
  have ho := hok _ (nth_mem (show k < l.length by omega))
  unfold OkSp at ho
  have hmr := mxN_rng hok (show k ≤ l.length by omega)
  refine c_skip (hK16 _ _ (c_seq fun K18 hK18 => (c_block (c_seq fun K19 hK19 => (c_seq fun K20 hK20 => (c_region (t_move rfl rfl rfl (t_move rfl rfl rfl ?_))))))))
  have i21 : k < l.length := (by omega)
  refine t_index (j := k) underlying41 sizeOf114 rfl rfl rfl rfl ((hl.keep E15 (fun _ h => h)).addr (by omega)) rfl i21 (t_field underlying114 rfl sizeOf3 (ol + k * 2 + 0) rfl rfl rfl rfl (t_load isAgg3 rfl rfl rfl (((hl.keep E15 (fun _ h => h)).at_ k (by omega)) 0 _ rfl) (t_move rfl rfl rfl (t_cmp rfl rfl rfl rfl rfl (t_nil' (hK20 _ _ (c_condp rfl (fun g23 => ?_) (fun g23 => ?_))))))))
  ·
   refine c_seq fun K22 hK22 => (c_region (t_assign rfl rfl rfl (t_nil' (hK22 _ _ (c_ret (f_ret1 (v := .int .i64 1) results18 rfl ?_))))))
   exact ⟨congrArg (Value.int .i64) (by unfold brokP; rw [if_pos (ovlN_yes hok (by omega) g23)]), E15⟩
  refine c_skip (hK19 _ _ (c_region (t_move rfl rfl rfl (t_move rfl rfl rfl (t_move rfl rfl rfl ?_)))))
  have i23 : k < l.length := (by omega)
  refine t_index (j := k) underlying41 sizeOf114 rfl rfl rfl rfl ((hl.keep E15 (fun _ h => h)).addr (by omega)) rfl i23 (t_field underlying114 rfl sizeOf3 (ol + k * 2 + 1) rfl rfl rfl rfl (t_load isAgg3 rfl rfl rfl (((hl.keep E15 (fun _ h => h)).at_ k (by omega)) 1 _ rfl) (t_max rfl rfl rfl rfl (t_assign rfl rfl rfl (t_nil' (hK18 _ _ (c_region (t_move rfl rfl rfl (t_ari rfl rfl rfl rfl rfl (by omega) (t_assign rfl rfl rfl (t_nil' ?_)))))))))))
  exact hK10 (k + 1) _ _ (by omega) ⟨rfl, rfl, (congrArg (fun z => some (Value.int .i64 z)) (mxN_succ (by omega)).symm), rfl, trivial⟩ ⟨u12, (by omega), (fun j hj => by
    rcases Nat.lt_or_ge j k with q | q
    · exact hno j q
    · rw [show j = k by omega]; exact g23)⟩
 have h1 : ¬ ovlP 0 l = true := by rw [ovlN_no hok fun j hj => hno j (by omega)]; decide
 clear hno
 have hsl := shifts_len (r := r) (l := l)
 refine c_exit (hK8 _ _ (c_seq fun K24 hK24 => (c_region ?_)))
 have B25 := (B4.kx u12)
 refine t_loadN (vs := [.int .i64 r.rest, .int .i64 r.span, .int .i64 r.work, .int .i64 r.week, .int .i64 r.ww]) isAgg23 sizeOf23 rfl rfl rfl (B25.at.sub 0 5) rfl (t_move rfl rfl rfl (t_call own15 rfl rfl rfl rfl (rShifts_c r l al bl ol cl _ (hl.keep E15 (fun _ h => h)) hll hok hr (by omega)) (fun v27 w28 r30 => ?_)))
 obtain ⟨⟨aoS26, gS26, cS26, rfl, haS26⟩, u29⟩ := r30
 have zu29 := u29.size
 have lt_gS26 := haS26.lt
 refine t_assign rfl rfl rfl (t_nil' (hK24 _ _ (c_seq fun K32 hK32 => (c_seq fun K33 hK33 => (c_region (t_assign rfl rfl rfl (t_nil' (hK33 _ _ (c_block (c_loop (γ := Nat) (fun k => [(1, .slice al l.length cl), (2, .pointer (some ⟨bk2, 0, none⟩)), (7, .slice aoS26 ((shiftsP r l).length) cS26), (8, .int .i64 (k : Int))]) (fun k w => Upd (fun _ => False) w28 w ∧ (k ≤ (shiftsP r l).length) ∧ (∀ j, j < k → ¬ r.span < (nth (shiftsP r l) j).e - (nth (shiftsP r l) j).b)) (fun k => (shiftsP r l).length - k) 0 ⟨rfl, rfl, rfl, rfl, trivial⟩ ⟨Upd.refl _ _, (Nat.zero_le _), (fun j hj => absurd hj (Nat.not_lt_zero _))⟩ ?_))))))))))
 intro k w35 hW K34 hK34
 obtain ⟨u36, I37, I38⟩ := hW
 have zu36 := u36.size
 have E39 := (E15.nx u29).nx u36
 have hk := I37; clear I37
 have hno := I38; clear I38
 refine c_seq fun K40 hK40 => (c_seq fun K41 hK41 => (c_region (t_move rfl rfl rfl (t_move rfl rfl rfl (t_len underlying29 rfl rfl rfl rfl (t_cmp rfl rfl rfl rfl rfl (t_nil' (hK41 _ _ (c_condp rfl (fun g37 => ?_) (fun g37 => ?_))))))))))
 ·
  have hyb := shs_bnd (r := r) hok (nth (shiftsP r l) k) (nth_mem (show k < (shiftsP r l).length by omega))
  refine c_skip (hK40 _ _ (c_seq fun K42 hK42 => (c_block (c_seq fun K43 hK43 => (c_drawnM follows (fun _ => False) (.look 0 (.look 1 (.look 2 (.look 3 (.look 4 (.look 5 (.look 6 (.look 7 (.look 8 (.look 9 (.look 10 (.look 11 (.look 12 (.look 13 .done)))))))))))))) (by kernel_rfl) fun w44 u45 => ?_)))))
  have zu45 := u45.size
  refine y_move rfl rfl rfl (y_move rfl rfl rfl ?_)
  have D47 := ((haS26.kE u36).kE u45)
  have i48 : k < (shiftsP r l).length := (by omega)
  refine y_index (j := k) underlying29 sizeOf44 rfl rfl rfl rfl ((D47.sl (fun _ => rfl)).addr (by omega)) rfl i48 (y_field underlying44 rfl sizeOf3 (0 + k * 3 + 1) rfl rfl rfl rfl ?_)
  have D49 := ((haS26.kE u36).kE u45)
  refine y_load isAgg3 rfl rfl rfl (((D49.sl (fun _ => rfl)).at_ k (by omega)) 1 _ rfl) (fun h => h) (y_move rfl rfl rfl (y_move rfl rfl rfl ?_))
  have i50 : k < (shiftsP r l).length := (by omega)
  refine y_index (j := k) underlying29 sizeOf44 rfl rfl rfl rfl ((D47.sl (fun _ => rfl)).addr (by omega)) rfl i50 (y_field underlying44 rfl sizeOf3 (0 + k * 3 + 0) rfl rfl rfl rfl (y_load isAgg3 rfl rfl rfl (((D49.sl (fun _ => rfl)).at_ k (by omega)) 0 _ rfl) (fun h => h) (y_ari rfl rfl rfl rfl rfl (by omega) (y_field underlying23 rfl sizeOf3 (1) rfl rfl rfl rfl ?_))))
  have B51 := (((B25.kx u29).kx u36).kx u45)
  refine y_load isAgg3 rfl rfl rfl (B51.get rfl) (fun h => h) (y_cmp rfl rfl rfl rfl rfl (s_nil (hK43 _ _ (c_condp rfl (fun g53 => ?_) (fun g53 => ?_)))))
  ·
   refine c_seq fun K52 hK52 => (c_region (t_assign rfl rfl rfl (t_nil' (hK52 _ _ (c_ret (f_ret1 (v := .int .i64 2) results18 rfl ?_))))))
   exact ⟨congrArg (Value.int .i64) (by unfold brokP; rw [if_neg h1, if_pos (List.any_eq_true.2 ⟨_, nth_mem (show k < (shiftsP r l).length by omega), decide_eq_true g53⟩)]), (E39.nx u45)⟩
  refine c_skip (hK42 _ _ (c_region (t_move rfl rfl rfl (t_ari rfl rfl rfl rfl rfl (by omega) (t_assign rfl rfl rfl (t_nil' ?_))))))
  exact hK34 (k + 1) _ _ (by omega) ⟨rfl, rfl, rfl, rfl, trivial⟩ ⟨(u36.nx u45), (by omega), (fun j hj => by
    rcases Nat.lt_or_ge j k with q | q
    · exact hno j q
    · rw [show j = k by omega]; exact g53)⟩
 have h2 : ¬ ((shiftsP r l).any fun x => decide (r.span < x.e - x.b)) = true := by rw [any_no (l := (shiftsP r l)) (p := fun x => decide (r.span < x.e - x.b)) (fun j hj => decide_eq_false (hno j (by omega)))]; decide
 clear hno
 refine c_exit (hK32 _ _ (c_seq fun K53 hK53 => (c_seq fun K54 hK54 => (c_region (t_assign rfl rfl rfl (t_nil' (hK54 _ _ (c_block (c_loop (γ := Nat) (fun k => [(1, .slice al l.length cl), (2, .pointer (some ⟨bk2, 0, none⟩)), (7, .slice aoS26 ((shiftsP r l).length) cS26), (9, .int .i64 (k : Int))]) (fun k w => Upd (fun _ => False) w35 w ∧ (k ≤ (shiftsP r l).length) ∧ (∀ j, j < k → ¬ r.work < (nth (shiftsP r l) j).w)) (fun k => (shiftsP r l).length - k) 0 ⟨rfl, rfl, rfl, rfl, trivial⟩ ⟨Upd.refl _ _, (Nat.zero_le _), (fun j hj => absurd hj (Nat.not_lt_zero _))⟩ ?_)))))))))
 intro k w56 hW K55 hK55
 obtain ⟨u57, I58, I59⟩ := hW
 have zu57 := u57.size
 have E60 := E39.nx u57
 have hk := I58; clear I58
 have hno := I59; clear I59
 refine c_seq fun K61 hK61 => (c_seq fun K62 hK62 => (c_region (t_move rfl rfl rfl (t_move rfl rfl rfl (t_len underlying29 rfl rfl rfl rfl (t_cmp rfl rfl rfl rfl rfl (t_nil' (hK62 _ _ (c_condp rfl (fun g57 => ?_) (fun g57 => ?_))))))))))
 ·
  have hyb := shs_bnd (r := r) hok (nth (shiftsP r l) k) (nth_mem (show k < (shiftsP r l).length by omega))
  refine c_skip (hK61 _ _ (c_seq fun K63 hK63 => (c_block (c_seq fun K64 hK64 => (c_drawnM follows (fun _ => False) (.look 0 (.look 1 (.look 2 (.look 3 (.look 4 (.look 5 (.look 6 (.look 7 .done)))))))) (by kernel_rfl) fun w65 u66 => ?_)))))
  have zu66 := u66.size
  refine y_move rfl rfl rfl (y_move rfl rfl rfl ?_)
  have D68 := (((haS26.kE u36).kE u57).kE u66)
  have i69 : k < (shiftsP r l).length := (by omega)
  refine y_index (j := k) underlying29 sizeOf44 rfl rfl rfl rfl ((D68.sl (fun _ => rfl)).addr (by omega)) rfl i69 (y_field underlying44 rfl sizeOf3 (0 + k * 3 + 2) rfl rfl rfl rfl ?_)
  have D70 := (((haS26.kE u36).kE u57).kE u66)
  refine y_load isAgg3 rfl rfl rfl (((D70.sl (fun _ => rfl)).at_ k (by omega)) 2 _ rfl) (fun h => h) (y_field underlying23 rfl sizeOf3 (2) rfl rfl rfl rfl ?_)
  have B71 := ((((B25.kx u29).kx u36).kx u57).kx u66)
  refine y_load isAgg3 rfl rfl rfl (B71.get rfl) (fun h => h) (y_cmp rfl rfl rfl rfl rfl (s_nil (hK64 _ _ (c_condp rfl (fun g67 => ?_) (fun g67 => ?_)))))
  ·
   refine c_seq fun K72 hK72 => (c_region (t_assign rfl rfl rfl (t_nil' (hK72 _ _ (c_ret (f_ret1 (v := .int .i64 3) results18 rfl ?_))))))
   exact ⟨congrArg (Value.int .i64) (by unfold brokP; rw [if_neg h1, if_neg h2, if_pos (List.any_eq_true.2 ⟨_, nth_mem (show k < (shiftsP r l).length by omega), decide_eq_true g67⟩)]), (E60.nx u66)⟩
  refine c_skip (hK63 _ _ (c_region (t_move rfl rfl rfl (t_ari rfl rfl rfl rfl rfl (by omega) (t_assign rfl rfl rfl (t_nil' ?_))))))
  exact hK55 (k + 1) _ _ (by omega) ⟨rfl, rfl, rfl, rfl, trivial⟩ ⟨(u57.nx u66), (by omega), (fun j hj => by
    rcases Nat.lt_or_ge j k with q | q
    · exact hno j q
    · rw [show j = k by omega]; exact g67)⟩
 have h3 : ¬ ((shiftsP r l).any fun x => decide (r.work < x.w)) = true := by rw [any_no (l := (shiftsP r l)) (p := fun x => decide (r.work < x.w)) (fun j hj => decide_eq_false (hno j (by omega)))]; decide
 clear hno
 refine c_exit (hK53 _ _ (c_seq fun K73 hK73 => (c_seq fun K74 hK74 => (c_region (t_assign rfl rfl rfl (t_nil' (hK74 _ _ (c_block (c_loop (γ := Nat) (fun k => [(1, .slice al l.length cl), (2, .pointer (some ⟨bk2, 0, none⟩)), (10, .int .i64 (k : Int))]) (fun k w => Upd (fun _ => False) w56 w ∧ (k ≤ l.length) ∧ (∀ j, j < k → ¬ r.ww < winP r l (nth l j).e)) (fun k => l.length - k) 0 ⟨rfl, rfl, rfl, trivial⟩ ⟨Upd.refl _ _, (Nat.zero_le _), (fun j hj => absurd hj (Nat.not_lt_zero _))⟩ ?_)))))))))
 intro k w76 hW K75 hK75
 obtain ⟨u77, I78, I79⟩ := hW
 have zu77 := u77.size
 have E80 := E60.nx u77
 have hk := I78; clear I78
 have hno := I79; clear I79
 refine c_seq fun K81 hK81 => (c_seq fun K82 hK82 => (c_region (t_move rfl rfl rfl (t_move rfl rfl rfl (t_len underlying41 rfl rfl rfl rfl (t_cmp rfl rfl rfl rfl rfl (t_nil' (hK82 _ _ (c_condp rfl (fun g71 => ?_) (fun g71 => ?_))))))))))
 ·
  have ho := hok _ (nth_mem (show k < l.length by omega))
  unfold OkSp at ho
  refine c_skip (hK81 _ _ (c_seq fun K83 hK83 => (c_block (c_seq fun K84 hK84 => (c_drawnM follows (fun _ => False) (.look 0 (.look 1 (.look 2 (.look 3 (.look 4 (.look 5 (.look 6 (.look 8 (.look 9 (.act 7 (.look 10 .done) .stop)))))))))) (by kernel_rfl) fun w85 u86 => ?_)))))
  have zu86 := u86.size
  have E87 := E80.nx u86
  have B88 := (((((B25.kx u29).kx u36).kx u57).kx u77).kx u86)
  refine y_loadN (vs := [.int .i64 r.rest, .int .i64 r.span, .int .i64 r.work, .int .i64 r.week, .int .i64 r.ww]) isAgg23 sizeOf23 rfl rfl rfl (B88.at.sub 0 5) rfl (fun h => h) (y_move rfl rfl rfl (y_move rfl rfl rfl (y_move rfl rfl rfl ?_)))
  have i89 : k < l.length := (by omega)
  refine y_index (j := k) underlying41 sizeOf114 rfl rfl rfl rfl ((hl.keep E87 (fun _ h => h)).addr (by omega)) rfl i89 (y_field underlying114 rfl sizeOf3 (ol + k * 2 + 1) rfl rfl rfl rfl (y_load isAgg3 rfl rfl rfl (((hl.keep E87 (fun _ h => h)).at_ k (by omega)) 1 _ rfl) (fun h => h) (y_field underlying23 rfl sizeOf3 (4) rfl rfl rfl rfl (y_load isAgg3 rfl rfl rfl (B88.get rfl) (fun h => h) (s_do (t_call own56 rfl rfl rfl rfl (rWindow_c r l al bl ol cl ((nth l k).e) _ (hl.keep E87 (fun _ h => h)) hll hok hr (by omega)) (fun v90 w91 r93 => ?_)))))))
  obtain ⟨rfl, u92⟩ := r93
  have zu92 := u92.size
  refine s_next ((Upd.refl _ _).nx u92) (y_cmp rfl rfl rfl rfl rfl (s_nil (hK84 _ _ (c_condp rfl (fun g84 => ?_) (fun g84 => ?_)))))
  ·
   refine c_seq fun K95 hK95 => (c_region (t_assign rfl rfl rfl (t_nil' (hK95 _ _ (c_ret (f_ret1 (v := .int .i64 4) results18 rfl ?_))))))
   exact ⟨congrArg (Value.int .i64) (by unfold brokP; rw [if_neg h1, if_neg h2, if_neg h3, if_pos (List.any_eq_true.2 ⟨_, nth_mem (show k < l.length by omega), decide_eq_true g84⟩)]), (E87.nx u92)⟩
  refine c_skip (hK83 _ _ (c_region (t_move rfl rfl rfl (t_ari rfl rfl rfl rfl rfl (by omega) (t_assign rfl rfl rfl (t_nil' ?_))))))
  exact hK75 (k + 1) _ _ (by omega) ⟨rfl, rfl, rfl, trivial⟩ ⟨((u77.nx u86).nx u92), (by omega), (fun j hj => by
    rcases Nat.lt_or_ge j k with q | q
    · exact hno j q
    · rw [show j = k by omega]; exact g84)⟩
 have h4 : ¬ (l.any fun s => decide (r.ww < winP r l s.e)) = true := by rw [any_no (l := l) (p := fun s => decide (r.ww < winP r l s.e)) (fun j hj => decide_eq_false (hno j (by omega)))]; decide
 refine c_exit (hK73 _ _ (c_seq fun K96 hK96 => (c_region (t_assign rfl rfl rfl (t_nil' (hK96 _ _ (c_ret (f_ret1 (v := .int .i64 0) results18 rfl ?_))))))))
 exact ⟨congrArg (Value.int .i64) (by unfold brokP; rw [if_neg h1, if_neg h2, if_neg h3, if_neg h4]), E80⟩

end Go.Proofs.YtagmodjadmecdaaGreat
namespace Go.Proofs.YtagmodjadmecdaaGreat
open Go Go.RowKit Tryz

theorem eqIn35 (n : Nat) (a0 : Int) (a1 : Int) (b0 : Int) (b1 : Int) (w : World) : (Op.equalIn (n + 2) 35 (.agg #[.int .i64 a0, .int .i64 a1]) (.agg #[.int .i64 b0, .int .i64 b1])).run Tryz.prog w = .ok (decide (a0 = b0) && decide (a1 = b1)) w := by
  have hS : Tryz.prog.underlying 35 = some (.struct (Tryz.prog.fieldsOf 35)) := by kernel_rfl
  have hp : Tryz.prog.stoodInHeld 35 = false := by kernel_rfl
  have p0 : ∀ (a0 : Int) (a1 : Int), (part 3 #[.int .i64 a0, .int .i64 a1] 0).run Tryz.prog w = .ok (.int .i64 a0) w := fun _ _ => by simp [part, isAgg3]
  have p1 : ∀ (a0 : Int) (a1 : Int), (part 3 #[.int .i64 a0, .int .i64 a1] 1).run Tryz.prog w = .ok (.int .i64 a1) w := fun _ _ => by simp [part, isAgg3]
  have e3 := fun a b w => equal_i64 underlying3 (n + 0) a b w
  rw [run_equalIn_struct w (n + 1) 35 _ _ hS hp]
  simp only [Program.fieldsOf, underlying35]
  simp only [Op.eqFields, Sem.run_bind, Sem.run_ite, p0, p1, e3, Result.andThen_ok]
  by_cases h0 : a0 = b0 <;> by_cases h1 : a1 = b1 <;> simp [h0, h1]
theorem eqIn37 (n : Nat) (a0 : Int) (a1 : Int) (a2 : Int) (a3 : Int) (b0 : Int) (b1 : Int) (b2 : Int) (b3 : Int) (w : World) : (Op.equalIn (n + 3) 37 (.agg #[.int .i64 a0, .int .i64 a1, .int .i64 a2, .int .i64 a3]) (.agg #[.int .i64 b0, .int .i64 b1, .int .i64 b2, .int .i64 b3])).run Tryz.prog w = .ok ((decide (a0 = b0) && decide (a1 = b1)) && (decide (a2 = b2) && decide (a3 = b3))) w := by
  have hS : Tryz.prog.underlying 37 = some (.struct (Tryz.prog.fieldsOf 37)) := by kernel_rfl
  have hp : Tryz.prog.stoodInHeld 37 = false := by kernel_rfl
  have p0 : ∀ (a0 : Int) (a1 : Int) (a2 : Int) (a3 : Int), (part 35 #[.int .i64 a0, .int .i64 a1, .int .i64 a2, .int .i64 a3] 0).run Tryz.prog w = .ok (.agg #[.int .i64 a0, .int .i64 a1]) w := fun _ _ _ _ => by simp [part, isAgg35, sizeOf35]
  have p1 : ∀ (a0 : Int) (a1 : Int) (a2 : Int) (a3 : Int), (part 35 #[.int .i64 a0, .int .i64 a1, .int .i64 a2, .int .i64 a3] 2).run Tryz.prog w = .ok (.agg #[.int .i64 a2, .int .i64 a3]) w := fun _ _ _ _ => by simp [part, isAgg35, sizeOf35]
  have e35 := eqIn35 (n + 0)
  rw [run_equalIn_struct w (n + 2) 37 _ _ hS hp]
  simp only [Program.fieldsOf, underlying37]
  simp only [Op.eqFields, Sem.run_bind, Sem.run_ite, p0, p1, e35, Result.andThen_ok]
  by_cases h0 : (decide (a0 = b0) && decide (a1 = b1)) = true <;> by_cases h1 : (decide (a2 = b2) && decide (a3 = b3)) = true <;> simp [h0, h1]

end Go.Proofs.YtagmodjadmecdaaGreat
