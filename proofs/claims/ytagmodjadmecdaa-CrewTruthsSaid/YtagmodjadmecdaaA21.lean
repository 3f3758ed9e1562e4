/-
  The statement's own words for keeping the rules. Conditions: none.
-/
import Derived.Test.YtagmodjadmecdaaA17
import Derived.Test.YtagmodjadmecdaaA18
import Derived.Test.YtagmodjadmecdaaBoo
namespace Go.Proofs.Ytagmodjadmecdaa
open Go Go.RowKit

/-- The minutes of the first times, and those of another one up to a minute. -/
def WkI (l : List Sp) (i : Nat) (a c : Int) (W : List Bool) : Prop := W.length = 700 ∧ ∀ q : Nat, q < 700 → (nth W q = true ↔ Cov (l.take i) (q : Int) ∨ (a ≤ (q : Int) ∧ (q : Int) < c))
theorem nth_setB {W : List Bool} {i j : Nat} {v : Bool} (hi : i < W.length) : nth (W.set i v) j = if i = j then v else nth W j := by
  unfold nth
  rw [List.getD_eq_getElem?_getD, List.getD_eq_getElem?_getD, List.getElem?_set]
  split
  · rename_i h; subst h; simp [hi]
  · rfl
theorem nth_repB (n q : Nat) : nth (List.replicate n false) q = false := by
  unfold nth
  rw [List.getD_eq_getElem?_getD, List.getElem?_replicate]
  split <;> rfl
theorem WkI.start (l : List Sp) : WkI l 0 0 0 (List.replicate 700 false) := ⟨List.length_replicate, fun q hq => by
  rw [nth_repB]
  constructor
  · intro h; cases h
  · rintro (⟨s, hs, _⟩ | ⟨h1, h2⟩)
    · cases hs
    · omega⟩
theorem WkI.first {l : List Sp} {i : Nat} {W : List Bool} (h : WkI l i 0 0 W) (a : Int) : WkI l i a a W := ⟨h.1, fun q hq => (h.2 q hq).trans ⟨fun k => k.elim .inl fun e => absurd e (by omega), fun k => k.elim .inl fun e => absurd e (by omega)⟩⟩
theorem WkI.mark {l : List Sp} {i : Nat} {a c : Int} {W : List Bool} (h : WkI l i a c W) (h0 : 0 ≤ a) (ha : a ≤ c) (hc : c < 700) : WkI l i a (c + 1) (W.set c.toNat true) := ⟨by rw [List.length_set]; exact h.1, fun q hq => by
  rw [nth_setB (by rw [h.1]; omega)]
  by_cases e : c.toNat = q
  · rw [if_pos e]
    exact ⟨fun _ => .inr (by omega), fun _ => rfl⟩
  · rw [if_neg e, h.2 q hq]
    constructor
    · rintro (k | k)
      · exact .inl k
      · exact .inr (by omega)
    · rintro (k | k)
      · exact .inl k
      · exact .inr (by omega)⟩
theorem cov_take {l : List Sp} {i : Nat} (hi : i < l.length) {t : Int} : Cov (l.take (i + 1)) t ↔ Cov (l.take i) t ∨ ((nth l i).b ≤ t ∧ t < (nth l i).e) := by
  rw [take_nth hi]
  constructor
  · rintro ⟨s, hs, h⟩
    rcases List.mem_append.1 hs with hs | hs
    · exact .inl ⟨s, hs, h⟩
    · rw [List.mem_singleton.1 hs] at h; exact .inr h
  · rintro (⟨s, hs, h⟩ | h)
    · exact ⟨s, List.mem_append_left _ hs, h⟩
    · exact ⟨_, List.mem_append_right _ (List.mem_singleton.2 rfl), h⟩
theorem WkI.done {l : List Sp} {i : Nat} {c : Int} {W : List Bool} (hi : i < l.length) (h : WkI l i (nth l i).b c W) (hc : c = max (nth l i).b (nth l i).e) : WkI l (i + 1) 0 0 W := ⟨h.1, fun q hq => by
  rw [h.2 q hq, cov_take hi]
  constructor
  · rintro (k | k)
    · exact .inl (.inl k)
    · exact .inl (.inr (by omega))
  · rintro ((k | k) | k)
    · exact .inl k
    · exact .inr (by omega)
    · omega⟩
theorem WkI.all {l : List Sp} {i : Nat} {W : List Bool} (h : WkI l i 0 0 W) (hi : l.length ≤ i) {c : Int} (h0 : 0 ≤ c) (h7 : c < 700) : nth W c.toNat = true ↔ Cov l c := by
  have := h.2 c.toNat (by omega)
  rw [List.take_of_length_le hi, show (c.toNat : Int) = c by omega] at this
  rw [this]
  exact ⟨fun k => k.elim id fun e => absurd e (by omega), .inl⟩
theorem sum_yes {l : List Sp} (hL : Lin (srtS l)) (hl : ∀ x ∈ l, OkSp x) {a c : Int} (hac : a ≤ c) (hc : Cov l c) : sumW l a (c + 1) = sumW l a c + 1 := by
  rw [sumW_add hl hac (show c ≤ c + 1 by omega), ← sumW_perm (srt_perm l) c (c + 1), cov_one hL (srt_ok hl)]
  obtain ⟨s, hs, h⟩ := hc
  exact ⟨s, (srt_perm l).mem_iff.2 hs, h⟩
theorem sum_no {l : List Sp} (hl : ∀ x ∈ l, OkSp x) {a c : Int} (hac : a ≤ c) (hc : ¬ Cov l c) : sumW l a (c + 1) = sumW l a c := by
  rw [sumW_add hl hac (show c ≤ c + 1 by omega), cov_zero hc, Int.add_zero]
theorem sumW_refl (l : List Sp) (hl : ∀ x ∈ l, OkSp x) (a : Int) : sumW l a a = 0 := sumW_zero fun s hs => by have := hl s hs; unfold OkSp at this; unfold inW; omega
theorem sumW_len {l : List Sp} (hL : Lin (srtS l)) (hl : ∀ x ∈ l, OkSp x) {a b : Int} (h : a ≤ b) : sumW l a b ≤ b - a := by
  rw [← sumW_perm (srt_perm l)]; exact sumW_le' hL (srt_ok hl) h
/-- The work of a window, in the minutes that there are. -/
theorem sumW_clip {l : List Sp} (hl : ∀ x ∈ l, OkSp x ∧ x.e ≤ 699) {t W c : Int} (hW : 1 ≤ W) (hc : c = max (max 0 t) (min 700 (t + W))) (ht : t < 700) : sumW l (max 0 t) c = sumW l t (t + W) := by
  induction l with
  | nil => rfl
  | cons s l ih =>
    rw [sumW_cons, sumW_cons, ih fun x hx => hl x (by simp [hx])]
    have h := hl s (by simp)
    have h2 := h.1; unfold OkSp at h2
    have : inW s (max 0 t) c = inW s t (t + W) := by unfold inW; omega
    rw [this]
/-- No time among the first ones goes on beyond an end. -/
def ClsK (r : Rul) (l : List Sp) (f E : Int) (k : Nat) : Prop := ∀ j, j < k → f ≤ (nth l j).b → (nth l j).b < E + r.rest → (nth l j).e ≤ E
theorem ClsK.all {r : Rul} {l : List Sp} {f E : Int} {k : Nat} (h : ClsK r l f E k) (hk : l.length ≤ k) : ClsTo r l f E := fun x hx h1 h2 => by
  obtain ⟨j, hj, e⟩ := List.getElem_of_mem hx
  have := h j (by omega)
  rw [nth_eq hj, e] at this
  exact this h1 h2
theorem ClsK.next {r : Rul} {l : List Sp} {f E : Int} {k : Nat} (h : ClsK r l f E k) (hn : f ≤ (nth l k).b → (nth l k).b < E + r.rest → (nth l k).e ≤ E) : ClsK r l f E (k + 1) := fun j hj => by
  rcases Nat.lt_or_ge j k with q | q
  · exact h j q
  · rw [show j = k by omega]; exact hn

theorem own12 : Own Try.prog 12 := ⟨Try.f12, Try.func12, by kernel_rfl, by kernel_rfl⟩

set_option maxHeartbeats 1000000 in
theorem keepsT_c (r : Rul) (l : List Sp) (al : Option Addr) (bl ol cl : Nat) (w0 : World) (hl : Sl encSp 2 w0 al bl ol l) (hll : l.length ≤ 1000000) (hr : okRul r = true) (hok : ∀ x ∈ l, OkSp x ∧ x.e ≤ 699) :
    CallsV Try.prog 12 [.agg #[.int .i64 r.rest, .int .i64 r.span, .int .i64 r.work, .int .i64 r.week, .int .i64 r.ww], .slice al l.length cl] w0 (fun v w' => v = .bool (decide (brokP r (srtS l) = 0)) ∧ Ext w0 w') := by
 have hok1 : ∀ x ∈ l, OkSp x := fun x hx => (hok x hx).1
 have hrr := rul_rng hr
 refine f_enter (N := 227) Try.func12 rfl rfl rfl (c_seq fun K1 hK1 => (c_region (t_box (cs := [.int .i64 r.rest, .int .i64 r.span, .int .i64 r.work, .int .i64 r.week, .int .i64 r.ww]) rfl rfl rfl rfl (fun bk2 w3 ebk2 sbk2 B4 u5 => ?_))))
 have zu5 := u5.size
 refine t_assign rfl rfl rfl (t_nil' (hK1 _ _ (c_seq fun K7 hK7 => (c_region (t_build (ps := []) (v := .agg ((List.replicate 700 false).map Value.bool).toArray) rfl rfl ⟨rfl, rfl⟩ (fun w => by kernel_rfl) (t_alloc (cs := ((List.replicate 700 false).map Value.bool)) Try.zeroValue99 (by kernel_rfl) rfl rfl (fun bk8 w9 ebk8 sbk8 B10 u11 => ?_)))))))
 have zu11 := u11.size
 refine t_st (vs := ((List.replicate 700 false).map Value.bool)) Try.sizeOf99 rfl rfl rfl B10 rfl (by kernel_rfl) (by kernel_rfl) (by kernel_rfl) (fun w13 sw13 B15 u14 => ?_)
 have zu14 := u14.size
 have B17 : Blk w13 bk8 99 ((List.replicate 700 false).map Value.bool) := by
   have e : lay ((List.replicate 700 false).map Value.bool) 0 ((List.replicate 700 false).map Value.bool) = ((List.replicate 700 false).map Value.bool) := by kernel_rfl
   rw [← e]; exact B15
 refine t_nil' (hK7 _ _ (c_seq fun K18 hK18 => (c_seq fun K19 hK19 => (c_region (t_assign rfl rfl rfl (t_nil' (hK19 _ _ (c_block (c_loop (γ := Nat × List Bool) (fun gg => [(1, .slice al l.length cl), (2, .pointer (some ⟨bk2, 0, none⟩)), (5, .pointer (some ⟨bk8, 0, none⟩)), (6, .int .i64 (gg.1 : Int))]) (fun gg w => Upd (fun i => i = bk8) w13 w ∧ Blk w bk8 99 (gg.2.map Value.bool) ∧ (gg.1 ≤ l.length) ∧ (WkI l gg.1 0 0 gg.2) ∧ (∀ j k, j < gg.1 → k < l.length → ¬ Bad l j k)) (fun gg => l.length - gg.1) (0, List.replicate 700 false) ⟨rfl, rfl, rfl, rfl, trivial⟩ ⟨Upd.refl _ _, B17, (Nat.zero_le _), (WkI.start l), (fun j k hj => absurd hj (Nat.not_lt_zero _))⟩ ?_)))))))))
 intro gg w21 hW K20 hK20
 obtain ⟨p, W⟩ := gg
 change WC _ _ _ _ _ _ [(1, .slice al l.length cl), (2, .pointer (some ⟨bk2, 0, none⟩)), (5, .pointer (some ⟨bk8, 0, none⟩)), (6, .int .i64 (p : Int))] _
 change Upd (fun i => i = bk8) w13 w21 ∧ Blk w21 bk8 99 (W.map Value.bool) ∧ (p ≤ l.length) ∧ (WkI l p 0 0 W) ∧ (∀ j k, j < p → k < l.length → ¬ Bad l j k) at hW
 obtain ⟨u22, I23, I24, I25, I26⟩ := hW
 have zu22 := u22.size
 have E27 := ((((Upd.refl (fun _ => False) w0).nx u5).nx u11).next u14 (fun i hi h => by omega)).next u22 (fun i hi h => by omega)
 have hi := I24; clear I24
 have hW := I25; clear I25
 have hB := I26; clear I26
 refine c_seq fun K28 hK28 => (c_seq fun K29 hK29 => (c_region (t_move rfl rfl rfl (t_move rfl rfl rfl (t_len Try.underlying36 rfl rfl rfl rfl (t_cmp rfl rfl rfl rfl rfl (t_nil' (hK29 _ _ (c_condp rfl (fun g23 => ?_) (fun g23 => ?_))))))))))
 ·
  have hop := hok _ (nth_mem (show p < l.length by omega))
  have hpp := hop.1
  unfold OkSp at hpp
  refine c_skip (hK28 _ _ (c_seq fun K30 hK30 => (c_block (c_seq fun K31 hK31 => (c_seq fun K32 hK32 => (c_region (t_assign rfl rfl rfl (t_nil' (hK32 _ _ (c_block (c_loop (γ := Nat) (fun k => [(1, .slice al l.length cl), (2, .pointer (some ⟨bk2, 0, none⟩)), (5, .pointer (some ⟨bk8, 0, none⟩)), (6, .int .i64 (p : Int)), (7, .int .i64 (k : Int))]) (fun k w => Upd (fun _ => False) w21 w ∧ (k ≤ l.length) ∧ (∀ j, j < k → ¬ Bad l p j)) (fun k => l.length - k) 0 ⟨rfl, rfl, rfl, rfl, rfl, trivial⟩ ⟨Upd.refl _ _, (Nat.zero_le _), (fun j hj => absurd hj (Nat.not_lt_zero _))⟩ ?_)))))))))))
  intro k w34 hW K33 hK33
  obtain ⟨u35, I36, I37⟩ := hW
  have zu35 := u35.size
  have E38 := E27.nx u35
  have hk := I36; clear I36
  have hBk := I37; clear I37
  refine c_seq fun K39 hK39 => (c_seq fun K40 hK40 => (c_region (t_move rfl rfl rfl (t_move rfl rfl rfl (t_len Try.underlying36 rfl rfl rfl rfl (t_cmp rfl rfl rfl rfl rfl (t_nil' (hK40 _ _ (c_condp rfl (fun g29 => ?_) (fun g29 => ?_))))))))))
  ·
   have hok := hok _ (nth_mem (show k < l.length by omega))
   have hpk := hok.1
   unfold OkSp at hpk
   refine c_skip (hK39 _ _ (c_seq fun K41 hK41 => (c_block (c_cut (γ := Bool) (fun q => [(1, .slice al l.length cl), (2, .pointer (some ⟨bk2, 0, none⟩)), (5, .pointer (some ⟨bk8, 0, none⟩)), (6, .int .i64 (p : Int)), (7, .int .i64 (k : Int)), (104, .bool q)]) (fun q w => Upd (fun _ => False) w34 w ∧ (q = true ↔ Bad l p k)) (fun K43 hK43 => ?_) ?_))))
   ·
    refine c_drawnQ follows (by kernel_rfl) (p_move rfl rfl rfl (p_move rfl rfl rfl (p_cmp rfl rfl rfl rfl rfl (p_move rfl rfl rfl (p_splitp 35 rfl (fun g35 => ?_) (fun g35 => ?_))))))
    ·
     refine p_move rfl rfl rfl (p_move rfl rfl rfl ?_)
     have i60 : k < l.length := (by omega)
     refine p_index (j := k) Try.underlying36 Try.sizeOf41 rfl rfl rfl rfl ((hl.keep E38 (fun _ h => h)).addr (by omega)) rfl i60 (p_indexArr (j := 0) (ol + k * 2 + 0) Try.underlying41 Try.sizeOf3 rfl rfl rfl rfl rfl (by decide) rfl (p_load Try.isAgg3 rfl rfl rfl (((hl.keep E38 (fun _ h => h)).at_ k (by omega)) 0 _ rfl) (p_move rfl rfl rfl (p_move rfl rfl rfl ?_))))
     have i61 : p < l.length := (by omega)
     refine p_index (j := p) Try.underlying36 Try.sizeOf41 rfl rfl rfl rfl ((hl.keep E38 (fun _ h => h)).addr (by omega)) rfl i61 (p_indexArr (j := 0) (ol + p * 2 + 0) Try.underlying41 Try.sizeOf3 rfl rfl rfl rfl rfl (by decide) rfl (p_load Try.isAgg3 rfl rfl rfl (((hl.keep E38 (fun _ h => h)).at_ p (by omega)) 0 _ rfl) (p_cmp rfl rfl rfl rfl rfl (p_move rfl rfl rfl (p_splitp 47 rfl (fun g47 => ?_) (fun g47 => ?_))))))
     ·
      refine p_skip rfl rfl rfl (p_skip rfl rfl rfl (p_skip rfl rfl rfl (p_skip rfl rfl rfl (p_skip rfl rfl rfl (p_skip rfl rfl rfl (p_skip rfl rfl rfl (p_skip rfl rfl rfl (p_skip rfl rfl rfl (p_skip rfl rfl rfl (p_skip rfl rfl rfl (p_skip rfl rfl rfl (p_skip rfl rfl rfl (p_skip rfl rfl rfl (p_skip rfl rfl rfl (p_skip rfl rfl rfl (p_skip rfl rfl rfl (p_skip rfl rfl rfl (p_skip rfl rfl rfl (p_skip rfl rfl rfl (p_skip rfl rfl rfl (p_skip rfl rfl rfl (p_skip rfl rfl rfl (p_skip rfl rfl rfl ?_)))))))))))))))))))))))
      refine p_skip rfl rfl rfl (p_skip rfl rfl rfl (p_skip rfl rfl rfl (p_skip rfl rfl rfl (p_skip rfl rfl rfl (p_skip rfl rfl rfl (p_skip rfl rfl rfl (p_skip rfl rfl rfl (p_skip rfl rfl rfl (p_skip rfl rfl rfl (p_skip rfl rfl rfl (p_skip rfl rfl rfl (p_skip rfl rfl rfl (p_skip rfl rfl rfl (p_skip rfl rfl rfl (p_skip rfl rfl rfl (p_skip rfl rfl rfl (p_skip rfl rfl rfl (p_pick_t rfl rfl rfl rfl (p_pick_t rfl rfl rfl rfl (p_move rfl rfl rfl (p_move rfl rfl rfl (p_move rfl rfl rfl ?_))))))))))))))))))))))
      have i62 : p < l.length := (by omega)
      refine p_index (j := p) Try.underlying36 Try.sizeOf41 rfl rfl rfl rfl ((hl.keep E38 (fun _ h => h)).addr (by omega)) rfl i62 (p_indexArr (j := 0) (ol + p * 2 + 0) Try.underlying41 Try.sizeOf3 rfl rfl rfl rfl rfl (by decide) rfl (p_load Try.isAgg3 rfl rfl rfl (((hl.keep E38 (fun _ h => h)).at_ p (by omega)) 0 _ rfl) (p_move rfl rfl rfl (p_move rfl rfl rfl ?_))))
      have i63 : k < l.length := (by omega)
      refine p_index (j := k) Try.underlying36 Try.sizeOf41 rfl rfl rfl rfl ((hl.keep E38 (fun _ h => h)).addr (by omega)) rfl i63 (p_indexArr (j := 1) (ol + k * 2 + 1) Try.underlying41 Try.sizeOf3 rfl rfl rfl rfl rfl (by decide) rfl (p_load Try.isAgg3 rfl rfl rfl (((hl.keep E38 (fun _ h => h)).at_ k (by omega)) 1 _ rfl) (p_cmp rfl rfl rfl rfl rfl (p_pick_t rfl rfl rfl rfl (p_nil fun w64 u65 => ?_)))))
      have zu65 := u65.size
      refine t_nil' ?_
      exact hK43 (decide ((nth l p).b < (nth l k).e)) _ _ ⟨rfl, rfl, rfl, rfl, rfl, rfl, trivial⟩ ⟨((Upd.refl _ _).next u65 (fun _ _ h => h.elim)), (by unfold Bad; rw [decide_eq_true_eq]; constructor <;> intro h <;> omega)⟩
     refine p_move rfl rfl rfl (p_move rfl rfl rfl ?_)
     have i67 : k < l.length := (by omega)
     refine p_index (j := k) Try.underlying36 Try.sizeOf41 rfl rfl rfl rfl ((hl.keep E38 (fun _ h => h)).addr (by omega)) rfl i67 (p_indexArr (j := 0) (ol + k * 2 + 0) Try.underlying41 Try.sizeOf3 rfl rfl rfl rfl rfl (by decide) rfl (p_load Try.isAgg3 rfl rfl rfl (((hl.keep E38 (fun _ h => h)).at_ k (by omega)) 0 _ rfl) (p_move rfl rfl rfl (p_move rfl rfl rfl ?_))))
     have i68 : p < l.length := (by omega)
     refine p_index (j := p) Try.underlying36 Try.sizeOf41 rfl rfl rfl rfl ((hl.keep E38 (fun _ h => h)).addr (by omega)) rfl i68 (p_indexArr (j := 0) (ol + p * 2 + 0) Try.underlying41 Try.sizeOf3 rfl rfl rfl rfl rfl (by decide) rfl (p_load Try.isAgg3 rfl rfl rfl (((hl.keep E38 (fun _ h => h)).at_ p (by omega)) 0 _ rfl) (p_cmp rfl rfl rfl rfl rfl (p_move rfl rfl rfl (p_splitp 59 rfl (fun g59 => ?_) (fun g59 => ?_))))))
     ·
      refine p_move rfl rfl rfl (p_move rfl rfl rfl ?_)
      have i69 : k < l.length := (by omega)
      refine p_index (j := k) Try.underlying36 Try.sizeOf41 rfl rfl rfl rfl ((hl.keep E38 (fun _ h => h)).addr (by omega)) rfl i69 (p_indexArr (j := 1) (ol + k * 2 + 1) Try.underlying41 Try.sizeOf3 rfl rfl rfl rfl rfl (by decide) rfl (p_load Try.isAgg3 rfl rfl rfl (((hl.keep E38 (fun _ h => h)).at_ k (by omega)) 1 _ rfl) (p_move rfl rfl rfl (p_move rfl rfl rfl ?_))))
      have i70 : p < l.length := (by omega)
      refine p_index (j := p) Try.underlying36 Try.sizeOf41 rfl rfl rfl rfl ((hl.keep E38 (fun _ h => h)).addr (by omega)) rfl i70 (p_indexArr (j := 1) (ol + p * 2 + 1) Try.underlying41 Try.sizeOf3 rfl rfl rfl rfl rfl (by decide) rfl (p_load Try.isAgg3 rfl rfl rfl (((hl.keep E38 (fun _ h => h)).at_ p (by omega)) 1 _ rfl) (p_cmp rfl rfl rfl rfl rfl (p_move rfl rfl rfl (p_splitp 71 rfl (fun g71 => ?_) (fun g71 => ?_))))))
      ·
       refine p_skip rfl rfl rfl (p_skip rfl rfl rfl (p_skip rfl rfl rfl (p_skip rfl rfl rfl (p_skip rfl rfl rfl (p_skip rfl rfl rfl (p_skip rfl rfl rfl (p_skip rfl rfl rfl (p_skip rfl rfl rfl (p_skip rfl rfl rfl (p_skip rfl rfl rfl (p_skip rfl rfl rfl (p_skip rfl rfl rfl (p_skip rfl rfl rfl (p_skip rfl rfl rfl (p_skip rfl rfl rfl (p_pick_t rfl rfl rfl rfl (p_pick_t rfl rfl rfl rfl (p_pick_f rfl rfl rfl rfl (p_pick_t rfl rfl rfl rfl (p_move rfl rfl rfl (p_move rfl rfl rfl (p_move rfl rfl rfl ?_))))))))))))))))))))))
       have i71 : p < l.length := (by omega)
       refine p_index (j := p) Try.underlying36 Try.sizeOf41 rfl rfl rfl rfl ((hl.keep E38 (fun _ h => h)).addr (by omega)) rfl i71 (p_indexArr (j := 0) (ol + p * 2 + 0) Try.underlying41 Try.sizeOf3 rfl rfl rfl rfl rfl (by decide) rfl (p_load Try.isAgg3 rfl rfl rfl (((hl.keep E38 (fun _ h => h)).at_ p (by omega)) 0 _ rfl) (p_move rfl rfl rfl (p_move rfl rfl rfl ?_))))
       have i72 : k < l.length := (by omega)
       refine p_index (j := k) Try.underlying36 Try.sizeOf41 rfl rfl rfl rfl ((hl.keep E38 (fun _ h => h)).addr (by omega)) rfl i72 (p_indexArr (j := 1) (ol + k * 2 + 1) Try.underlying41 Try.sizeOf3 rfl rfl rfl rfl rfl (by decide) rfl (p_load Try.isAgg3 rfl rfl rfl (((hl.keep E38 (fun _ h => h)).at_ k (by omega)) 1 _ rfl) (p_cmp rfl rfl rfl rfl rfl (p_pick_t rfl rfl rfl rfl (p_nil fun w73 u74 => ?_)))))
       have zu74 := u74.size
       refine t_nil' ?_
       exact hK43 (decide ((nth l p).b < (nth l k).e)) _ _ ⟨rfl, rfl, rfl, rfl, rfl, rfl, trivial⟩ ⟨((Upd.refl _ _).next u74 (fun _ _ h => h.elim)), (by unfold Bad; rw [decide_eq_true_eq]; constructor <;> intro h <;> omega)⟩
      refine p_move rfl rfl rfl (p_move rfl rfl rfl ?_)
      have i76 : k < l.length := (by omega)
      refine p_index (j := k) Try.underlying36 Try.sizeOf41 rfl rfl rfl rfl ((hl.keep E38 (fun _ h => h)).addr (by omega)) rfl i76 (p_indexArr (j := 1) (ol + k * 2 + 1) Try.underlying41 Try.sizeOf3 rfl rfl rfl rfl rfl (by decide) rfl (p_load Try.isAgg3 rfl rfl rfl (((hl.keep E38 (fun _ h => h)).at_ k (by omega)) 1 _ rfl) (p_move rfl rfl rfl (p_move rfl rfl rfl ?_))))
      have i77 : p < l.length := (by omega)
      refine p_index (j := p) Try.underlying36 Try.sizeOf41 rfl rfl rfl rfl ((hl.keep E38 (fun _ h => h)).addr (by omega)) rfl i77 (p_indexArr (j := 1) (ol + p * 2 + 1) Try.underlying41 Try.sizeOf3 rfl rfl rfl rfl rfl (by decide) rfl (p_load Try.isAgg3 rfl rfl rfl (((hl.keep E38 (fun _ h => h)).at_ p (by omega)) 1 _ rfl) (p_cmp rfl rfl rfl rfl rfl (p_move rfl rfl rfl (p_splitp 83 rfl (fun g83 => ?_) (fun g83 => ?_))))))
      ·
       refine p_move rfl rfl rfl (p_move rfl rfl rfl (p_cmp rfl rfl rfl rfl rfl (p_pick_t rfl rfl rfl rfl (p_pick_f rfl rfl rfl rfl (p_pick_t rfl rfl rfl rfl (p_pick_f rfl rfl rfl rfl (p_pick_t rfl rfl rfl rfl (p_move rfl rfl rfl (p_splitp 92 rfl (fun g92 => ?_) (fun g92 => ?_))))))))))
       ·
        refine p_move rfl rfl rfl (p_move rfl rfl rfl ?_)
        have i78 : p < l.length := (by omega)
        refine p_index (j := p) Try.underlying36 Try.sizeOf41 rfl rfl rfl rfl ((hl.keep E38 (fun _ h => h)).addr (by omega)) rfl i78 (p_indexArr (j := 0) (ol + p * 2 + 0) Try.underlying41 Try.sizeOf3 rfl rfl rfl rfl rfl (by decide) rfl (p_load Try.isAgg3 rfl rfl rfl (((hl.keep E38 (fun _ h => h)).at_ p (by omega)) 0 _ rfl) (p_move rfl rfl rfl (p_move rfl rfl rfl ?_))))
        have i79 : k < l.length := (by omega)
        refine p_index (j := k) Try.underlying36 Try.sizeOf41 rfl rfl rfl rfl ((hl.keep E38 (fun _ h => h)).addr (by omega)) rfl i79 (p_indexArr (j := 1) (ol + k * 2 + 1) Try.underlying41 Try.sizeOf3 rfl rfl rfl rfl rfl (by decide) rfl (p_load Try.isAgg3 rfl rfl rfl (((hl.keep E38 (fun _ h => h)).at_ k (by omega)) 1 _ rfl) (p_cmp rfl rfl rfl rfl rfl (p_pick_t rfl rfl rfl rfl (p_nil fun w80 u81 => ?_)))))
        have zu81 := u81.size
        refine t_nil' ?_
        exact hK43 (decide ((nth l p).b < (nth l k).e)) _ _ ⟨rfl, rfl, rfl, rfl, rfl, rfl, trivial⟩ ⟨((Upd.refl _ _).next u81 (fun _ _ h => h.elim)), (by unfold Bad; rw [decide_eq_true_eq]; constructor <;> intro h <;> omega)⟩
       refine p_skip rfl rfl rfl (p_skip rfl rfl rfl (p_skip rfl rfl rfl (p_skip rfl rfl rfl (p_skip rfl rfl rfl (p_skip rfl rfl rfl (p_skip rfl rfl rfl (p_skip rfl rfl rfl (p_skip rfl rfl rfl (p_skip rfl rfl rfl (p_skip rfl rfl rfl (p_pick_f rfl rfl rfl rfl (p_nil fun w83 u84 => ?_))))))))))))
       have zu84 := u84.size
       refine t_nil' ?_
       exact hK43 false _ _ ⟨rfl, rfl, rfl, rfl, rfl, rfl, trivial⟩ ⟨((Upd.refl _ _).next u84 (fun _ _ h => h.elim)), (by unfold Bad; exact ⟨fun h => (by cases h), fun h => absurd h (by omega)⟩)⟩
      refine p_skip rfl rfl rfl (p_skip rfl rfl rfl (p_skip rfl rfl rfl (p_pick_f rfl rfl rfl rfl (p_pick_f rfl rfl rfl rfl (p_pick_t rfl rfl rfl rfl (p_pick_f rfl rfl rfl rfl (p_pick_t rfl rfl rfl rfl (p_move rfl rfl rfl (p_skip rfl rfl rfl (p_skip rfl rfl rfl (p_skip rfl rfl rfl (p_skip rfl rfl rfl (p_skip rfl rfl rfl (p_skip rfl rfl rfl (p_skip rfl rfl rfl (p_skip rfl rfl rfl (p_skip rfl rfl rfl (p_skip rfl rfl rfl (p_skip rfl rfl rfl (p_pick_f rfl rfl rfl rfl (p_nil fun w86 u87 => ?_)))))))))))))))))))))
      have zu87 := u87.size
      refine t_nil' ?_
      exact hK43 false _ _ ⟨rfl, rfl, rfl, rfl, rfl, rfl, trivial⟩ ⟨((Upd.refl _ _).next u87 (fun _ _ h => h.elim)), (by unfold Bad; exact ⟨fun h => (by cases h), fun h => absurd h (by omega)⟩)⟩
     refine p_skip rfl rfl rfl (p_skip rfl rfl rfl (p_skip rfl rfl rfl (p_skip rfl rfl rfl (p_skip rfl rfl rfl (p_skip rfl rfl rfl (p_skip rfl rfl rfl (p_skip rfl rfl rfl (p_skip rfl rfl rfl (p_skip rfl rfl rfl (p_skip rfl rfl rfl (p_skip rfl rfl rfl (p_skip rfl rfl rfl (p_skip rfl rfl rfl (p_skip rfl rfl rfl (p_skip rfl rfl rfl (p_skip rfl rfl rfl (p_skip rfl rfl rfl (p_skip rfl rfl rfl (p_skip rfl rfl rfl (p_skip rfl rfl rfl (p_skip rfl rfl rfl (p_skip rfl rfl rfl (p_skip rfl rfl rfl ?_)))))))))))))))))))))))
     refine p_skip rfl rfl rfl (p_skip rfl rfl rfl (p_skip rfl rfl rfl (p_skip rfl rfl rfl (p_skip rfl rfl rfl (p_pick_f rfl rfl rfl rfl (p_pick_f rfl rfl rfl rfl (p_pick_t rfl rfl rfl rfl (p_move rfl rfl rfl (p_skip rfl rfl rfl (p_skip rfl rfl rfl (p_skip rfl rfl rfl (p_skip rfl rfl rfl (p_skip rfl rfl rfl (p_skip rfl rfl rfl (p_skip rfl rfl rfl (p_skip rfl rfl rfl (p_skip rfl rfl rfl (p_skip rfl rfl rfl (p_skip rfl rfl rfl (p_pick_f rfl rfl rfl rfl (p_nil fun w89 u90 => ?_)))))))))))))))))))))
     have zu90 := u90.size
     refine t_nil' ?_
     exact hK43 false _ _ ⟨rfl, rfl, rfl, rfl, rfl, rfl, trivial⟩ ⟨((Upd.refl _ _).next u90 (fun _ _ h => h.elim)), (by unfold Bad; exact ⟨fun h => (by cases h), fun h => absurd h (by omega)⟩)⟩
    refine p_skip rfl rfl rfl (p_skip rfl rfl rfl (p_skip rfl rfl rfl (p_skip rfl rfl rfl (p_skip rfl rfl rfl (p_skip rfl rfl rfl (p_skip rfl rfl rfl (p_skip rfl rfl rfl (p_skip rfl rfl rfl (p_skip rfl rfl rfl (p_skip rfl rfl rfl (p_skip rfl rfl rfl (p_skip rfl rfl rfl (p_skip rfl rfl rfl (p_skip rfl rfl rfl (p_skip rfl rfl rfl (p_skip rfl rfl rfl (p_skip rfl rfl rfl (p_skip rfl rfl rfl (p_skip rfl rfl rfl (p_skip rfl rfl rfl (p_skip rfl rfl rfl (p_skip rfl rfl rfl (p_skip rfl rfl rfl ?_)))))))))))))))))))))))
    refine p_skip rfl rfl rfl (p_skip rfl rfl rfl (p_skip rfl rfl rfl (p_skip rfl rfl rfl (p_skip rfl rfl rfl (p_skip rfl rfl rfl (p_skip rfl rfl rfl (p_skip rfl rfl rfl (p_skip rfl rfl rfl (p_skip rfl rfl rfl (p_skip rfl rfl rfl (p_skip rfl rfl rfl (p_skip rfl rfl rfl (p_skip rfl rfl rfl (p_skip rfl rfl rfl (p_skip rfl rfl rfl (p_skip rfl rfl rfl (p_skip rfl rfl rfl (p_skip rfl rfl rfl (p_skip rfl rfl rfl (p_skip rfl rfl rfl (p_skip rfl rfl rfl (p_skip rfl rfl rfl (p_skip rfl rfl rfl ?_)))))))))))))))))))))))
    refine p_skip rfl rfl rfl (p_skip rfl rfl rfl (p_skip rfl rfl rfl (p_skip rfl rfl rfl (p_skip rfl rfl rfl (p_skip rfl rfl rfl (p_skip rfl rfl rfl (p_pick_f rfl rfl rfl rfl (p_move rfl rfl rfl (p_skip rfl rfl rfl (p_skip rfl rfl rfl (p_skip rfl rfl rfl (p_skip rfl rfl rfl (p_skip rfl rfl rfl (p_skip rfl rfl rfl (p_skip rfl rfl rfl (p_skip rfl rfl rfl (p_skip rfl rfl rfl (p_skip rfl rfl rfl (p_skip rfl rfl rfl (p_pick_f rfl rfl rfl rfl (p_nil fun w92 u93 => ?_)))))))))))))))))))))
    have zu93 := u93.size
    refine t_nil' ?_
    exact hK43 false _ _ ⟨rfl, rfl, rfl, rfl, rfl, rfl, trivial⟩ ⟨((Upd.refl _ _).next u93 (fun _ _ h => h.elim)), (by unfold Bad; exact ⟨fun h => (by cases h), fun h => absurd h (by omega)⟩)⟩
   intro q w44 hW
   obtain ⟨u45, I95⟩ := hW
   have zu45 := u45.size
   have hq := I95; clear I95
   refine c_cond rfl (fun g104 => ?_) (fun g104 => ?_)
   ·
    refine c_seq fun K97 hK97 => (c_region (t_assign rfl rfl rfl (t_nil' (hK97 _ _ (c_ret (f_ret1 (v := .bool false) Try.results12 rfl ?_))))))
    exact ⟨congrArg Value.bool (decide_eq_false (keeps_ovl (show p < l.length by omega) (show k < l.length by omega) (hq.1 g104))).symm, (E38.nx u45)⟩
   refine c_skip (hK41 _ _ (c_region (t_move rfl rfl rfl (t_ari rfl rfl rfl rfl rfl (by omega) (t_assign rfl rfl rfl (t_nil' ?_))))))
   exact hK33 (k + 1) _ _ (by omega) ⟨rfl, rfl, rfl, rfl, rfl, trivial⟩ ⟨(u35.next u45 (fun _ _ h => h.elim)), (by omega), (fun j hj => by
     rcases Nat.lt_or_ge j k with q | q
     · exact hBk j q
     · rw [show j = k by omega]; exact fun h => by rw [hq.2 h] at g104; cases g104)⟩
  have hB9 : ∀ k, k < l.length → ¬ Bad l p k := fun j hj => hBk j (by omega)
  refine c_exit (hK31 _ _ (c_seq fun K98 hK98 => (c_region (t_move rfl rfl rfl (t_move rfl rfl rfl ?_)))))
  have i99 : p < l.length := (by omega)
  refine t_index (j := p) Try.underlying36 Try.sizeOf41 rfl rfl rfl rfl ((hl.keep E38 (fun _ h => h)).addr (by omega)) rfl i99 (t_indexArr (j := 0) (ol + p * 2 + 0) Try.underlying41 Try.sizeOf3 rfl rfl rfl rfl rfl (by decide) rfl (t_load Try.isAgg3 rfl rfl rfl (((hl.keep E38 (fun _ h => h)).at_ p (by omega)) 0 _ rfl) (t_assign rfl rfl rfl (t_nil' (hK98 _ _ (c_block ?_))))))
  have B100 := (I23.kx u35)
  refine c_loop (γ := Int × List Bool) (fun gg => [(1, .slice al l.length cl), (2, .pointer (some ⟨bk2, 0, none⟩)), (5, .pointer (some ⟨bk8, 0, none⟩)), (6, .int .i64 (p : Int)), (8, .int .i64 gg.1)]) (fun gg w => Upd (fun i => i = bk8) w34 w ∧ Blk w bk8 99 (gg.2.map Value.bool) ∧ ((nth l p).b ≤ gg.1 ∧ gg.1 ≤ (nth l p).e) ∧ (WkI l p (nth l p).b gg.1 gg.2)) (fun gg => ((nth l p).e - gg.1).toNat) ((nth l p).b, W) ⟨rfl, rfl, rfl, rfl, rfl, trivial⟩ ⟨Upd.refl _ _, B100, (by omega), (hW.first _)⟩ ?_
  intro gg w102 hW K101 hK101
  obtain ⟨c, V⟩ := gg
  change WC _ _ _ _ _ _ [(1, .slice al l.length cl), (2, .pointer (some ⟨bk2, 0, none⟩)), (5, .pointer (some ⟨bk8, 0, none⟩)), (6, .int .i64 (p : Int)), (8, .int .i64 c)] _
  change Upd (fun i => i = bk8) w34 w102 ∧ Blk w102 bk8 99 (V.map Value.bool) ∧ ((nth l p).b ≤ c ∧ c ≤ (nth l p).e) ∧ (WkI l p (nth l p).b c V) at hW
  obtain ⟨u103, I104, I105, I106⟩ := hW
  have zu103 := u103.size
  have E107 := E38.next u103 (fun i hi h => by omega)
  have hc := I105; clear I105
  have hV := I106; clear I106
  have hVl := hV.1
  refine c_seq fun K108 hK108 => (c_seq fun K109 hK109 => (c_region (t_move rfl rfl rfl (t_move rfl rfl rfl (t_move rfl rfl rfl ?_)))))
  have i110 : p < l.length := (by omega)
  refine t_index (j := p) Try.underlying36 Try.sizeOf41 rfl rfl rfl rfl ((hl.keep E107 (fun _ h => h)).addr (by omega)) rfl i110 (t_indexArr (j := 1) (ol + p * 2 + 1) Try.underlying41 Try.sizeOf3 rfl rfl rfl rfl rfl (by decide) rfl (t_load Try.isAgg3 rfl rfl rfl (((hl.keep E107 (fun _ h => h)).at_ p (by omega)) 1 _ rfl) (t_cmp rfl rfl rfl rfl rfl (t_nil' (hK109 _ _ (c_condp rfl (fun g116 => ?_) (fun g116 => ?_)))))))
  ·
   refine c_skip (hK108 _ _ (c_seq fun K111 hK111 => (c_block (c_region (t_move rfl rfl rfl (t_indexArr (j := c.toNat) (0 + c.toNat * 1) Try.underlying99 Try.sizeOf4 rfl rfl rfl rfl (by omega) (by omega) rfl (t_storeB (ls := V) (v := true) c.toNat Try.sizeOf4 rfl rfl rfl I104 (by rw [hVl]; omega) (fun w112 sw112 B114 u113 => ?_))))))))
   have zu113 := u113.size
   refine t_nil' (hK111 _ _ (c_region (t_move rfl rfl rfl (t_ari rfl rfl rfl rfl rfl (by omega) (t_assign rfl rfl rfl (t_nil' ?_))))))
   exact hK101 (c + 1, (V.set c.toNat true)) _ _ (by show ((nth l p).e - (c + 1)).toNat < ((nth l p).e - c).toNat; omega) ⟨rfl, rfl, rfl, rfl, rfl, trivial⟩ ⟨(u103.next u113 (fun i hi h => by omega)), B114, (by show (nth l p).b ≤ (c + 1) ∧ (c + 1) ≤ (nth l p).e; omega), (hV.mark (by omega) (by omega) (by omega))⟩
  have hW2 := hV
  refine c_exit (hK30 _ _ (c_region (t_move rfl rfl rfl (t_ari rfl rfl rfl rfl rfl (by omega) (t_assign rfl rfl rfl (t_nil' ?_))))))
  have hW9 := hW2.done (show p < l.length by omega) (by omega)
  exact hK20 (p + 1, V) _ _ (by show l.length - (p + 1) < l.length - p; omega) ⟨rfl, rfl, rfl, rfl, trivial⟩ ⟨((u22.next u35 (fun _ _ h => h.elim)).next u103 (fun i hi h => by omega)), I104, (by omega), hW9, (fun j k hj hk => by
    rcases Nat.lt_or_ge j p with q | q
    · exact hB j k q hk
    · rw [show j = p by omega]; exact hB9 k hk)⟩
 have hin : p = l.length := by omega
 have hL := srt_apart (l := l) (fun j k hj hk => hB j k (by omega) hk)
 refine c_exit (hK18 _ _ (c_seq fun K116 hK116 => (c_seq fun K117 hK117 => (c_region (t_assign rfl rfl rfl (t_nil' (hK117 _ _ (c_block (c_loop (γ := Nat) (fun p => [(1, .slice al l.length cl), (2, .pointer (some ⟨bk2, 0, none⟩)), (5, .pointer (some ⟨bk8, 0, none⟩)), (9, .int .i64 (p : Int))]) (fun p w => Upd (fun _ => False) w21 w ∧ (p ≤ l.length) ∧ (∀ j, j < p → ∃ E, EndOf r l (nth l j) E ∧ E - (nth l j).b ≤ r.span ∧ sumW l (nth l j).b E ≤ r.work)) (fun p => l.length - p) 0 ⟨rfl, rfl, rfl, rfl, trivial⟩ ⟨Upd.refl _ _, (Nat.zero_le _), (fun j hj => absurd hj (Nat.not_lt_zero _))⟩ ?_)))))))))
 intro p w119 hW K118 hK118
 obtain ⟨u120, I121, I122⟩ := hW
 have zu120 := u120.size
 have E123 := E27.nx u120
 have hi := I121; clear I121
 have hE := I122; clear I122
 refine c_seq fun K124 hK124 => (c_seq fun K125 hK125 => (c_region (t_move rfl rfl rfl (t_move rfl rfl rfl (t_len Try.underlying36 rfl rfl rfl rfl (t_cmp rfl rfl rfl rfl rfl (t_nil' (hK125 _ _ (c_condp rfl (fun g124 => ?_) (fun g124 => ?_))))))))))
 ·
  have hop := hok _ (nth_mem (show p < l.length by omega))
  have hpp := hop.1
  unfold OkSp at hpp
  refine c_skip (hK124 _ _ (c_seq fun K126 hK126 => (c_block (c_seq fun K127 hK127 => (c_drawnQ follows (by kernel_rfl) (p_move rfl rfl rfl (p_move rfl rfl rfl ?_)))))))
  have i130 : p < l.length := (by omega)
  refine p_index (j := p) Try.underlying36 Try.sizeOf41 rfl rfl rfl rfl ((hl.keep E123 (fun _ h => h)).addr (by omega)) rfl i130 (p_indexArr (j := 0) (ol + p * 2 + 0) Try.underlying41 Try.sizeOf3 rfl rfl rfl rfl rfl (by decide) rfl (p_load Try.isAgg3 rfl rfl rfl (((hl.keep E123 (fun _ h => h)).at_ p (by omega)) 0 _ rfl) (p_move rfl rfl rfl (p_move rfl rfl rfl ?_))))
  have i131 : p < l.length := (by omega)
  refine p_index (j := p) Try.underlying36 Try.sizeOf41 rfl rfl rfl rfl ((hl.keep E123 (fun _ h => h)).addr (by omega)) rfl i131 (p_indexArr (j := 1) (ol + p * 2 + 1) Try.underlying41 Try.sizeOf3 rfl rfl rfl rfl rfl (by decide) rfl (p_load Try.isAgg3 rfl rfl rfl (((hl.keep E123 (fun _ h => h)).at_ p (by omega)) 1 _ rfl) (p_assign rfl rfl rfl (p_assign rfl rfl rfl (p_assign rfl rfl rfl (p_assign rfl rfl rfl (p_nil fun w132 u133 => ?_)))))))
  have zu133 := u133.size
  refine t_nil' (hK127 _ _ (c_seq fun K135 hK135 => (c_block (c_loop (γ := Int × Bool) (fun gg => [(1, .slice al l.length cl), (2, .pointer (some ⟨bk2, 0, none⟩)), (5, .pointer (some ⟨bk8, 0, none⟩)), (9, .int .i64 (p : Int)), (10, .int .i64 ((nth l p).b)), (11, .int .i64 gg.1), (12, .int .i64 0), (13, .bool gg.2)]) (fun gg w => Upd (fun _ => False) w132 w ∧ ((nth l p).e ≤ gg.1 ∧ gg.1 ≤ 699) ∧ (∀ M, (nth l p).e ≤ M → ClsTo r l (nth l p).b M → gg.1 ≤ M) ∧ (gg.2 = false → ClsTo r l (nth l p).b gg.1)) (fun gg => 2 * (700 - gg.1).toNat + (if gg.2 = true then 1 else 0)) ((nth l p).e, true) ⟨rfl, rfl, rfl, rfl, rfl, rfl, rfl, rfl, trivial⟩ ⟨Upd.refl _ _, (by omega), (fun M h _ => h), (fun h => by cases h)⟩ ?_))))
  intro gg w137 hW K136 hK136
  obtain ⟨E, m⟩ := gg
  change WC _ _ _ _ _ _ [(1, .slice al l.length cl), (2, .pointer (some ⟨bk2, 0, none⟩)), (5, .pointer (some ⟨bk8, 0, none⟩)), (9, .int .i64 (p : Int)), (10, .int .i64 ((nth l p).b)), (11, .int .i64 E), (12, .int .i64 0), (13, .bool m)] _
  change Upd (fun _ => False) w132 w137 ∧ ((nth l p).e ≤ E ∧ E ≤ 699) ∧ (∀ M, (nth l p).e ≤ M → ClsTo r l (nth l p).b M → E ≤ M) ∧ (m = false → ClsTo r l (nth l p).b E) at hW
  obtain ⟨u138, I139, I140, I141⟩ := hW
  have zu138 := u138.size
  have E142 := (E123.nx u133).nx u138
  have hEr := I139; clear I139
  have hEm := I140; clear I140
  have hEc := I141; clear I141
  refine c_seq fun K143 hK143 => (c_seq fun K144 hK144 => (c_region (t_move rfl rfl rfl (t_nil' (hK144 _ _ (c_cond rfl (fun g137 => ?_) (fun g137 => ?_)))))))
  ·
   refine c_skip (hK143 _ _ (c_block (c_seq fun K145 hK145 => (c_region (t_assign rfl rfl rfl (t_nil' (hK145 _ _ (c_seq fun K146 hK146 => (c_region (t_assign rfl rfl rfl (t_nil' (hK146 _ _ (c_block (c_loop (γ := Nat × Int × Bool) (fun gg => [(1, .slice al l.length cl), (2, .pointer (some ⟨bk2, 0, none⟩)), (5, .pointer (some ⟨bk8, 0, none⟩)), (9, .int .i64 (p : Int)), (10, .int .i64 ((nth l p).b)), (11, .int .i64 gg.2.1), (12, .int .i64 0), (13, .bool gg.2.2), (14, .int .i64 (gg.1 : Int))]) (fun gg w => Upd (fun _ => False) w137 w ∧ (gg.1 ≤ l.length) ∧ (E ≤ gg.2.1 ∧ gg.2.1 ≤ 699) ∧ (∀ M, (nth l p).e ≤ M → ClsTo r l (nth l p).b M → gg.2.1 ≤ M) ∧ (gg.2.2 = true → E < gg.2.1) ∧ (gg.2.2 = false → gg.2.1 = E ∧ ClsK r l (nth l p).b E gg.1)) (fun gg => l.length - gg.1) (0, E, false) ⟨rfl, rfl, rfl, rfl, rfl, rfl, rfl, rfl, rfl, trivial⟩ ⟨Upd.refl _ _, (Nat.zero_le _), (by show E ≤ E ∧ E ≤ 699; omega), hEm, (fun h => by cases h), (fun _ => ⟨rfl, fun j hj => absurd hj (Nat.not_lt_zero _)⟩)⟩ ?_))))))))))))))
   intro gg w148 hW K147 hK147
   obtain ⟨k, E2, m2⟩ := gg
   change WC _ _ _ _ _ _ [(1, .slice al l.length cl), (2, .pointer (some ⟨bk2, 0, none⟩)), (5, .pointer (some ⟨bk8, 0, none⟩)), (9, .int .i64 (p : Int)), (10, .int .i64 ((nth l p).b)), (11, .int .i64 E2), (12, .int .i64 0), (13, .bool m2), (14, .int .i64 (k : Int))] _
   change Upd (fun _ => False) w137 w148 ∧ (k ≤ l.length) ∧ (E ≤ E2 ∧ E2 ≤ 699) ∧ (∀ M, (nth l p).e ≤ M → ClsTo r l (nth l p).b M → E2 ≤ M) ∧ (m2 = true → E < E2) ∧ (m2 = false → E2 = E ∧ ClsK r l (nth l p).b E k) at hW
   obtain ⟨u149, I150, I151, I152, I153, I154⟩ := hW
   have zu149 := u149.size
   have E155 := E142.nx u149
   have hk := I150; clear I150
   have hE2r := I151; clear I151
   have hE2m := I152; clear I152
   have hE2t := I153; clear I153
   have hE2f := I154; clear I154
   refine c_seq fun K156 hK156 => (c_seq fun K157 hK157 => (c_region (t_move rfl rfl rfl (t_move rfl rfl rfl (t_len Try.underlying36 rfl rfl rfl rfl (t_cmp rfl rfl rfl rfl rfl (t_nil' (hK157 _ _ (c_condp rfl (fun g141 => ?_) (fun g141 => ?_))))))))))
   ·
    have hok := hok _ (nth_mem (show k < l.length by omega))
    have hpk := hok.1
    unfold OkSp at hpk
    refine c_skip (hK156 _ _ (c_seq fun K158 hK158 => (c_block (c_seq fun K159 hK159 => (c_drawnQ follows (by kernel_rfl) (p_move rfl rfl rfl (p_move rfl rfl rfl ?_)))))))
    have i164 : k < l.length := (by omega)
    refine p_index (j := k) Try.underlying36 Try.sizeOf41 rfl rfl rfl rfl ((hl.keep E155 (fun _ h => h)).addr (by omega)) rfl i164 (p_indexArr (j := 0) (ol + k * 2 + 0) Try.underlying41 Try.sizeOf3 rfl rfl rfl rfl rfl (by decide) rfl (p_load Try.isAgg3 rfl rfl rfl (((hl.keep E155 (fun _ h => h)).at_ k (by omega)) 0 _ rfl) (p_move rfl rfl rfl (p_cmp rfl rfl rfl rfl rfl (p_move rfl rfl rfl (p_splitp 151 rfl (fun g151 => ?_) (fun g151 => ?_)))))))
    ·
     refine p_move rfl rfl rfl (p_move rfl rfl rfl ?_)
     have i165 : k < l.length := (by omega)
     refine p_index (j := k) Try.underlying36 Try.sizeOf41 rfl rfl rfl rfl ((hl.keep E155 (fun _ h => h)).addr (by omega)) rfl i165 (p_indexArr (j := 0) (ol + k * 2 + 0) Try.underlying41 Try.sizeOf3 rfl rfl rfl rfl rfl (by decide) rfl (p_load Try.isAgg3 rfl rfl rfl (((hl.keep E155 (fun _ h => h)).at_ k (by omega)) 0 _ rfl) (p_move rfl rfl rfl (p_field Try.underlying28 rfl Try.sizeOf3 (0) rfl rfl rfl rfl ?_))))
     have B166 := (((((((B4.kx u11).keep u14 (by omega)).keep u22 (by omega)).kx u120).kx u133).kx u138).kx u149)
     refine p_load Try.isAgg3 rfl rfl rfl (B166.get rfl) (p_ari rfl rfl rfl rfl rfl (by omega) (p_cmp rfl rfl rfl rfl rfl (p_pick_t rfl rfl rfl rfl (p_move rfl rfl rfl (p_splitp 163 rfl (fun g163 => ?_) (fun g163 => ?_))))))
     ·
      refine p_move rfl rfl rfl (p_move rfl rfl rfl ?_)
      have i167 : k < l.length := (by omega)
      refine p_index (j := k) Try.underlying36 Try.sizeOf41 rfl rfl rfl rfl ((hl.keep E155 (fun _ h => h)).addr (by omega)) rfl i167 (p_indexArr (j := 1) (ol + k * 2 + 1) Try.underlying41 Try.sizeOf3 rfl rfl rfl rfl rfl (by decide) rfl (p_load Try.isAgg3 rfl rfl rfl (((hl.keep E155 (fun _ h => h)).at_ k (by omega)) 1 _ rfl) (p_move rfl rfl rfl (p_cmp rfl rfl rfl rfl rfl (p_pick_t rfl rfl rfl rfl (p_nil fun w168 u169 => ?_))))))
      have zu169 := u169.size
      have E170 := E155.nx u169
      refine t_nil' (hK159 _ _ (c_condp rfl (fun g171 => ?_) (fun g171 => ?_)))
      ·
       refine c_region (t_move rfl rfl rfl (t_move rfl rfl rfl ?_))
       have i171 : k < l.length := (by omega)
       refine t_index (j := k) Try.underlying36 Try.sizeOf41 rfl rfl rfl rfl ((hl.keep E170 (fun _ h => h)).addr (by omega)) rfl i171 (t_indexArr (j := 1) (ol + k * 2 + 1) Try.underlying41 Try.sizeOf3 rfl rfl rfl rfl rfl (by decide) rfl (t_load Try.isAgg3 rfl rfl rfl (((hl.keep E170 (fun _ h => h)).at_ k (by omega)) 1 _ rfl) (t_assign rfl rfl rfl (t_assign rfl rfl rfl (t_nil' (hK158 _ _ (c_region (t_move rfl rfl rfl (t_ari rfl rfl rfl rfl rfl (by omega) (t_assign rfl rfl rfl (t_nil' ?_)))))))))))
       exact hK147 (k + 1, (nth l k).e, true) _ _ (by show l.length - (k + 1) < l.length - k; omega) ⟨rfl, rfl, rfl, rfl, rfl, rfl, rfl, rfl, rfl, trivial⟩ ⟨(u149.next u169 (fun _ _ h => h.elim)), (by omega), (by show E ≤ ((nth l k).e) ∧ ((nth l k).e) ≤ 699; omega), (fun M h1 h2 => h2 (nth l k) (nth_mem (by omega)) (by omega) (by have := hE2m M h1 h2; omega)), (fun _ => (by show E < (nth l k).e; omega)), (fun h => by cases h)⟩
      refine c_skip (hK158 _ _ (c_region (t_move rfl rfl rfl (t_ari rfl rfl rfl rfl rfl (by omega) (t_assign rfl rfl rfl (t_nil' ?_))))))
      exact hK147 (k + 1, E2, m2) _ _ (by show l.length - (k + 1) < l.length - k; omega) ⟨rfl, rfl, rfl, rfl, rfl, rfl, rfl, rfl, rfl, trivial⟩ ⟨(u149.next u169 (fun _ _ h => h.elim)), (by omega), (by show E ≤ E2 ∧ E2 ≤ 699; omega), hE2m, hE2t, (fun h => ⟨(hE2f h).1, (hE2f h).2.next fun h1 h2 => by have := (hE2f h).1; omega⟩)⟩
     refine p_skip rfl rfl rfl (p_skip rfl rfl rfl (p_skip rfl rfl rfl (p_skip rfl rfl rfl (p_skip rfl rfl rfl (p_skip rfl rfl rfl (p_skip rfl rfl rfl (p_pick_f rfl rfl rfl rfl (p_nil fun w172 u173 => ?_))))))))
     have zu173 := u173.size
     refine t_nil' (hK159 _ _ (c_cond_f rfl (c_skip (hK158 _ _ (c_region (t_move rfl rfl rfl (t_ari rfl rfl rfl rfl rfl (by omega) (t_assign rfl rfl rfl (t_nil' ?_)))))))))
     exact hK147 (k + 1, E2, m2) _ _ (by show l.length - (k + 1) < l.length - k; omega) ⟨rfl, rfl, rfl, rfl, rfl, rfl, rfl, rfl, rfl, trivial⟩ ⟨(u149.next u173 (fun _ _ h => h.elim)), (by omega), (by show E ≤ E2 ∧ E2 ≤ 699; omega), hE2m, hE2t, (fun h => ⟨(hE2f h).1, (hE2f h).2.next fun h1 h2 => by have := (hE2f h).1; omega⟩)⟩
    refine p_skip rfl rfl rfl (p_skip rfl rfl rfl (p_skip rfl rfl rfl (p_skip rfl rfl rfl (p_skip rfl rfl rfl (p_skip rfl rfl rfl (p_skip rfl rfl rfl (p_skip rfl rfl rfl (p_skip rfl rfl rfl (p_skip rfl rfl rfl (p_pick_f rfl rfl rfl rfl (p_move rfl rfl rfl (p_skip rfl rfl rfl (p_skip rfl rfl rfl (p_skip rfl rfl rfl (p_skip rfl rfl rfl (p_skip rfl rfl rfl (p_skip rfl rfl rfl (p_skip rfl rfl rfl (p_pick_f rfl rfl rfl rfl (p_nil fun w175 u176 => ?_))))))))))))))))))))
    have zu176 := u176.size
    refine t_nil' (hK159 _ _ (c_cond_f rfl (c_skip (hK158 _ _ (c_region (t_move rfl rfl rfl (t_ari rfl rfl rfl rfl rfl (by omega) (t_assign rfl rfl rfl (t_nil' ?_)))))))))
    exact hK147 (k + 1, E2, m2) _ _ (by show l.length - (k + 1) < l.length - k; omega) ⟨rfl, rfl, rfl, rfl, rfl, rfl, rfl, rfl, rfl, trivial⟩ ⟨(u149.next u176 (fun _ _ h => h.elim)), (by omega), (by show E ≤ E2 ∧ E2 ≤ 699; omega), hE2m, hE2t, (fun h => ⟨(hE2f h).1, (hE2f h).2.next fun h1 h2 => by have := (hE2f h).1; omega⟩)⟩
   refine c_exit ?_
   exact hK136 (E2, m2) _ _ (by rw [g137]; cases hm2 : m2 with
     | true => have := hE2t hm2; simp; omega
     | false => have := (hE2f hm2).1; simp; omega) ⟨rfl, rfl, rfl, rfl, rfl, rfl, rfl, rfl, trivial⟩ ⟨(u138.next u149 (fun _ _ h => h.elim)), (by show (nth l p).e ≤ E2 ∧ E2 ≤ 699; omega), hE2m, (fun h => by rw [(hE2f h).1]; exact (hE2f h).2.all (by omega))⟩
  have hEnd : EndOf r l (nth l p) E := ⟨hEr.1, hEc g137, hEm⟩
  refine c_exit (hK135 _ _ (c_seq fun K178 hK178 => (c_seq fun K179 hK179 => (c_region (t_move rfl rfl rfl (t_assign rfl rfl rfl (t_nil' (hK179 _ _ (c_block (c_loop (γ := Int) (fun c => [(1, .slice al l.length cl), (2, .pointer (some ⟨bk2, 0, none⟩)), (5, .pointer (some ⟨bk8, 0, none⟩)), (9, .int .i64 (p : Int)), (10, .int .i64 ((nth l p).b)), (11, .int .i64 E), (12, .int .i64 (sumW l (nth l p).b c)), (15, .int .i64 c)]) (fun c w => Upd (fun _ => False) w137 w ∧ ((nth l p).b ≤ c ∧ c ≤ E)) (fun c => (E - c).toNat) ((nth l p).b) ⟨rfl, rfl, rfl, rfl, rfl, rfl, (congrArg (fun z => some (Value.int .i64 z)) (sumW_refl l hok1 _).symm), rfl, trivial⟩ ⟨Upd.refl _ _, (by omega)⟩ ?_))))))))))
  intro c w181 hW K180 hK180
  obtain ⟨u182, I183⟩ := hW
  have zu182 := u182.size
  have E184 := E142.nx u182
  have hc := I183; clear I183
  have hsl := sumW_len hL hok1 (show (nth l p).b ≤ c by omega)
  have hsn := sumW_nn l (nth l p).b c
  refine c_seq fun K185 hK185 => (c_seq fun K186 hK186 => (c_region (t_move rfl rfl rfl (t_move rfl rfl rfl (t_cmp rfl rfl rfl rfl rfl (t_nil' (hK186 _ _ (c_condp rfl (fun g180 => ?_) (fun g180 => ?_)))))))))
  ·
   have hcv := hW.all (by omega) (show 0 ≤ c by omega) (show c < 700 by omega)
   refine c_skip (hK185 _ _ (c_seq fun K187 hK187 => (c_block (c_seq fun K188 hK188 => (c_region (t_move rfl rfl rfl (t_indexArr (j := c.toNat) (0 + c.toNat * 1) Try.underlying99 Try.sizeOf4 rfl rfl rfl rfl (by omega) (by omega) rfl ?_)))))))
   have B189 := ((((I23.kx u120).kx u133).kx u138).kx u182)
   refine t_load Try.isAgg4 rfl rfl rfl (((SlB.own B189).at_ c.toNat (by rw [hW.1]; omega)) 0 _ rfl) (t_nil' (hK188 _ _ (c_cond rfl (fun g185 => ?_) (fun g185 => ?_))))
   ·
    refine c_region (t_move rfl rfl rfl (t_ari rfl rfl rfl rfl rfl (by omega) (t_assign rfl rfl rfl (t_nil' (hK187 _ _ (c_region (t_move rfl rfl rfl (t_ari rfl rfl rfl rfl rfl (by omega) (t_assign rfl rfl rfl (t_nil' ?_))))))))))
    have hs9 := sum_yes hL hok1 (show (nth l p).b ≤ c by omega) (hcv.1 g185)
    exact hK180 (c + 1) _ _ (by omega) ⟨rfl, rfl, rfl, rfl, rfl, rfl, (congrArg (fun z => some (Value.int .i64 z)) hs9.symm), rfl, trivial⟩ ⟨u182, (by omega)⟩
   refine c_skip (hK187 _ _ (c_region (t_move rfl rfl rfl (t_ari rfl rfl rfl rfl rfl (by omega) (t_assign rfl rfl rfl (t_nil' ?_))))))
   have hs9 := sum_no hok1 (show (nth l p).b ≤ c by omega) (fun h => by rw [hcv.2 h] at g185; cases g185)
   exact hK180 (c + 1) _ _ (by omega) ⟨rfl, rfl, rfl, rfl, rfl, rfl, (congrArg (fun z => some (Value.int .i64 z)) hs9.symm), rfl, trivial⟩ ⟨u182, (by omega)⟩
  have hcE : c = E := by omega
  subst hcE
  refine c_exit (hK178 _ _ (c_seq fun K190 hK190 => (c_region (t_move rfl rfl rfl (t_move rfl rfl rfl (t_ari rfl rfl rfl rfl rfl (by omega) (t_field Try.underlying28 rfl Try.sizeOf3 (1) rfl rfl rfl rfl ?_)))))))
  have B191 := (((((((B4.kx u11).keep u14 (by omega)).keep u22 (by omega)).kx u120).kx u133).kx u138).kx u182)
  refine t_load Try.isAgg3 rfl rfl rfl (B191.get rfl) (t_cmp rfl rfl rfl rfl rfl (t_move rfl rfl rfl (t_splitp 194 rfl (fun g194 => ?_) (fun g194 => ?_))))
  ·
   refine t_skip rfl rfl rfl (t_skip rfl rfl rfl (t_skip rfl rfl rfl (t_skip rfl rfl rfl (t_pick_t rfl rfl rfl rfl (t_nil' (hK190 _ _ (c_cond_t rfl (c_seq fun K192 hK192 => (c_region (t_assign rfl rfl rfl (t_nil' (hK192 _ _ (c_ret (f_ret1 (v := .bool false) Try.results12 rfl ?_))))))))))))))
   exact ⟨congrArg Value.bool (decide_eq_false (keeps_shift hr hok1 (show p < l.length by omega) hEnd (by omega))).symm, E184⟩
  refine t_move rfl rfl rfl (t_field Try.underlying28 rfl Try.sizeOf3 (2) rfl rfl rfl rfl (t_load Try.isAgg3 rfl rfl rfl (B191.get rfl) (t_cmp rfl rfl rfl rfl rfl (t_pick_f rfl rfl rfl rfl (t_nil' (hK190 _ _ (c_condp rfl (fun g199 => ?_) (fun g199 => ?_))))))))
  ·
   refine c_seq fun K193 hK193 => (c_region (t_assign rfl rfl rfl (t_nil' (hK193 _ _ (c_ret (f_ret1 (v := .bool false) Try.results12 rfl ?_))))))
   exact ⟨congrArg Value.bool (decide_eq_false (keeps_shift hr hok1 (show p < l.length by omega) hEnd (by omega))).symm, E184⟩
  refine c_skip (hK126 _ _ (c_region (t_move rfl rfl rfl (t_ari rfl rfl rfl rfl rfl (by omega) (t_assign rfl rfl rfl (t_nil' ?_))))))
  exact hK118 (p + 1) _ _ (by omega) ⟨rfl, rfl, rfl, rfl, trivial⟩ ⟨(((u120.next u133 (fun _ _ h => h.elim)).next u138 (fun _ _ h => h.elim)).next u182 (fun _ _ h => h.elim)), (by omega), (fun j hj => by
    rcases Nat.lt_or_ge j p with q | q
    · exact hE j q
    · rw [show j = p by omega]; exact ⟨_, hEnd, by omega, by omega⟩)⟩
 refine c_exit (hK116 _ _ (c_seq fun K194 hK194 => (c_seq fun K195 hK195 => (c_region (t_field Try.underlying28 rfl Try.sizeOf3 (3) rfl rfl rfl rfl ?_)))))
 have B196 := ((((B4.kx u11).keep u14 (by omega)).keep u22 (by omega)).kx u120)
 refine t_load Try.isAgg3 rfl rfl rfl (B196.get rfl) (t_neg rfl rfl rfl (by omega) (t_assign rfl rfl rfl (t_nil' (hK195 _ _ (c_block (c_loop (γ := Int) (fun t => [(2, .pointer (some ⟨bk2, 0, none⟩)), (5, .pointer (some ⟨bk8, 0, none⟩)), (16, .int .i64 t)]) (fun t w => Upd (fun _ => False) w119 w ∧ (-r.week ≤ t ∧ t ≤ 700) ∧ (∀ q, -r.week ≤ q → q < t → sumW l q (q + r.week) ≤ r.ww)) (fun t => (700 - t).toNat) (-r.week) ⟨rfl, rfl, rfl, trivial⟩ ⟨Upd.refl _ _, (by omega), (fun q h1 h2 => absurd h1 (by omega))⟩ ?_))))))
 intro t w198 hW K197 hK197
 obtain ⟨u199, I200, I201⟩ := hW
 have zu199 := u199.size
 have E202 := E123.nx u199
 have ht := I200; clear I200
 have hw := I201; clear I201
 refine c_seq fun K203 hK203 => (c_seq fun K204 hK204 => (c_region (t_move rfl rfl rfl (t_cmp rfl rfl rfl rfl rfl (t_nil' (hK204 _ _ (c_condp rfl (fun g204 => ?_) (fun g204 => ?_))))))))
 ·
  refine c_skip (hK203 _ _ (c_seq fun K205 hK205 => (c_block (c_seq fun K206 hK206 => (c_region (t_assign rfl rfl rfl (t_nil' (hK206 _ _ (c_seq fun K207 hK207 => (c_seq fun K208 hK208 => (c_region (t_move rfl rfl rfl (t_max rfl rfl rfl rfl (t_assign rfl rfl rfl (t_nil' (hK208 _ _ (c_block (c_loop (γ := Int) (fun c => [(2, .pointer (some ⟨bk2, 0, none⟩)), (5, .pointer (some ⟨bk8, 0, none⟩)), (16, .int .i64 t), (17, .int .i64 (sumW l (max 0 t) c)), (18, .int .i64 c)]) (fun c w => Upd (fun _ => False) w198 w ∧ ((max 0 t) ≤ c ∧ c ≤ max (max 0 t) (min 700 (t + r.week)))) (fun c => (700 - c).toNat) (max 0 t) ⟨rfl, rfl, rfl, (congrArg (fun z => some (Value.int .i64 z)) (sumW_refl l hok1 _).symm), rfl, trivial⟩ ⟨Upd.refl _ _, (by omega)⟩ ?_))))))))))))))))))
  intro c w210 hW K209 hK209
  obtain ⟨u211, I212⟩ := hW
  have zu211 := u211.size
  have hc := I212; clear I212
  have hsl := sumW_len hL hok1 (show (max 0 t) ≤ c by omega)
  have hsn := sumW_nn l (max 0 t) c
  refine c_seq fun K214 hK214 => (c_seq fun K215 hK215 => (c_region (t_move rfl rfl rfl (t_move rfl rfl rfl (t_field Try.underlying28 rfl Try.sizeOf3 (3) rfl rfl rfl rfl ?_)))))
  have B216 := ((B196.kx u199).kx u211)
  refine t_load Try.isAgg3 rfl rfl rfl (B216.get rfl) (t_ari rfl rfl rfl rfl rfl (by omega) (t_min rfl rfl rfl rfl (t_cmp rfl rfl rfl rfl rfl (t_nil' (hK215 _ _ (c_condp rfl (fun g215 => ?_) (fun g215 => ?_)))))))
  ·
   have hcv := hW.all (by omega) (show 0 ≤ c by omega) (show c < 700 by omega)
   refine c_skip (hK214 _ _ (c_seq fun K217 hK217 => (c_block (c_seq fun K218 hK218 => (c_region (t_move rfl rfl rfl (t_indexArr (j := c.toNat) (0 + c.toNat * 1) Try.underlying99 Try.sizeOf4 rfl rfl rfl rfl (by omega) (by omega) rfl ?_)))))))
   have B219 := (((I23.kx u120).kx u199).kx u211)
   refine t_load Try.isAgg4 rfl rfl rfl (((SlB.own B219).at_ c.toNat (by rw [hW.1]; omega)) 0 _ rfl) (t_nil' (hK218 _ _ (c_cond rfl (fun g220 => ?_) (fun g220 => ?_))))
   ·
    refine c_region (t_move rfl rfl rfl (t_ari rfl rfl rfl rfl rfl (by omega) (t_assign rfl rfl rfl (t_nil' (hK217 _ _ (c_region (t_move rfl rfl rfl (t_ari rfl rfl rfl rfl rfl (by omega) (t_assign rfl rfl rfl (t_nil' ?_))))))))))
    have hs9 := sum_yes hL hok1 (show (max 0 t) ≤ c by omega) (hcv.1 g220)
    exact hK209 (c + 1) _ _ (by omega) ⟨rfl, rfl, rfl, (congrArg (fun z => some (Value.int .i64 z)) hs9.symm), rfl, trivial⟩ ⟨u211, (by omega)⟩
   refine c_skip (hK217 _ _ (c_region (t_move rfl rfl rfl (t_ari rfl rfl rfl rfl rfl (by omega) (t_assign rfl rfl rfl (t_nil' ?_))))))
   have hs9 := sum_no hok1 (show (max 0 t) ≤ c by omega) (fun h => by rw [hcv.2 h] at g220; cases g220)
   exact hK209 (c + 1) _ _ (by omega) ⟨rfl, rfl, rfl, (congrArg (fun z => some (Value.int .i64 z)) hs9.symm), rfl, trivial⟩ ⟨u211, (by omega)⟩
  have hclip := sumW_clip (l := l) (t := t) (W := r.week) (c := c) hok (by omega) (by omega) (by omega)
  refine c_exit (hK207 _ _ (c_seq fun K220 hK220 => (c_region (t_move rfl rfl rfl (t_field Try.underlying28 rfl Try.sizeOf3 (4) rfl rfl rfl rfl (t_load Try.isAgg3 rfl rfl rfl (B216.get rfl) (t_cmp rfl rfl rfl rfl rfl (t_nil' (hK220 _ _ (c_condp rfl (fun g226 => ?_) (fun g226 => ?_)))))))))))
  ·
   refine c_seq fun K221 hK221 => (c_region (t_assign rfl rfl rfl (t_nil' (hK221 _ _ (c_ret (f_ret1 (v := .bool false) Try.results12 rfl ?_))))))
   exact ⟨congrArg Value.bool (decide_eq_false (keeps_week hr hok1 (t := t) (by rw [← hclip]; omega))).symm, (E202.nx u211)⟩
  refine c_skip (hK205 _ _ (c_region (t_move rfl rfl rfl (t_ari rfl rfl rfl rfl rfl (by omega) (t_assign rfl rfl rfl (t_nil' ?_))))))
  exact hK197 (t + 1) _ _ (by omega) ⟨rfl, rfl, rfl, trivial⟩ ⟨(u199.next u211 (fun _ _ h => h.elim)), (by omega), (fun q h1 h2 => by
    by_cases h : q < t
    · exact hw q h1 h
    · rw [show q = t by omega, ← hclip]; omega)⟩
 refine c_exit (hK194 _ _ (c_seq fun K222 hK222 => (c_region (t_assign rfl rfl rfl (t_nil' (hK222 _ _ (c_ret (f_ret1 (v := .bool true) Try.results12 rfl ?_))))))))
 exact ⟨congrArg Value.bool (decide_eq_true (keeps_yes hr hok1 (fun j k hj hk => hB j k (by omega) hk) (fun j hj => hE j (by omega)) (fun q h1 h2 => hw q h1 (by omega)) (fun x hx => (hok x hx).2))).symm, E202⟩

end Go.Proofs.Ytagmodjadmecdaa
