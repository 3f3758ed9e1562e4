/-
  The reference's Survey and Fit: the walks. Conditions: none.
-/
import Derived.Test.YtgkkgpenmppjcaaA20
namespace Go.Proofs.Ytgkkgpenmppjcaa
open Go Go.RowKit

theorem fit_snoc {out g3 : List Bd} {of : List Int} {k : Nat} {x : Bd} (hl : out.length = k) (h : ∀ i, i < k → nth out i = nth g3 (nth of i).toNat ∧ ¬ (nth out i).hi < (nth out i).lo) (hx : x = nth g3 (nth of k).toNat) (hb : ¬ x.hi < x.lo) : ∀ i, i < k + 1 → nth (out ++ [x]) i = nth g3 (nth of i).toNat ∧ ¬ (nth (out ++ [x]) i).hi < (nth (out ++ [x]) i).lo := fun i hi => by
  rcases Nat.lt_or_ge i k with h9 | h9
  · rw [snoc_lt (by omega)]; exact h i h9
  · have e : i = out.length := by omega
    have e2 : i = k := by omega
    subst e2
    rw [show nth (out ++ [x]) i = x by rw [e]; exact snoc_nth]
    exact ⟨hx, hb⟩
/-- What Fit returns. -/
def FitPost (us : List Sur) (v : Value) (w' : World) : Prop :=
  (v = .tuple #[.slice none 0 0, .bool false] ∧ FitBad us us.length) ∨ (¬ FitBad us us.length ∧ ∃ ao g cp out, v = .tuple #[.slice ao (List.length out) cp, .bool true] ∧ out.length = us.length ∧ LosR (spK us us.length) 0 out ∧ Sl encBd 2 w' ao g 0 out)
theorem own46 : Own Try.prog 46 := ⟨Try.f46, Try.func46, by kernel_rfl, by kernel_rfl⟩
theorem own29 : Own Try.prog 29 := ⟨Try.f29, Try.func29, by kernel_rfl, by kernel_rfl⟩
theorem own64 : Own Try.prog 64 := ⟨Try.f64, Try.func64, by kernel_rfl, by kernel_rfl⟩

theorem in_c (n least most : Int) (w0 : World) :
    CallsV Try.prog 46 [.int .i64 n, .int .i64 least, .int .i64 most] w0 (fun v w' => v = .bool (decide (least ≤ n ∧ n ≤ most)) ∧ Ext w0 w') := by
 have E0 := Upd.refl (fun _ => False) w0
 refine f_enter (N := 15) Try.func46 rfl rfl rfl ?_
 change WC _ _ _ _ _ _ [(0, .int .i64 n), (1, .int .i64 least), (2, .int .i64 most)] _
 refine c_seq fun K1 hK1 => (c_region (t_assign rfl rfl rfl (t_nil' (hK1 _ _ (c_seq fun K2 hK2 => (c_region (t_move rfl rfl rfl (t_move rfl rfl rfl (t_cmp rfl rfl rfl rfl rfl (t_move rfl rfl rfl (t_splitp 10 rfl (fun g10 => ?_) (fun g10 => ?_))))))))))))
 ·
  refine t_move rfl rfl rfl (t_move rfl rfl rfl (t_cmp rfl rfl rfl rfl rfl (t_pick_t rfl rfl rfl rfl (t_assign rfl rfl rfl (t_nil' (hK2 _ _ (c_ret (f_ret1 (v := .bool (decide (n ≤ most))) Try.results46 rfl ?_))))))))
  exact ⟨congrArg Value.bool (by first | (rw [decide_eq_decide]; omega) | (symm; rw [decide_eq_false_iff_not]; omega)), E0⟩
 ·
  refine t_skip rfl rfl rfl (t_skip rfl rfl rfl (t_skip rfl rfl rfl (t_pick_f rfl rfl rfl rfl (t_assign rfl rfl rfl (t_nil' (hK2 _ _ (c_ret (f_ret1 (v := .bool false) Try.results46 rfl ?_))))))))
  exact ⟨congrArg Value.bool (by first | (rw [decide_eq_decide]; omega) | (symm; rw [decide_eq_false_iff_not]; omega)), E0⟩

theorem Survey_c (x : Sur) (w0 : World) :
    CallsV Try.prog 29 [.agg #[.int .i64 x.book, .int .i64 x.lo, .int .i64 x.hi, .bool x.sealed]] w0 (fun v w' => v = .bool (okSur x) ∧ Ext w0 w') := by
 have E0 := Upd.refl (fun _ => False) w0
 refine f_enter (N := 27) Try.func29 rfl rfl rfl ?_
 change WC _ _ _ _ _ _ [(0, .agg #[.int .i64 x.book, .int .i64 x.lo, .int .i64 x.hi, .bool x.sealed])] _
 refine c_seq fun K1 hK1 => (c_region (t_box (cs := [.int .i64 x.book, .int .i64 x.lo, .int .i64 x.hi, .bool x.sealed]) rfl rfl rfl rfl (fun bk2 w3 ebk2 sbk2 B4 u5 => ?_)))
 have zu5 := u5.size
 have E6 := E0.next u5 (fun _ _ h => h.elim)
 refine t_assign rfl rfl rfl (t_nil' (hK1 _ _ (c_seq fun K7 hK7 => (c_region (t_field Try.underlying79 rfl Try.sizeOf3 (0) rfl rfl rfl rfl (t_load Try.isAgg3 rfl rfl rfl (B4.get rfl) (t_call (vs := [.int .i64 x.book, .int .i64 0, .int .i64 1000000]) own46 rfl rfl rfl rfl (in_c x.book 0 1000000 _) (fun v8 w9 r11 => ?_))))))))
 obtain ⟨rfl, u10⟩ := r11
 have zu10 := u10.size
 have E12 := E6.next u10 (fun _ _ h => h.elim)
 refine t_move rfl rfl rfl (t_splitp 6 rfl (fun g6 => ?_) (fun g6 => ?_))
 ·
  refine t_field Try.underlying79 rfl Try.sizeOf77 (1) rfl rfl rfl rfl (t_field Try.underlying77 rfl Try.sizeOf3 (1) rfl rfl rfl rfl ?_)
  have B13 := (B4.keep u10 (fun h => h))
  refine t_load Try.isAgg3 rfl rfl rfl (B13.get rfl) (t_cmp rfl rfl rfl rfl rfl (t_pick_t rfl rfl rfl rfl (t_move rfl rfl rfl (t_splitp 12 rfl (fun g12 => ?_) (fun g12 => ?_)))))
  ·
   refine t_field Try.underlying79 rfl Try.sizeOf77 (1) rfl rfl rfl rfl (t_field Try.underlying77 rfl Try.sizeOf3 (1) rfl rfl rfl rfl (t_load Try.isAgg3 rfl rfl rfl (B13.get rfl) (t_field Try.underlying79 rfl Try.sizeOf77 (1) rfl rfl rfl rfl (t_field Try.underlying77 rfl Try.sizeOf3 (2) rfl rfl rfl rfl (t_load Try.isAgg3 rfl rfl rfl (B13.get rfl) (t_cmp rfl rfl rfl rfl rfl (t_pick_t rfl rfl rfl rfl (t_move rfl rfl rfl (t_splitp 21 rfl (fun g21 => ?_) (fun g21 => ?_))))))))))
   ·
    refine t_field Try.underlying79 rfl Try.sizeOf77 (1) rfl rfl rfl rfl (t_field Try.underlying77 rfl Try.sizeOf3 (2) rfl rfl rfl rfl (t_load Try.isAgg3 rfl rfl rfl (B13.get rfl) (t_cmp rfl rfl rfl rfl rfl (t_pick_t rfl rfl rfl rfl (t_assign rfl rfl rfl (t_nil' (hK7 _ _ (c_ret (f_ret1 (v := .bool (decide (x.hi ≤ 1000000))) Try.results29 rfl ?_)))))))))
    exact ⟨congrArg Value.bool (by unfold okSur; first | (rw [decide_eq_decide]; omega) | (symm; rw [decide_eq_false_iff_not]; omega)), E12⟩
   ·
    refine t_skip rfl rfl rfl (t_skip rfl rfl rfl (t_skip rfl rfl rfl (t_skip rfl rfl rfl (t_pick_f rfl rfl rfl rfl (t_assign rfl rfl rfl (t_nil' (hK7 _ _ (c_ret (f_ret1 (v := .bool false) Try.results29 rfl ?_)))))))))
    exact ⟨congrArg Value.bool (by unfold okSur; first | (rw [decide_eq_decide]; omega) | (symm; rw [decide_eq_false_iff_not]; omega)), E12⟩
  ·
   refine t_skip rfl rfl rfl (t_skip rfl rfl rfl (t_skip rfl rfl rfl (t_skip rfl rfl rfl (t_skip rfl rfl rfl (t_skip rfl rfl rfl (t_skip rfl rfl rfl (t_pick_f rfl rfl rfl rfl (t_move rfl rfl rfl (t_skip rfl rfl rfl (t_skip rfl rfl rfl (t_skip rfl rfl rfl (t_skip rfl rfl rfl (t_pick_f rfl rfl rfl rfl (t_assign rfl rfl rfl (t_nil' (hK7 _ _ (c_ret (f_ret1 (v := .bool false) Try.results29 rfl ?_))))))))))))))))))
   exact ⟨congrArg Value.bool (by unfold okSur; first | (rw [decide_eq_decide]; omega) | (symm; rw [decide_eq_false_iff_not]; omega)), E12⟩
 ·
  refine t_skip rfl rfl rfl (t_skip rfl rfl rfl (t_skip rfl rfl rfl (t_skip rfl rfl rfl (t_pick_f rfl rfl rfl rfl (t_move rfl rfl rfl (t_skip rfl rfl rfl (t_skip rfl rfl rfl (t_skip rfl rfl rfl (t_skip rfl rfl rfl (t_skip rfl rfl rfl (t_skip rfl rfl rfl (t_skip rfl rfl rfl (t_pick_f rfl rfl rfl rfl (t_move rfl rfl rfl (t_skip rfl rfl rfl (t_skip rfl rfl rfl (t_skip rfl rfl rfl (t_skip rfl rfl rfl (t_pick_f rfl rfl rfl rfl (t_assign rfl rfl rfl (t_nil' (hK7 _ _ (c_ret ?_)))))))))))))))))))))))
  refine f_ret1 (v := .bool false) Try.results29 rfl ?_
  exact ⟨congrArg Value.bool (by unfold okSur; first | (rw [decide_eq_decide]; omega) | (symm; rw [decide_eq_false_iff_not]; omega)), E12⟩

set_option maxHeartbeats 4000000 in
theorem Fit_c (us : List Sur) (ao : Option Addr) (b o cap : Nat) (w0 : World) (hl : Sl encSur 4 w0 ao b o us) (hll : us.length ≤ 1000000) (hok : ∀ x ∈ us, okSur x = true) :
    CallsV Try.prog 64 [.slice ao us.length cap] w0 (fun v w' => FitPost us v w' ∧ Ext w0 w') := by
 have E0 := Upd.refl (fun _ => False) w0
 refine f_enter (N := 160) Try.func64 rfl rfl rfl ?_
 change WC _ _ _ _ _ _ [(0, .slice ao us.length cap)] _
 refine c_seq fun K1 hK1 => (c_region (t_assign rfl rfl rfl (t_assign rfl rfl rfl (t_nil' (hK1 _ _ (c_seq fun K2 hK2 => (c_region (t_bslice (ps := []) (cs := []) (e := 3) rfl rfl ⟨rfl, rfl⟩ (fun w => by kernel_rfl) (fun bk3 w4 ebk3 sbk3 B5 u6 => ?_)))))))))
 have zu6 := u6.size
 have E7 := E0.next u6 (fun _ _ h => h.elim)
 refine t_bslice (ps := []) (cs := []) (e := 77) rfl rfl ⟨rfl, rfl⟩ (fun w => by kernel_rfl) (fun bk8 w9 ebk8 sbk8 B10 u11 => ?_)
 have zu11 := u11.size
 have E12 := E7.next u11 (fun _ _ h => h.elim)
 refine t_assign rfl rfl rfl (t_assign rfl rfl rfl (t_nil' (hK2 _ _ (c_seq fun K13 hK13 => (c_seq fun K14 hK14 => (c_region (t_assign rfl rfl rfl (t_nil' (hK14 _ _ (c_block ?_))))))))))
 have B15 := (B5.keep u11 (fun h => h))
 have hl4 := B15.lt
 have hl5 := B10.lt
 have hac4 : Acc encI 1 3 bk3 w9 (some ⟨bk3, 0, none⟩) bk3 0 [] := Acc.ofBlk (xs := ([] : List Int)) encI 1 (fun _ => rfl) B15 (Nat.le_refl _) (by decide)
 have hac5 : Acc encBd 2 77 bk8 w9 (some ⟨bk8, 0, none⟩) bk8 0 [] := Acc.ofBlk (xs := ([] : List Bd)) encBd 2 (fun _ => rfl) B10 (Nat.le_refl _) (by decide)
 refine c_loop (γ := Nat × Option Addr × Nat × Nat × List Int × Option Addr × Nat × Nat × List Bd) (fun gg => [(0, .slice ao us.length cap), (4, .slice gg.2.1 gg.2.2.2.2.1.length gg.2.2.2.1), (5, .slice gg.2.2.2.2.2.1 gg.2.2.2.2.2.2.2.2.length gg.2.2.2.2.2.2.2.1), (6, .int .i64 (gg.1 : Int))]) (fun gg w => Upd (fun i => i = bk3 ∨ i = bk8) w9 w ∧ (gg.1 ≤ us.length) ∧ (FitX us gg.1 gg.2.2.2.2.1 gg.2.2.2.2.2.2.2.2) ∧ (Acc encI 1 3 bk3 w gg.2.1 gg.2.2.1 gg.2.2.2.1 gg.2.2.2.2.1) ∧ (Acc encBd 2 77 bk8 w gg.2.2.2.2.2.1 gg.2.2.2.2.2.2.1 gg.2.2.2.2.2.2.2.1 gg.2.2.2.2.2.2.2.2) ∧ (gg.2.2.1 = bk3 ∨ w9.heap.size ≤ gg.2.2.1) ∧ (gg.2.2.2.2.2.2.1 = bk8 ∨ w9.heap.size ≤ gg.2.2.2.2.2.2.1) ∧ (gg.2.2.1 ≠ gg.2.2.2.2.2.2.1)) (fun gg => us.length - gg.1) (0, some ⟨bk3, 0, none⟩, bk3, 0, [], some ⟨bk8, 0, none⟩, bk8, 0, []) ⟨rfl, rfl, rfl, rfl, trivial⟩ ⟨Upd.refl _ _, (Nat.zero_le _), (FitX.nil _), hac4, hac5, (.inl rfl), (.inl rfl), (by show bk3 ≠ bk8; omega)⟩ ?_
 intro gg w17 hW K16 hK16
 obtain ⟨k, ao4, g4, c4, of, ao5, g5, c5, gs⟩ := gg
 change WC _ _ _ _ _ _ [(0, .slice ao us.length cap), (4, .slice ao4 of.length c4), (5, .slice ao5 gs.length c5), (6, .int .i64 (k : Int))] _
 change Upd (fun i => i = bk3 ∨ i = bk8) w9 w17 ∧ (k ≤ us.length) ∧ (FitX us k of gs) ∧ (Acc encI 1 3 bk3 w17 ao4 g4 c4 of) ∧ (Acc encBd 2 77 bk8 w17 ao5 g5 c5 gs) ∧ (g4 = bk3 ∨ w9.heap.size ≤ g4) ∧ (g5 = bk8 ∨ w9.heap.size ≤ g5) ∧ (g4 ≠ g5) at hW
 obtain ⟨u18, I19, I20, I21, I22, I23, I24, I25⟩ := hW
 have zu18 := u18.size
 have E26 := E12.next u18 (fun i hi (h : i = bk3 ∨ i = bk8) => show False by first | omega | assumption)
 have hk := I19; clear I19
 have hfit := I20; clear I20
 have hof := I21; clear I21
 have hgs := I22; clear I22
 have hg4 := I23; clear I23
 have hg5 := I24; clear I24
 have hg45 := I25; clear I25
 have lt_g4 := hof.lt
 have lt_g5 := hgs.lt
 have hofl : of.length = k := by obtain ⟨_, h⟩ := hfit; exact h.ofl
 have hgcap : gs.length ≤ k := by obtain ⟨_, h⟩ := hfit; exact h.cap
 refine c_seq fun K27 hK27 => (c_seq fun K28 hK28 => (c_region (t_move rfl rfl rfl (t_move rfl rfl rfl (t_len Try.underlying72 rfl rfl rfl rfl (t_cmp rfl rfl rfl rfl rfl (t_nil' (hK28 _ _ (c_condp rfl (fun g18 => ?_) (fun g18 => ?_))))))))))
 ·
  have hxv := hok _ (nth_mem (xs := us) (i := k) (by omega))
  have hxr : ((0 ≤ (nth us k).book ∧ (nth us k).book ≤ 1000000) ∧ (0 ≤ (nth us k).lo ∧ (nth us k).lo ≤ 1000000) ∧ (0 ≤ (nth us k).hi ∧ (nth us k).hi ≤ 1000000)) := by simp only [okSur, decide_eq_true_eq] at hxv; exact hxv.1
  refine c_skip (hK27 _ _ (c_seq fun K29 hK29 => (c_block (c_cut (γ := Option Addr × Nat × Nat × List Bd) (fun gg => [(0, .slice ao us.length cap), (4, .slice ao4 of.length c4), (5, .slice gg.1 gg.2.2.2.length gg.2.2.1), (6, .int .i64 (k : Int))]) (fun gg w => Upd (fun i => (i = g5 ∧ bk8 ≤ i)) w17 w ∧ (gg.2.2.2 = gOpen gs k (nth us k)) ∧ (Acc encBd 2 77 bk8 w gg.1 gg.2.1 gg.2.2.1 gg.2.2.2) ∧ (gg.2.1 = bk8 ∨ w9.heap.size ≤ gg.2.1) ∧ (g4 ≠ gg.2.1)) (fun K31 hK31 => ?_) ?_))))
  ·
   refine c_seq fun K34 hK34 => (c_region (t_move rfl rfl rfl (t_cmp rfl rfl rfl rfl rfl (t_move rfl rfl rfl (t_splitp 23 rfl (fun g23 => ?_) (fun g23 => ?_))))))
   ·
    refine t_move rfl rfl rfl (t_move rfl rfl rfl ?_)
    have i35 : k < us.length := (by omega)
    refine t_index (j := k) Try.underlying72 Try.sizeOf79 rfl rfl rfl rfl ((hl.keep E26 (fun _ h => h)).addr (by omega)) rfl i35 (t_field Try.underlying79 rfl Try.sizeOf4 (o + k * 4 + 3) rfl rfl rfl rfl (t_load Try.isAgg4 rfl rfl rfl (((hl.keep E26 (fun _ h => h)).at_ k (by omega)) 3 _ rfl) (t_pick_t rfl rfl rfl rfl (t_nil' (hK34 _ _ (c_cond rfl (fun g29 => ?_) (fun g29 => ?_)))))))
    ·
     refine c_region (t_move rfl rfl rfl (t_build (ps := []) (v := .agg #[.int .i64 0, .int .i64 0]) rfl rfl ⟨rfl, rfl⟩ (fun w => by kernel_rfl) (t_bslice (ps := [(0, .agg #[.int .i64 0, .int .i64 0])]) (cs := [.int .i64 0, .int .i64 0]) (e := 77) rfl rfl ⟨rfl, rfl⟩ (fun w => by kernel_rfl) (fun bk36 w37 ebk36 sbk36 B38 u39 => ?_))))
     have zu39 := u39.size
     have D41 := (hgs.keep u39 (fun _ h => h))
     refine t_append (z := .agg #[.int .i64 0, .int .i64 0]) (bytes := 16) (k := 2) (base := bk8) (⟨0, 0⟩ : Bd) Try.underlying73 (by kernel_rfl) rfl (by decide) (fun _ => rfl) (by intro x; simp [encBd, Value.oneCell']) rfl rfl rfl rfl D41 B38 (by omega) (by omega) (by decide) (fun ao42 gb43 cp44 w45 A46 u47 gegb43 lngb43 => ?_)
     have zu47 := u47.size
     have lt_gb43 := A46.lt
     refine t_assign rfl rfl rfl (t_nil' ?_)
     exact hK31 (ao42, gb43, cp44, (gs ++ [(⟨0, 0⟩ : Bd)])) _ _ ⟨rfl, rfl, rfl, rfl, trivial⟩ ⟨(((Upd.refl _ _).next u39 (fun _ _ h => h.elim)).next u47 (fun i hi (h : (i = g5 ∧ bk8 ≤ i)) => show (i = g5 ∧ bk8 ≤ i) by first | omega | assumption)), (by unfold gOpen; rw [if_pos g29, if_pos (by omega)] <;> rfl), A46, (by show gb43 = bk8 ∨ _ ≤ gb43; omega), (by show g4 ≠ gb43; omega)⟩
    ·
     refine c_seq fun K49 hK49 => (c_region (t_move rfl rfl rfl (t_move rfl rfl rfl ?_)))
     have i50 : k < us.length := (by omega)
     refine t_index (j := k) Try.underlying72 Try.sizeOf79 rfl rfl rfl rfl ((hl.keep E26 (fun _ h => h)).addr (by omega)) rfl i50 (t_field Try.underlying79 rfl Try.sizeOf4 (o + k * 4 + 3) rfl rfl rfl rfl (t_load Try.isAgg4 rfl rfl rfl (((hl.keep E26 (fun _ h => h)).at_ k (by omega)) 3 _ rfl) (t_not rfl rfl rfl (t_nil' (hK49 _ _ (c_cond rfl (fun g39 => ?_) (fun g39 => ?_)))))))
     ·
      refine c_region (t_move rfl rfl rfl (t_build (ps := [(1, .int .i64 1000000)]) (v := .agg #[.int .i64 0, .int .i64 1000000]) rfl rfl ⟨rfl, rfl⟩ (fun w => by kernel_rfl) (t_bslice (ps := [(0, .agg #[.int .i64 0, .int .i64 1000000])]) (cs := [.int .i64 0, .int .i64 1000000]) (e := 77) rfl rfl ⟨rfl, rfl⟩ (fun w => by kernel_rfl) (fun bk51 w52 ebk51 sbk51 B53 u54 => ?_))))
      have zu54 := u54.size
      have D56 := (hgs.keep u54 (fun _ h => h))
      refine t_append (z := .agg #[.int .i64 0, .int .i64 0]) (bytes := 16) (k := 2) (base := bk8) (⟨0, 1000000⟩ : Bd) Try.underlying73 (by kernel_rfl) rfl (by decide) (fun _ => rfl) (by intro x; simp [encBd, Value.oneCell']) rfl rfl rfl rfl D56 B53 (by omega) (by omega) (by decide) (fun ao57 gb58 cp59 w60 A61 u62 gegb58 lngb58 => ?_)
      have zu62 := u62.size
      have lt_gb58 := A61.lt
      refine t_assign rfl rfl rfl (t_nil' ?_)
      exact hK31 (ao57, gb58, cp59, (gs ++ [(⟨0, 1000000⟩ : Bd)])) _ _ ⟨rfl, rfl, rfl, rfl, trivial⟩ ⟨(((Upd.refl _ _).next u54 (fun _ _ h => h.elim)).next u62 (fun i hi (h : (i = g5 ∧ bk8 ≤ i)) => show (i = g5 ∧ bk8 ≤ i) by first | omega | assumption)), (by unfold gOpen; rw [if_neg (by simpa using g39)] <;> rfl), A61, (by show gb58 = bk8 ∨ _ ≤ gb58; omega), (by show g4 ≠ gb58; omega)⟩
     ·
      refine c_skip ?_
      exact hK31 (ao5, g5, c5, gs) _ _ ⟨rfl, rfl, rfl, rfl, trivial⟩ ⟨(Upd.refl _ _), (by rw [g29] at g39; cases g39), hgs, (by show g5 = bk8 ∨ _ ≤ g5; omega), (by show g4 ≠ g5; omega)⟩
   ·
    refine t_skip rfl rfl rfl (t_skip rfl rfl rfl (t_skip rfl rfl rfl (t_skip rfl rfl rfl (t_skip rfl rfl rfl (t_pick_f rfl rfl rfl rfl (t_nil' (hK34 _ _ (c_cond_f rfl (c_seq fun K64 hK64 => (c_region (t_move rfl rfl rfl (t_move rfl rfl rfl ?_))))))))))))
    have i65 : k < us.length := (by omega)
    refine t_index (j := k) Try.underlying72 Try.sizeOf79 rfl rfl rfl rfl ((hl.keep E26 (fun _ h => h)).addr (by omega)) rfl i65 (t_field Try.underlying79 rfl Try.sizeOf4 (o + k * 4 + 3) rfl rfl rfl rfl (t_load Try.isAgg4 rfl rfl rfl (((hl.keep E26 (fun _ h => h)).at_ k (by omega)) 3 _ rfl) (t_not rfl rfl rfl (t_nil' (hK64 _ _ (c_cond rfl (fun g39 => ?_) (fun g39 => ?_)))))))
    ·
     refine c_region (t_move rfl rfl rfl (t_build (ps := [(1, .int .i64 1000000)]) (v := .agg #[.int .i64 0, .int .i64 1000000]) rfl rfl ⟨rfl, rfl⟩ (fun w => by kernel_rfl) (t_bslice (ps := [(0, .agg #[.int .i64 0, .int .i64 1000000])]) (cs := [.int .i64 0, .int .i64 1000000]) (e := 77) rfl rfl ⟨rfl, rfl⟩ (fun w => by kernel_rfl) (fun bk66 w67 ebk66 sbk66 B68 u69 => ?_))))
     have zu69 := u69.size
     have D71 := (hgs.keep u69 (fun _ h => h))
     refine t_append (z := .agg #[.int .i64 0, .int .i64 0]) (bytes := 16) (k := 2) (base := bk8) (⟨0, 1000000⟩ : Bd) Try.underlying73 (by kernel_rfl) rfl (by decide) (fun _ => rfl) (by intro x; simp [encBd, Value.oneCell']) rfl rfl rfl rfl D71 B68 (by omega) (by omega) (by decide) (fun ao72 gb73 cp74 w75 A76 u77 gegb73 lngb73 => ?_)
     have zu77 := u77.size
     have lt_gb73 := A76.lt
     refine t_assign rfl rfl rfl (t_nil' ?_)
     exact hK31 (ao72, gb73, cp74, (gs ++ [(⟨0, 1000000⟩ : Bd)])) _ _ ⟨rfl, rfl, rfl, rfl, trivial⟩ ⟨(((Upd.refl _ _).next u69 (fun _ _ h => h.elim)).next u77 (fun i hi (h : (i = g5 ∧ bk8 ≤ i)) => show (i = g5 ∧ bk8 ≤ i) by first | omega | assumption)), (by unfold gOpen; rw [if_neg (by simpa using g39)] <;> rfl), A76, (by show gb73 = bk8 ∨ _ ≤ gb73; omega), (by show g4 ≠ gb73; omega)⟩
    ·
     refine c_skip ?_
     exact hK31 (ao5, g5, c5, gs) _ _ ⟨rfl, rfl, rfl, rfl, trivial⟩ ⟨(Upd.refl _ _), (by unfold gOpen; rw [if_pos (by simpa using g39), if_neg (by omega)] <;> rfl), hgs, (by show g5 = bk8 ∨ _ ≤ g5; omega), (by show g4 ≠ g5; omega)⟩
  ·
   intro gg w32 hW
   obtain ⟨ao6, g6, c6, os⟩ := gg
   change WC _ _ _ _ _ _ [(0, .slice ao us.length cap), (4, .slice ao4 of.length c4), (5, .slice ao6 os.length c6), (6, .int .i64 (k : Int))] _
   change Upd (fun i => (i = g5 ∧ bk8 ≤ i)) w17 w32 ∧ (os = gOpen gs k (nth us k)) ∧ (Acc encBd 2 77 bk8 w32 ao6 g6 c6 os) ∧ (g6 = bk8 ∨ w9.heap.size ≤ g6) ∧ (g4 ≠ g6) at hW
   obtain ⟨u33, I79, I80, I81, I82⟩ := hW
   have zu33 := u33.size
   have E83 := E26.next u33 (fun i hi (h : (i = g5 ∧ bk8 ≤ i)) => show False by first | omega | assumption)
   have hos := I79; clear I79
   have hgs6 := I80; clear I80
   have hg6 := I81; clear I81
   have hg46 := I82; clear I82
   have lt_g6 := hgs6.lt
   have ho := hfit.open
   rw [← hos] at ho
   have ho1 := ho.1
   have ho2 := ho.2
   refine c_seq fun K84 hK84 => (c_region (t_move rfl rfl rfl (t_len Try.underlying73 rfl rfl rfl rfl (t_ari rfl rfl rfl rfl rfl (by omega) (t_assign rfl rfl rfl (t_nil' (hK84 _ _ (c_seq fun K85 hK85 => (WC.weak [(0, .slice ao us.length cap), (4, .slice ao4 of.length c4), (5, .slice ao6 os.length c6), (6, .int .i64 (k : Int)), (7, .int .i64 ((os.length : Int) - 1))] ⟨rfl, rfl, rfl, rfl, rfl, trivial⟩ (c_drawnS follows 41 39 [some (47, some (.slice ao6 os.length c6)), some (48, some (.int .i64 ((os.length : Int) - 1))), some (49, some (.slice ao6 os.length c6)), some (50, some (.int .i64 ((os.length : Int) - 1))), some (51, some (.pointer (some ⟨g6, 0 + (os.length - 1) * 2, none⟩))), some (52, some (.pointer (some ⟨g6, 0 + (os.length - 1) * 2 + 0, none⟩))), some (53, some (.int .i64 ((nth os (os.length - 1)).lo))), some (54, some (.slice ao us.length cap)), some (55, some (.int .i64 (k : Int))), some (56, some (.pointer (some ⟨b, o + k * 4, none⟩))), some (57, some (.pointer (some ⟨b, o + k * 4 + 0, none⟩))), some (58, some (.int .i64 ((nth us k).book))), some (59, some (.slice ao us.length cap)), some (60, some (.int .i64 (k : Int))), some (61, some (.pointer (some ⟨b, o + k * 4, none⟩))), some (62, some (.pointer (some ⟨b, o + k * 4 + 1, none⟩))), some (63, some (.pointer (some ⟨b, o + k * 4 + 1 + 1, none⟩))), some (64, some (.int .i64 ((nth us k).hi))), some (65, some (.int .i64 (((nth us k).book) - ((nth us k).hi)))), some (66, some (.int .i64 (max ((nth os (os.length - 1)).lo) (((nth us k).book) - ((nth us k).hi))))), some (67, some (.slice ao6 os.length c6)), some (68, some (.int .i64 ((os.length : Int) - 1))), some (69, some (.pointer (some ⟨g6, 0 + (os.length - 1) * 2, none⟩))), some (70, some (.pointer (some ⟨g6, 0 + (os.length - 1) * 2 + 1, none⟩))), some (71, some (.int .i64 ((nth os (os.length - 1)).hi))), some (72, some (.slice ao us.length cap)), some (73, some (.int .i64 (k : Int))), some (74, some (.pointer (some ⟨b, o + k * 4, none⟩))), some (75, some (.pointer (some ⟨b, o + k * 4 + 0, none⟩))), some (76, some (.int .i64 ((nth us k).book))), some (77, some (.slice ao us.length cap)), some (78, some (.int .i64 (k : Int))), some (79, some (.pointer (some ⟨b, o + k * 4, none⟩))), some (80, some (.pointer (some ⟨b, o + k * 4 + 1, none⟩))), some (81, some (.pointer (some ⟨b, o + k * 4 + 1 + 0, none⟩))), some (82, some (.int .i64 ((nth us k).lo))), some (83, some (.int .i64 (((nth us k).book) - ((nth us k).lo)))), some (84, some (.int .i64 (min ((nth os (os.length - 1)).hi) (((nth us k).book) - ((nth us k).lo))))), some (85, some (.agg #[.int .i64 (max ((nth os (os.length - 1)).lo) (((nth us k).book) - ((nth us k).hi))), .int .i64 (min ((nth os (os.length - 1)).hi) (((nth us k).book) - ((nth us k).lo)))]))] [[],[],[],[],[2,3],[4],[5],[],[],[7,8],[9],[10],[],[],[12,13],[14],[15],[16],[11,17],[6,18],[],[],[20,21],[22],[23],[],[],[25,26],[27],[28],[],[],[30,31],[32],[33],[34],[29,35],[24,36],[19,37],[0,1,0,1,2,3,4,5,6,7,8,9,10,11,12,13,14,15,16,17,18,19,20,21,22,23,24,25,26,27,28,29,30,31,32,33,34,35,36,37,38],[39,38,0,1,2,3,4,5,6,7,8,9,10,11,12,13,14,15,16,17,18,19,20,21,22,23,24,25,26,27,28,29,30,31,32,33,34,35,36,37,38]] (fun _ _ w => Upd (fun _ => False) w32 w) rfl rfl rfl rfl (by kernel_rfl) (by kernel_rfl) (by kernel_rfl) (Upd.drew _).to ⟨?_, ?_, ?_, ?_, ?_, ?_, ?_, ?_, ?_, ?_, ?_, ?_, ?_, ?_, ?_, ?_, ?_, ?_, ?_, ?_, ?_, ?_, ?_, ?_, ?_, ?_, ?_, ?_, ?_, ?_, ?_, ?_, ?_, ?_, ?_, ?_, ?_, ?_, ?_, trivial⟩ ?_))))))))))
   · exact pz rfl rfl rfl rfl fun _ _ _ h => h
   · exact pz rfl rfl rfl rfl fun _ _ _ h => h
   · exact pz rfl rfl rfl rfl fun _ _ _ h => h
   · exact pz rfl rfl rfl rfl fun _ _ _ h => h
   ·
    intro D ρ w92 hcD hnD hdD hW
    have zhW := hW.size
    refine ⟨_, kf_fr [49, 50], fun Lr => ?_⟩
    have D95 := (hgs6.keep hW (fun _ h => h))
    have i96 : (os.length - 1) < os.length := (by omega)
    refine t_index (j := (os.length - 1)) Try.underlying73 Try.sizeOf77 rfl rfl rfl rfl ((D95.sl (fun _ => rfl)).addr (by omega)) (by omega) i96 ?_
    exact dz rfl hW
   · exact pzf Try.underlying77 rfl Try.sizeOf3 (0 + (os.length - 1) * 2 + 0) rfl rfl rfl rfl rfl fun _ _ _ h => h
   ·
    intro D ρ w97 hcD hnD hdD hW
    have zhW := hW.size
    refine ⟨_, kf_fr [52], fun Lr => ?_⟩
    have D100 := (hgs6.keep hW (fun _ h => h))
    refine t_load Try.isAgg3 rfl rfl rfl (((D100.sl (fun _ => rfl)).at_ (os.length - 1) (by omega)) 0 _ rfl) ?_
    exact dz rfl hW
   · exact pz rfl rfl rfl rfl fun _ _ _ h => h
   · exact pz rfl rfl rfl rfl fun _ _ _ h => h
   ·
    intro D ρ w101 hcD hnD hdD hW
    have zhW := hW.size
    have E103 := E83.next hW (fun _ _ h => h.elim)
    refine ⟨_, kf_fr [54, 55], fun Lr => ?_⟩
    have i104 : k < us.length := (by omega)
    refine t_index (j := k) Try.underlying72 Try.sizeOf79 rfl rfl rfl rfl ((hl.keep E103 (fun _ h => h)).addr (by omega)) rfl i104 ?_
    exact dz rfl hW
   · exact pzf Try.underlying79 rfl Try.sizeOf3 (o + k * 4 + 0) rfl rfl rfl rfl rfl fun _ _ _ h => h
   ·
    intro D ρ w105 hcD hnD hdD hW
    have zhW := hW.size
    have E107 := E83.next hW (fun _ _ h => h.elim)
    refine ⟨_, kf_fr [57], fun Lr => ?_⟩
    refine t_load Try.isAgg3 rfl rfl rfl (((hl.keep E107 (fun _ h => h)).at_ k (by omega)) 0 _ rfl) ?_
    exact dz rfl hW
   · exact pz rfl rfl rfl rfl fun _ _ _ h => h
   · exact pz rfl rfl rfl rfl fun _ _ _ h => h
   ·
    intro D ρ w108 hcD hnD hdD hW
    have zhW := hW.size
    have E110 := E83.next hW (fun _ _ h => h.elim)
    refine ⟨_, kf_fr [59, 60], fun Lr => ?_⟩
    have i111 : k < us.length := (by omega)
    refine t_index (j := k) Try.underlying72 Try.sizeOf79 rfl rfl rfl rfl ((hl.keep E110 (fun _ h => h)).addr (by omega)) rfl i111 ?_
    exact dz rfl hW
   · exact pzf Try.underlying79 rfl Try.sizeOf77 (o + k * 4 + 1) rfl rfl rfl rfl rfl fun _ _ _ h => h
   · exact pzf Try.underlying77 rfl Try.sizeOf3 (o + k * 4 + 1 + 1) rfl rfl rfl rfl rfl fun _ _ _ h => h
   ·
    intro D ρ w112 hcD hnD hdD hW
    have zhW := hW.size
    have E114 := E83.next hW (fun _ _ h => h.elim)
    refine ⟨_, kf_fr [63], fun Lr => ?_⟩
    refine t_load Try.isAgg3 rfl rfl rfl (((hl.keep E114 (fun _ h => h)).at_ k (by omega)) 2 _ rfl) ?_
    exact dz rfl hW
   ·
    intro D ρ w115 hcD hnD hdD hW
    have zhW := hW.size
    refine ⟨_, kf_fr [58, 64], fun Lr => ?_⟩
    refine t_ari rfl rfl rfl rfl rfl (by omega) ?_
    exact dz rfl hW
   ·
    intro D ρ w118 hcD hnD hdD hW
    have zhW := hW.size
    refine ⟨_, kf_fr [53, 65], fun Lr => ?_⟩
    refine t_max rfl rfl rfl rfl ?_
    exact dz rfl hW
   · exact pz rfl rfl rfl rfl fun _ _ _ h => h
   · exact pz rfl rfl rfl rfl fun _ _ _ h => h
   ·
    intro D ρ w121 hcD hnD hdD hW
    have zhW := hW.size
    refine ⟨_, kf_fr [67, 68], fun Lr => ?_⟩
    have D124 := (hgs6.keep hW (fun _ h => h))
    have i125 : (os.length - 1) < os.length := (by omega)
    refine t_index (j := (os.length - 1)) Try.underlying73 Try.sizeOf77 rfl rfl rfl rfl ((D124.sl (fun _ => rfl)).addr (by omega)) (by omega) i125 ?_
    exact dz rfl hW
   · exact pzf Try.underlying77 rfl Try.sizeOf3 (0 + (os.length - 1) * 2 + 1) rfl rfl rfl rfl rfl fun _ _ _ h => h
   ·
    intro D ρ w126 hcD hnD hdD hW
    have zhW := hW.size
    refine ⟨_, kf_fr [70], fun Lr => ?_⟩
    have D129 := (hgs6.keep hW (fun _ h => h))
    refine t_load Try.isAgg3 rfl rfl rfl (((D129.sl (fun _ => rfl)).at_ (os.length - 1) (by omega)) 1 _ rfl) ?_
    exact dz rfl hW
   · exact pz rfl rfl rfl rfl fun _ _ _ h => h
   · exact pz rfl rfl rfl rfl fun _ _ _ h => h
   ·
    intro D ρ w130 hcD hnD hdD hW
    have zhW := hW.size
    have E132 := E83.next hW (fun _ _ h => h.elim)
    refine ⟨_, kf_fr [72, 73], fun Lr => ?_⟩
    have i133 : k < us.length := (by omega)
    refine t_index (j := k) Try.underlying72 Try.sizeOf79 rfl rfl rfl rfl ((hl.keep E132 (fun _ h => h)).addr (by omega)) rfl i133 ?_
    exact dz rfl hW
   · exact pzf Try.underlying79 rfl Try.sizeOf3 (o + k * 4 + 0) rfl rfl rfl rfl rfl fun _ _ _ h => h
   ·
    intro D ρ w134 hcD hnD hdD hW
    have zhW := hW.size
    have E136 := E83.next hW (fun _ _ h => h.elim)
    refine ⟨_, kf_fr [75], fun Lr => ?_⟩
    refine t_load Try.isAgg3 rfl rfl rfl (((hl.keep E136 (fun _ h => h)).at_ k (by omega)) 0 _ rfl) ?_
    exact dz rfl hW
   · exact pz rfl rfl rfl rfl fun _ _ _ h => h
   · exact pz rfl rfl rfl rfl fun _ _ _ h => h
   ·
    intro D ρ w137 hcD hnD hdD hW
    have zhW := hW.size
    have E139 := E83.next hW (fun _ _ h => h.elim)
    refine ⟨_, kf_fr [77, 78], fun Lr => ?_⟩
    have i140 : k < us.length := (by omega)
    refine t_index (j := k) Try.underlying72 Try.sizeOf79 rfl rfl rfl rfl ((hl.keep E139 (fun _ h => h)).addr (by omega)) rfl i140 ?_
    exact dz rfl hW
   · exact pzf Try.underlying79 rfl Try.sizeOf77 (o + k * 4 + 1) rfl rfl rfl rfl rfl fun _ _ _ h => h
   · exact pzf Try.underlying77 rfl Try.sizeOf3 (o + k * 4 + 1 + 0) rfl rfl rfl rfl rfl fun _ _ _ h => h
   ·
    intro D ρ w141 hcD hnD hdD hW
    have zhW := hW.size
    have E143 := E83.next hW (fun _ _ h => h.elim)
    refine ⟨_, kf_fr [81], fun Lr => ?_⟩
    refine t_load Try.isAgg3 rfl rfl rfl (((hl.keep E143 (fun _ h => h)).at_ k (by omega)) 1 _ rfl) ?_
    exact dz rfl hW
   ·
    intro D ρ w144 hcD hnD hdD hW
    have zhW := hW.size
    refine ⟨_, kf_fr [76, 82], fun Lr => ?_⟩
    refine t_ari rfl rfl rfl rfl rfl (by omega) ?_
    exact dz rfl hW
   ·
    intro D ρ w147 hcD hnD hdD hW
    have zhW := hW.size
    refine ⟨_, kf_fr [71, 83], fun Lr => ?_⟩
    refine t_min rfl rfl rfl rfl ?_
    exact dz rfl hW
   · exact fun D ρ w _ _ _ hW => ⟨[(66, .int .i64 (max ((nth os (os.length - 1)).lo) (((nth us k).book) - ((nth us k).hi)))), (84, .int .i64 (min ((nth os (os.length - 1)).hi) (((nth us k).book) - ((nth us k).lo))))], ⟨fi 19 rfl rfl rfl, fi 37 rfl rfl rfl, trivial⟩, fun Lr => t_build (ps := [(0, .int .i64 (max ((nth os (os.length - 1)).lo) (((nth us k).book) - ((nth us k).hi)))), (1, .int .i64 (min ((nth os (os.length - 1)).hi) (((nth us k).book) - ((nth us k).lo))))]) (v := .agg #[.int .i64 (max ((nth os (os.length - 1)).lo) (((nth us k).book) - ((nth us k).hi))), .int .i64 (min ((nth os (os.length - 1)).hi) (((nth us k).book) - ((nth us k).lo)))]) rfl rfl ⟨rfl, rfl⟩ (fun w => by kernel_rfl) (dz rfl hW)⟩
   intro ρ w150 hW
   have u151 : Upd (fun _ => False) w32 w150 := hW
   have zu151 := u151.size
   refine t_weak [(0, .slice ao us.length cap), (4, .slice ao4 of.length c4), (5, .slice ao6 os.length c6), (6, .int .i64 (k : Int)), (7, .int .i64 ((os.length : Int) - 1)), (47, .slice ao6 os.length c6), (48, .int .i64 ((os.length : Int) - 1)), (85, .agg #[.int .i64 (max ((nth os (os.length - 1)).lo) (((nth us k).book) - ((nth us k).hi))), .int .i64 (min ((nth os (os.length - 1)).hi) (((nth us k).book) - ((nth us k).lo)))])] ⟨rfl, rfl, rfl, rfl, rfl, rfl, rfl, rfl, trivial⟩ ?_
   have D153 := (hgs6.keep u151 (fun _ h => h))
   have i154 : (os.length - 1) < os.length := (by omega)
   refine t_index (j := (os.length - 1)) Try.underlying73 Try.sizeOf77 rfl rfl rfl rfl ((D153.sl (fun _ => rfl)).addr (by omega)) (by omega) i154 (t_storeA (vs := [.int .i64 (max ((nth os (os.length - 1)).lo) (((nth us k).book) - ((nth us k).hi))), .int .i64 (min ((nth os (os.length - 1)).hi) (((nth us k).book) - ((nth us k).lo)))]) (j := (os.length - 1)) (o' := 0) (k := 2) (⟨(max ((nth os (os.length - 1)).lo) (((nth us k).book) - ((nth us k).hi))), (min ((nth os (os.length - 1)).hi) (((nth us k).book) - ((nth us k).lo)))⟩ : Bd) (fun _ => rfl) Try.sizeOf77 rfl rfl (by omega) rfl D153 (by omega) rfl rfl (by decide) (by simp [Value.oneCell']) rfl (fun w155 R157 u156 => ?_))
   have zu156 := u156.size
   refine t_nil' (hK85 _ _ (c_region (t_move rfl rfl rfl (t_move rfl rfl rfl (t_bslice (ps := [(0, .int .i64 ((os.length : Int) - 1))]) (cs := [.int .i64 ((os.length : Int) - 1)]) (e := 3) rfl rfl ⟨rfl, rfl⟩ (fun w => by kernel_rfl) (fun bk159 w160 ebk159 sbk159 B161 u162 => ?_))))))
   have zu162 := u162.size
   have D164 := ((((hof.keep u33 (fun hb => show ¬ ((g4 = g5 ∧ bk8 ≤ g4)) by first | omega | assumption)).keep u151 (fun _ h => h)).keep u156 (fun hb => show ¬ (g4 = g6) by first | omega | assumption)).keep u162 (fun _ h => h))
   refine t_append (z := .int .i64 0) (bytes := 8) (k := 1) (base := bk3) ((os.length : Int) - 1) Try.underlying45 (by kernel_rfl) rfl (by decide) (fun _ => rfl) (by intro x; simp [encI, Value.oneCell']) rfl rfl rfl rfl D164 B161 (by omega) (by omega) (by decide) (fun ao165 gb166 cp167 w168 A169 u170 gegb166 lngb166 => ?_)
   have zu170 := u170.size
   have lt_gb166 := A169.lt
   refine t_same 5 (v := .slice ao6 (((os.set (os.length - 1) (⟨(max ((nth os (os.length - 1)).lo) (((nth us k).book) - ((nth us k).hi))), (min ((nth os (os.length - 1)).hi) (((nth us k).book) - ((nth us k).lo)))⟩ : Bd))).length) c6) rfl (congrArg (fun n => Value.slice ao6 n c6) (List.length_set).symm) (t_assign rfl rfl rfl (t_nil' (hK29 _ _ (c_region (t_move rfl rfl rfl (t_ari rfl rfl rfl rfl rfl (by omega) (t_assign rfl rfl rfl (t_nil' ?_))))))))
   have D172 := ((R157.keep u162 (fun _ h => h)).keep u170 (fun hb => show ¬ ((g6 = g4 ∧ bk3 ≤ g6)) by first | omega | assumption))
   exact hK16 (k + 1, ao165, gb166, cp167, (of ++ [((os.length : Int) - 1)]), ao6, g6, c6, (os.set (os.length - 1) (⟨(max ((nth os (os.length - 1)).lo) (((nth us k).book) - ((nth us k).hi))), (min ((nth os (os.length - 1)).hi) (((nth us k).book) - ((nth us k).lo)))⟩ : Bd))) _ _ (by show us.length - (k + 1) < us.length - k; omega) ⟨rfl, rfl, rfl, rfl, trivial⟩ ⟨(((((u18.next u33 (fun i hi (h : (i = g5 ∧ bk8 ≤ i)) => show i = bk3 ∨ i = bk8 by first | omega | assumption)).next u151 (fun _ _ h => h.elim)).next u156 (fun i hi (h : i = g6) => show i = bk3 ∨ i = bk8 by first | omega | assumption)).next u162 (fun _ _ h => h.elim)).next u170 (fun i hi (h : (i = g4 ∧ bk3 ≤ i)) => show i = bk3 ∨ i = bk8 by first | omega | assumption)), (by omega), (by have h := hfit.step; rw [← hos] at h; exact h), A169, D172, (by show gb166 = bk3 ∨ _ ≤ gb166; omega), (by show g6 = bk8 ∨ _ ≤ g6; omega), (by show gb166 ≠ g6; omega)⟩
 ·
  refine c_exit (hK13 _ _ (c_seq fun K173 hK173 => (c_seq fun K174 hK174 => (c_region (t_assign rfl rfl rfl (t_nil' (hK174 _ _ (c_block (c_loop (γ := Nat × List Bd) (fun gg => [(0, .slice ao us.length cap), (4, .slice ao4 of.length c4), (5, .slice ao5 gs.length c5), (8, .int .i64 (gg.1 : Int))]) (fun gg w => Upd (fun i => i = g5) w17 w ∧ (1 ≤ gg.1) ∧ (FitL us of gg.1 gg.2) ∧ (gg.2.length = gs.length) ∧ (Acc encBd 2 77 bk8 w ao5 g5 c5 gg.2)) (fun gg => gs.length - gg.1) (1, gs) ⟨rfl, rfl, rfl, rfl, trivial⟩ ⟨Upd.refl _ _, (Nat.le_refl _), (FitL.first (by rw [← show k = us.length by omega]; exact hfit)), rfl, hgs⟩ ?_)))))))))
  intro gg w176 hW K175 hK175
  obtain ⟨q, G2⟩ := gg
  change WC _ _ _ _ _ _ [(0, .slice ao us.length cap), (4, .slice ao4 of.length c4), (5, .slice ao5 gs.length c5), (8, .int .i64 (q : Int))] _
  change Upd (fun i => i = g5) w17 w176 ∧ (1 ≤ q) ∧ (FitL us of q G2) ∧ (G2.length = gs.length) ∧ (Acc encBd 2 77 bk8 w176 ao5 g5 c5 G2) at hW
  obtain ⟨u177, I178, I179, I180, I181⟩ := hW
  have zu177 := u177.size
  have E182 := E26.next u177 (fun i hi (h : i = g5) => show False by first | omega | assumption)
  have hq := I178; clear I178
  have hFL := I179; clear I179
  have hG2 := I180; clear I180
  have haG2 := I181; clear I181
  have lt_g5 := haG2.lt
  refine c_seq fun K183 hK183 => (c_seq fun K184 hK184 => (c_region (t_move rfl rfl rfl (t_move rfl rfl rfl (t_len Try.underlying73 rfl rfl rfl rfl (t_cmp rfl rfl rfl rfl rfl (t_nil' (hK184 _ _ (c_condp rfl (fun g94 => ?_) (fun g94 => ?_))))))))))
  ·
   refine c_skip (hK183 _ _ (c_seq fun K185 hK185 => (c_block (WC.weak [(0, .slice ao us.length cap), (4, .slice ao4 of.length c4), (5, .slice ao5 gs.length c5), (8, .int .i64 (q : Int))] ⟨rfl, rfl, rfl, rfl, trivial⟩ (c_drawnS follows 17 14 [some (97, some (.slice ao5 gs.length c5)), some (98, some (.int .i64 (q : Int))), some (99, some (.slice ao5 gs.length c5)), some (100, some (.int .i64 (q : Int))), some (101, some (.pointer (some ⟨g5, 0 + q * 2, none⟩))), some (102, some (.pointer (some ⟨g5, 0 + q * 2 + 0, none⟩))), some (103, some (.int .i64 ((nth G2 q).lo))), some (104, some (.slice ao5 gs.length c5)), some (105, some (.int .i64 (q : Int))), some (106, some (.int .i64 ((q : Int) - 1))), some (107, some (.pointer (some ⟨g5, 0 + (q - 1) * 2, none⟩))), some (108, some (.pointer (some ⟨g5, 0 + (q - 1) * 2 + 0, none⟩))), some (109, some (.int .i64 ((nth G2 (q - 1)).lo))), some (110, some (.int .i64 (max ((nth G2 q).lo) ((nth G2 (q - 1)).lo))))] [[],[],[],[],[2,3],[4],[5],[],[],[8],[7,9],[10],[11],[6,12],[0,1,0,1,2,3,4,5,6,7,8,9,10,11,12,13],[14,0,1,2,3,4,5,6,7,8,9,10,11,12,13],[15,13,0,1,2,3,4,5,6,7,8,9,10,11,12,13]] (fun _ _ w => Upd (fun _ => False) w176 w) rfl rfl rfl rfl (by kernel_rfl) (by kernel_rfl) (by kernel_rfl) (Upd.drew _).to ⟨?_, ?_, ?_, ?_, ?_, ?_, ?_, ?_, ?_, ?_, ?_, ?_, ?_, ?_, trivial⟩ ?_)))))
   · exact pz rfl rfl rfl rfl fun _ _ _ h => h
   · exact pz rfl rfl rfl rfl fun _ _ _ h => h
   · exact pz rfl rfl rfl rfl fun _ _ _ h => h
   · exact pz rfl rfl rfl rfl fun _ _ _ h => h
   ·
    intro D ρ w188 hcD hnD hdD hW
    have zhW := hW.size
    refine ⟨_, kf_fr [99, 100], fun Lr => ?_⟩
    have D191 := (haG2.keep hW (fun _ h => h))
    have i192 : q < G2.length := (by omega)
    refine t_index (j := q) Try.underlying73 Try.sizeOf77 rfl rfl rfl rfl ((D191.sl (fun _ => rfl)).addr (by omega)) rfl (by omega) ?_
    exact dz rfl hW
   · exact pzf Try.underlying77 rfl Try.sizeOf3 (0 + q * 2 + 0) rfl rfl rfl rfl rfl fun _ _ _ h => h
   ·
    intro D ρ w193 hcD hnD hdD hW
    have zhW := hW.size
    refine ⟨_, kf_fr [102], fun Lr => ?_⟩
    have D196 := (haG2.keep hW (fun _ h => h))
    refine t_load Try.isAgg3 rfl rfl rfl (((D196.sl (fun _ => rfl)).at_ q (by omega)) 0 _ rfl) ?_
    exact dz rfl hW
   · exact pz rfl rfl rfl rfl fun _ _ _ h => h
   · exact pz rfl rfl rfl rfl fun _ _ _ h => h
   ·
    intro D ρ w197 hcD hnD hdD hW
    have zhW := hW.size
    refine ⟨_, kf_fr [105], fun Lr => ?_⟩
    refine t_ari rfl rfl rfl rfl rfl (by omega) ?_
    exact dz rfl hW
   ·
    intro D ρ w200 hcD hnD hdD hW
    have zhW := hW.size
    refine ⟨_, kf_fr [104, 106], fun Lr => ?_⟩
    have D203 := (haG2.keep hW (fun _ h => h))
    have i204 : (q - 1) < G2.length := (by omega)
    refine t_index (j := (q - 1)) Try.underlying73 Try.sizeOf77 rfl rfl rfl rfl ((D203.sl (fun _ => rfl)).addr (by omega)) (by omega) (by omega) ?_
    exact dz rfl hW
   · exact pzf Try.underlying77 rfl Try.sizeOf3 (0 + (q - 1) * 2 + 0) rfl rfl rfl rfl rfl fun _ _ _ h => h
   ·
    intro D ρ w205 hcD hnD hdD hW
    have zhW := hW.size
    refine ⟨_, kf_fr [108], fun Lr => ?_⟩
    have D208 := (haG2.keep hW (fun _ h => h))
    refine t_load Try.isAgg3 rfl rfl rfl (((D208.sl (fun _ => rfl)).at_ (q - 1) (by omega)) 0 _ rfl) ?_
    exact dz rfl hW
   ·
    intro D ρ w209 hcD hnD hdD hW
    have zhW := hW.size
    refine ⟨_, kf_fr [103, 109], fun Lr => ?_⟩
    refine t_max rfl rfl rfl rfl ?_
    exact dz rfl hW
   intro ρ w212 hW
   have u213 : Upd (fun _ => False) w176 w212 := hW
   have zu213 := u213.size
   refine t_weak [(0, .slice ao us.length cap), (4, .slice ao4 of.length c4), (5, .slice ao5 gs.length c5), (8, .int .i64 (q : Int)), (97, .slice ao5 gs.length c5), (98, .int .i64 (q : Int)), (110, .int .i64 (max ((nth G2 q).lo) ((nth G2 (q - 1)).lo)))] ⟨rfl, rfl, rfl, rfl, rfl, rfl, rfl, trivial⟩ ?_
   have D215 := (haG2.keep u213 (fun _ h => h))
   have i216 : q < G2.length := (by omega)
   refine t_index (j := q) Try.underlying73 Try.sizeOf77 rfl rfl rfl rfl ((D215.sl (fun _ => rfl)).addr (by omega)) rfl (by omega) (t_field Try.underlying77 rfl Try.sizeOf3 (0 + q * 2 + 0) rfl rfl rfl rfl (t_storeA (vs := [.int .i64 (max ((nth G2 q).lo) ((nth G2 (q - 1)).lo))]) (j := q) (o' := 0) (k := 2) (⟨(max ((nth G2 q).lo) ((nth G2 (q - 1)).lo)), (nth G2 q).hi⟩ : Bd) (fun _ => rfl) Try.sizeOf3 rfl rfl (by omega) rfl D215 (by omega) rfl rfl (by decide) (by simp [Value.oneCell']) rfl (fun w217 R219 u218 => ?_)))
   have zu218 := u218.size
   refine t_nil' (hK185 _ _ (c_region (t_move rfl rfl rfl (t_ari rfl rfl rfl rfl rfl (by omega) (t_assign rfl rfl rfl (t_nil' ?_))))))
   exact hK175 (q + 1, (G2.set q (⟨(max ((nth G2 q).lo) ((nth G2 (q - 1)).lo)), (nth G2 q).hi⟩ : Bd))) _ _ (by show gs.length - (q + 1) < gs.length - q; omega) ⟨rfl, rfl, rfl, rfl, trivial⟩ ⟨((u177.next u213 (fun _ _ h => h.elim)).next u218 (fun i hi (h : i = g5) => show i = g5 by first | omega | assumption)), (by omega), (hFL.step (by omega) (by omega)), (by rw [List.length_set]; exact hG2), R219⟩
  ·
   refine c_exit (hK173 _ _ (c_seq fun K221 hK221 => (c_seq fun K222 hK222 => (c_region (t_move rfl rfl rfl (t_len Try.underlying73 rfl rfl rfl rfl (t_ari rfl rfl rfl rfl rfl (by omega) (t_assign rfl rfl rfl (t_nil' (hK222 _ _ (c_block (c_loop (γ := Int × List Bd) (fun gg => [(0, .slice ao us.length cap), (4, .slice ao4 of.length c4), (5, .slice ao5 gs.length c5), (9, .int .i64 gg.1)]) (fun gg w => Upd (fun i => i = g5) w176 w ∧ (-2 ≤ gg.1) ∧ (gg.1 < (gs.length : Int) - 1) ∧ (FitM us of gg.1 gg.2) ∧ (gg.2.length = gs.length) ∧ (Acc encBd 2 77 bk8 w ao5 g5 c5 gg.2)) (fun gg => (gg.1 + 2).toNat) ((gs.length : Int) - 2, G2) ⟨rfl, rfl, rfl, rfl, trivial⟩ ⟨Upd.refl _ _, (by show -2 ≤ (gs.length : Int) - 2; omega), (by show (gs.length : Int) - 2 < (gs.length : Int) - 1; omega), (by have h := FitM.first hFL (by omega); rw [hG2] at h; exact h), hG2, haG2⟩ ?_))))))))))))
   intro gg w224 hW K223 hK223
   obtain ⟨m, G3⟩ := gg
   change WC _ _ _ _ _ _ [(0, .slice ao us.length cap), (4, .slice ao4 of.length c4), (5, .slice ao5 gs.length c5), (9, .int .i64 m)] _
   change Upd (fun i => i = g5) w176 w224 ∧ (-2 ≤ m) ∧ (m < (gs.length : Int) - 1) ∧ (FitM us of m G3) ∧ (G3.length = gs.length) ∧ (Acc encBd 2 77 bk8 w224 ao5 g5 c5 G3) at hW
   obtain ⟨u225, I226, I227, I228, I229, I230⟩ := hW
   have zu225 := u225.size
   have E231 := E182.next u225 (fun i hi (h : i = g5) => show False by first | omega | assumption)
   have hm := I226; clear I226
   have hm2 := I227; clear I227
   have hFM := I228; clear I228
   have hG3 := I229; clear I229
   have haG3 := I230; clear I230
   have lt_g5 := haG3.lt
   refine c_seq fun K232 hK232 => (c_seq fun K233 hK233 => (c_region (t_move rfl rfl rfl (t_cmp rfl rfl rfl rfl rfl (t_nil' (hK233 _ _ (c_condp rfl (fun g117 => ?_) (fun g117 => ?_))))))))
   ·
    refine c_skip (hK232 _ _ (c_seq fun K234 hK234 => (c_block (WC.weak [(0, .slice ao us.length cap), (4, .slice ao4 of.length c4), (5, .slice ao5 gs.length c5), (9, .int .i64 m)] ⟨rfl, rfl, rfl, rfl, trivial⟩ (c_drawnS follows 17 14 [some (120, some (.slice ao5 gs.length c5)), some (121, some (.int .i64 m)), some (122, some (.slice ao5 gs.length c5)), some (123, some (.int .i64 m)), some (124, some (.pointer (some ⟨g5, 0 + m.toNat * 2, none⟩))), some (125, some (.pointer (some ⟨g5, 0 + m.toNat * 2 + 1, none⟩))), some (126, some (.int .i64 ((nth G3 m.toNat).hi))), some (127, some (.slice ao5 gs.length c5)), some (128, some (.int .i64 m)), some (129, some (.int .i64 (m + 1))), some (130, some (.pointer (some ⟨g5, 0 + (m.toNat + 1) * 2, none⟩))), some (131, some (.pointer (some ⟨g5, 0 + (m.toNat + 1) * 2 + 1, none⟩))), some (132, some (.int .i64 ((nth G3 (m.toNat + 1)).hi))), some (133, some (.int .i64 (min ((nth G3 m.toNat).hi) ((nth G3 (m.toNat + 1)).hi))))] [[],[],[],[],[2,3],[4],[5],[],[],[8],[7,9],[10],[11],[6,12],[0,1,0,1,2,3,4,5,6,7,8,9,10,11,12,13],[14,0,1,2,3,4,5,6,7,8,9,10,11,12,13],[15,13,0,1,2,3,4,5,6,7,8,9,10,11,12,13]] (fun _ _ w => Upd (fun _ => False) w224 w) rfl rfl rfl rfl (by kernel_rfl) (by kernel_rfl) (by kernel_rfl) (Upd.drew _).to ⟨?_, ?_, ?_, ?_, ?_, ?_, ?_, ?_, ?_, ?_, ?_, ?_, ?_, ?_, trivial⟩ ?_)))))
    · exact pz rfl rfl rfl rfl fun _ _ _ h => h
    · exact pz rfl rfl rfl rfl fun _ _ _ h => h
    · exact pz rfl rfl rfl rfl fun _ _ _ h => h
    · exact pz rfl rfl rfl rfl fun _ _ _ h => h
    ·
     intro D ρ w237 hcD hnD hdD hW
     have zhW := hW.size
     refine ⟨_, kf_fr [122, 123], fun Lr => ?_⟩
     have D240 := (haG3.keep hW (fun _ h => h))
     have i241 : m.toNat < G3.length := (by omega)
     refine t_index (j := m.toNat) Try.underlying73 Try.sizeOf77 rfl rfl rfl rfl ((D240.sl (fun _ => rfl)).addr (by omega)) (by omega) (by omega) ?_
     exact dz rfl hW
    · exact pzf Try.underlying77 rfl Try.sizeOf3 (0 + m.toNat * 2 + 1) rfl rfl rfl rfl rfl fun _ _ _ h => h
    ·
     intro D ρ w242 hcD hnD hdD hW
     have zhW := hW.size
     refine ⟨_, kf_fr [125], fun Lr => ?_⟩
     have D245 := (haG3.keep hW (fun _ h => h))
     refine t_load Try.isAgg3 rfl rfl rfl (((D245.sl (fun _ => rfl)).at_ m.toNat (by omega)) 1 _ rfl) ?_
     exact dz rfl hW
    · exact pz rfl rfl rfl rfl fun _ _ _ h => h
    · exact pz rfl rfl rfl rfl fun _ _ _ h => h
    ·
     intro D ρ w246 hcD hnD hdD hW
     have zhW := hW.size
     refine ⟨_, kf_fr [128], fun Lr => ?_⟩
     refine t_ari rfl rfl rfl rfl rfl (by omega) ?_
     exact dz rfl hW
    ·
     intro D ρ w249 hcD hnD hdD hW
     have zhW := hW.size
     refine ⟨_, kf_fr [127, 129], fun Lr => ?_⟩
     have D252 := (haG3.keep hW (fun _ h => h))
     have i253 : (m.toNat + 1) < G3.length := (by omega)
     refine t_index (j := (m.toNat + 1)) Try.underlying73 Try.sizeOf77 rfl rfl rfl rfl ((D252.sl (fun _ => rfl)).addr (by omega)) (by omega) (by omega) ?_
     exact dz rfl hW
    · exact pzf Try.underlying77 rfl Try.sizeOf3 (0 + (m.toNat + 1) * 2 + 1) rfl rfl rfl rfl rfl fun _ _ _ h => h
    ·
     intro D ρ w254 hcD hnD hdD hW
     have zhW := hW.size
     refine ⟨_, kf_fr [131], fun Lr => ?_⟩
     have D257 := (haG3.keep hW (fun _ h => h))
     refine t_load Try.isAgg3 rfl rfl rfl (((D257.sl (fun _ => rfl)).at_ (m.toNat + 1) (by omega)) 1 _ rfl) ?_
     exact dz rfl hW
    ·
     intro D ρ w258 hcD hnD hdD hW
     have zhW := hW.size
     refine ⟨_, kf_fr [126, 132], fun Lr => ?_⟩
     refine t_min rfl rfl rfl rfl ?_
     exact dz rfl hW
    intro ρ w261 hW
    have u262 : Upd (fun _ => False) w224 w261 := hW
    have zu262 := u262.size
    refine t_weak [(0, .slice ao us.length cap), (4, .slice ao4 of.length c4), (5, .slice ao5 gs.length c5), (9, .int .i64 m), (120, .slice ao5 gs.length c5), (121, .int .i64 m), (133, .int .i64 (min ((nth G3 m.toNat).hi) ((nth G3 (m.toNat + 1)).hi)))] ⟨rfl, rfl, rfl, rfl, rfl, rfl, rfl, trivial⟩ ?_
    have D264 := (haG3.keep u262 (fun _ h => h))
    have i265 : m.toNat < G3.length := (by omega)
    refine t_index (j := m.toNat) Try.underlying73 Try.sizeOf77 rfl rfl rfl rfl ((D264.sl (fun _ => rfl)).addr (by omega)) (by omega) (by omega) (t_field Try.underlying77 rfl Try.sizeOf3 (0 + m.toNat * 2 + 1) rfl rfl rfl rfl (t_storeA (vs := [.int .i64 (min ((nth G3 m.toNat).hi) ((nth G3 (m.toNat + 1)).hi))]) (j := m.toNat) (o' := 1) (k := 2) (⟨(nth G3 m.toNat).lo, (min ((nth G3 m.toNat).hi) ((nth G3 (m.toNat + 1)).hi))⟩ : Bd) (fun _ => rfl) Try.sizeOf3 rfl rfl (by omega) rfl D264 (by omega) rfl rfl (by decide) (by simp [Value.oneCell']) rfl (fun w266 R268 u267 => ?_)))
    have zu267 := u267.size
    refine t_nil' (hK234 _ _ (c_region (t_move rfl rfl rfl (t_ari rfl rfl rfl rfl rfl (by omega) (t_assign rfl rfl rfl (t_nil' ?_))))))
    exact hK223 (m - 1, (G3.set m.toNat (⟨(nth G3 m.toNat).lo, (min ((nth G3 m.toNat).hi) ((nth G3 (m.toNat + 1)).hi))⟩ : Bd))) _ _ (by show ((m - 1) + 2).toNat < (m + 2).toNat; omega) ⟨rfl, rfl, rfl, rfl, trivial⟩ ⟨((u225.next u262 (fun _ _ h => h.elim)).next u267 (fun i hi (h : i = g5) => show i = g5 by first | omega | assumption)), (by show -2 ≤ m - 1; omega), (by show m - 1 < (gs.length : Int) - 1; omega), (by have h := FitM.step (m := m.toNat) (by rw [Int.toNat_of_nonneg (by omega)]; exact hFM) (by omega); rw [Int.toNat_of_nonneg (by omega)] at h; exact h), (by rw [List.length_set]; exact hG3), R268⟩
   ·
    refine c_exit (hK221 _ _ (c_seq fun K270 hK270 => (c_region (t_bslice (ps := []) (cs := []) (e := 77) rfl rfl ⟨rfl, rfl⟩ (fun w => by kernel_rfl) (fun bk271 w272 ebk271 sbk271 B273 u274 => ?_)))))
    have zu274 := u274.size
    have E275 := E231.next u274 (fun _ _ h => h.elim)
    refine t_assign rfl rfl rfl (t_nil' (hK270 _ _ (c_seq fun K276 hK276 => (c_seq fun K277 hK277 => (c_region (t_assign rfl rfl rfl (t_nil' (hK277 _ _ (c_block ?_)))))))))
    have hl10 := B273.lt
    have hac10 : Acc encBd 2 77 bk271 w272 (some ⟨bk271, 0, none⟩) bk271 0 [] := Acc.ofBlk (xs := ([] : List Bd)) encBd 2 (fun _ => rfl) B273 (Nat.le_refl _) (by decide)
    refine c_loop (γ := Nat × Option Addr × Nat × Nat × List Bd) (fun gg => [(0, .slice ao us.length cap), (4, .slice ao4 of.length c4), (5, .slice ao5 gs.length c5), (10, .slice gg.2.1 gg.2.2.2.2.length gg.2.2.2.1), (11, .int .i64 (gg.1 : Int))]) (fun gg w => Upd (fun i => i = bk271) w272 w ∧ (gg.1 ≤ us.length) ∧ (gg.2.2.2.2.length = gg.1) ∧ (∀ i, i < gg.1 → nth gg.2.2.2.2 i = nth G3 (nth of i).toNat ∧ ¬ (nth gg.2.2.2.2 i).hi < (nth gg.2.2.2.2 i).lo) ∧ (Acc encBd 2 77 bk271 w gg.2.1 gg.2.2.1 gg.2.2.2.1 gg.2.2.2.2) ∧ (gg.2.2.1 = bk271 ∨ w272.heap.size ≤ gg.2.2.1)) (fun gg => us.length - gg.1) (0, some ⟨bk271, 0, none⟩, bk271, 0, []) ⟨rfl, rfl, rfl, rfl, rfl, trivial⟩ ⟨Upd.refl _ _, (Nat.zero_le _), rfl, (fun i h => absurd h (by omega)), hac10, (.inl rfl)⟩ ?_
    intro gg w279 hW K278 hK278
    obtain ⟨k2, ao7, g7, c7, out⟩ := gg
    change WC _ _ _ _ _ _ [(0, .slice ao us.length cap), (4, .slice ao4 of.length c4), (5, .slice ao5 gs.length c5), (10, .slice ao7 out.length c7), (11, .int .i64 (k2 : Int))] _
    change Upd (fun i => i = bk271) w272 w279 ∧ (k2 ≤ us.length) ∧ (out.length = k2) ∧ (∀ i, i < k2 → nth out i = nth G3 (nth of i).toNat ∧ ¬ (nth out i).hi < (nth out i).lo) ∧ (Acc encBd 2 77 bk271 w279 ao7 g7 c7 out) ∧ (g7 = bk271 ∨ w272.heap.size ≤ g7) at hW
    obtain ⟨u280, I281, I282, I283, I284, I285⟩ := hW
    have zu280 := u280.size
    have E286 := E275.next u280 (fun i hi (h : i = bk271) => show False by first | omega | assumption)
    have hk2 := I281; clear I281
    have houl := I282; clear I282
    have hall := I283; clear I283
    have hou := I284; clear I284
    have hg7 := I285; clear I285
    have lt_g7 := hou.lt
    refine c_seq fun K287 hK287 => (c_seq fun K288 hK288 => (c_region (t_move rfl rfl rfl (t_move rfl rfl rfl (t_len Try.underlying72 rfl rfl rfl rfl (t_cmp rfl rfl rfl rfl rfl (t_nil' (hK288 _ _ (c_condp rfl (fun g140 => ?_) (fun g140 => ?_))))))))))
    ·
     have hat := (hFM.at_ (by omega) (i := k2) (by omega)).1
     refine c_skip (hK287 _ _ (c_seq fun K289 hK289 => (c_block (c_seq fun K290 hK290 => (c_region (t_move rfl rfl rfl (t_move rfl rfl rfl (t_move rfl rfl rfl ?_))))))))
     have D291 := ((((hof.keep u177 (fun hb => show ¬ (g4 = g5) by first | omega | assumption)).keep u225 (fun hb => show ¬ (g4 = g5) by first | omega | assumption)).keep u274 (fun _ h => h)).keep u280 (fun hb => show ¬ (g4 = bk271) by first | omega | assumption))
     have i292 : k2 < of.length := (by omega)
     refine t_index (j := k2) Try.underlying45 Try.sizeOf3 rfl rfl rfl rfl ((D291.sl (fun _ => rfl)).addr (by omega)) rfl i292 (t_load Try.isAgg3 rfl rfl rfl (((D291.sl (fun _ => rfl)).at_ k2 (by omega)) 0 _ rfl) ?_)
     have D293 := ((haG3.keep u274 (fun _ h => h)).keep u280 (fun hb => show ¬ (g5 = bk271) by first | omega | assumption))
     have i294 : (nth of k2).toNat < G3.length := (by omega)
     refine t_index (j := (nth of k2).toNat) Try.underlying73 Try.sizeOf77 rfl rfl rfl rfl ((D293.sl (fun _ => rfl)).addr (by omega)) (by omega) (by omega) (t_loadN (vs := [.int .i64 ((nth G3 ((nth of k2).toNat)).lo), .int .i64 ((nth G3 ((nth of k2).toNat)).hi)]) Try.isAgg77 Try.sizeOf77 rfl rfl rfl (((D293.sl (fun _ => rfl)).at_ ((nth of k2).toNat) (by omega)).sub 0 2) rfl (t_alloc (cs := [.int .i64 0, .int .i64 0]) Try.zeroValue77 rfl rfl rfl (fun bk295 w296 ebk295 sbk295 B297 u298 => ?_)))
     have zu298 := u298.size
     have E299 := E286.next u298 (fun _ _ h => h.elim)
     refine t_store (vs := [.int .i64 ((nth G3 ((nth of k2).toNat)).lo), .int .i64 ((nth G3 ((nth of k2).toNat)).hi)]) Try.sizeOf77 rfl rfl rfl B297 rfl rfl (Nat.le_of_ble_eq_true rfl) (by simp [Value.oneCell']) (fun w300 sw300 B302 u301 => ?_)
     have zu301 := u301.size
     have E303 := E299.next u301 (fun i hi (h : i = bk295) => show False by first | omega | assumption)
     have B302 : Blk w300 bk295 77 [.int .i64 ((nth G3 ((nth of k2).toNat)).lo), .int .i64 ((nth G3 ((nth of k2).toNat)).hi)] := B302
     refine t_nil' (hK290 _ _ (c_seq fun K304 hK304 => (c_seq fun K305 hK305 => (c_region (t_field Try.underlying77 rfl Try.sizeOf3 (0) rfl rfl rfl rfl (t_load Try.isAgg3 rfl rfl rfl (B302.get rfl) (t_field Try.underlying77 rfl Try.sizeOf3 (1) rfl rfl rfl rfl (t_load Try.isAgg3 rfl rfl rfl (B302.get rfl) (t_cmp rfl rfl rfl rfl rfl (t_nil' (hK305 _ _ (c_condp rfl (fun g154 => ?_) (fun g154 => ?_)))))))))))))
     ·
      refine c_seq fun K306 hK306 => (c_region (t_assign rfl rfl rfl (t_assign rfl rfl rfl (t_nil' (hK306 _ _ (c_ret (f_ret2 (v1 := .slice none 0 0) (v2 := .bool false) Try.results64 rfl rfl ?_)))))))
      exact ⟨.inl ⟨rfl, hFM.bad (by omega) (i := k2) (by omega) g154⟩, E303⟩
     ·
      refine c_skip (hK304 _ _ (c_region (t_move rfl rfl rfl (t_loadN (vs := [.int .i64 ((nth G3 ((nth of k2).toNat)).lo), .int .i64 ((nth G3 ((nth of k2).toNat)).hi)]) Try.isAgg77 Try.sizeOf77 rfl rfl rfl (B302.at.sub 0 2) rfl (t_bslice (ps := [(0, .agg #[.int .i64 ((nth G3 ((nth of k2).toNat)).lo), .int .i64 ((nth G3 ((nth of k2).toNat)).hi)])]) (cs := [.int .i64 ((nth G3 ((nth of k2).toNat)).lo), .int .i64 ((nth G3 ((nth of k2).toNat)).hi)]) (e := 77) rfl rfl ⟨rfl, rfl⟩ (fun w => by kernel_rfl) (fun bk307 w308 ebk307 sbk307 B309 u310 => ?_))))))
      have zu310 := u310.size
      have D312 := (((hou.keep u298 (fun _ h => h)).keep u301 (fun hb => show ¬ (g7 = bk295) by first | omega | assumption)).keep u310 (fun _ h => h))
      refine t_append (z := .agg #[.int .i64 0, .int .i64 0]) (bytes := 16) (k := 2) (base := bk271) (⟨(nth G3 ((nth of k2).toNat)).lo, (nth G3 ((nth of k2).toNat)).hi⟩ : Bd) Try.underlying73 (by kernel_rfl) rfl (by decide) (fun _ => rfl) (by intro x; simp [encBd, Value.oneCell']) rfl rfl rfl rfl D312 B309 (by omega) (by omega) (by decide) (fun ao313 gb314 cp315 w316 A317 u318 gegb314 lngb314 => ?_)
      have zu318 := u318.size
      have lt_gb314 := A317.lt
      refine t_assign rfl rfl rfl (t_nil' (hK289 _ _ (c_region (t_move rfl rfl rfl (t_ari rfl rfl rfl rfl rfl (by omega) (t_assign rfl rfl rfl (t_nil' ?_)))))))
      exact hK278 (k2 + 1, ao313, gb314, cp315, (out ++ [(⟨(nth G3 ((nth of k2).toNat)).lo, (nth G3 ((nth of k2).toNat)).hi⟩ : Bd)])) _ _ (by show us.length - (k2 + 1) < us.length - k2; omega) ⟨rfl, rfl, rfl, rfl, rfl, trivial⟩ ⟨((((u280.next u298 (fun _ _ h => h.elim)).next u301 (fun i hi (h : i = bk295) => show i = bk271 by first | omega | assumption)).next u310 (fun _ _ h => h.elim)).next u318 (fun i hi (h : (i = g7 ∧ bk271 ≤ i)) => show i = bk271 by first | omega | assumption)), (by omega), (by simp [houl]), (fit_snoc houl hall rfl g154), A317, (by show gb314 = bk271 ∨ _ ≤ gb314; omega)⟩
    ·
     refine c_exit (hK276 _ _ (c_seq fun K320 hK320 => (c_region (t_move rfl rfl rfl (t_assign rfl rfl rfl (t_assign rfl rfl rfl (t_nil' (hK320 _ _ (c_ret (f_ret2 (v1 := .slice ao7 out.length c7) (v2 := .bool true) Try.results64 rfl rfl ?_))))))))))
     have hgd := hFM.good (by omega) (out := out) (fun i hi => hall i (by omega))
     exact ⟨.inr ⟨hgd.1, ao7, g7, c7, out, rfl, by omega, hgd.2, hou.sl (fun _ => rfl)⟩, E286⟩

end Go.Proofs.Ytgkkgpenmppjcaa
