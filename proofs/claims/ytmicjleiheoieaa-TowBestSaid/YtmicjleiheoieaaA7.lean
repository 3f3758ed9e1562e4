/-
  The contract of Stack. Conditions: none.
-/
import Derived.Test.YtmicjleiheoieaaA6
namespace Go.Proofs.Ytmicjleiheoieaa
open Go Go.RowKit
theorem Sl.norm {α : Type} [Inhabited α] {enc : α → List Value} {k : Nat} {w : World} {ao : Option Addr} {b o : Nat} {xs : List α} (h : Sl enc k w ao b o xs) (h0 : 0 < w.heap.size) : ∃ b', b' < w.heap.size ∧ Sl enc k w ao b' o xs := by
  rcases Nat.eq_zero_or_pos xs.length with h1 | h1
  · have : xs = [] := List.eq_nil_of_length_eq_zero h1
    subst this
    exact ⟨0, h0, Sl.nil _ _ _ _ _ _⟩
  · exact ⟨b, h.lt h1, h⟩
/-- How many hulls to put into each row. -/
def rowsR (W : Int) : Nat → List Hull → List Int
  | _, [] => []
  | 0, _ :: _ => []
  | n + 1, h :: ys => (bestR W (n + 1) (h :: ys)).1 :: rowsR W n ((h :: ys).drop (bestR W (n + 1) (h :: ys)).1.toNat)
def goodR (rest : List Hull → Int) (full : List Hull) (x : Int × Int) : Prop := x.2 < 0 ∨ (1 ≤ x.1 ∧ x.1 ≤ full.length ∧ 0 ≤ rest (full.drop x.1.toNat))
theorem goR_good {rest : List Hull → Int} {W : Int} {full : List Hull} : ∀ (m : Nat) (r : Row) (x : Int × Int) (i : Nat) (ys : List Hull), full.drop i = ys → goodR rest full x → goodR rest full (goR rest W m r x i ys)
  | 0, r, x, i, ys, _, hx => by simpa [goR] using hx
  | _ + 1, r, x, i, [], _, hx => by simpa [goR] using hx
  | m + 1, r, x, i, h :: ys, hd, hx => by
    simp only [goR]
    split
    · exact hx
    · have hlen : i < full.length := by
        rcases Nat.lt_or_ge i full.length with h' | h'
        · exact h'
        · rw [List.drop_eq_nil_of_le h'] at hd; cases hd
      have hd' : full.drop (i + 1) = ys := by rw [List.drop_add_one_eq_tail_drop, hd]; rfl
      have := goR_good m (addH r h) (pickR x i (max r.long h.len) (rest ys)) (i + 1) ys hd' (W := W) (by
        unfold pickR
        split
        · rename_i hc
          refine .inr ⟨by simp only []; omega, by simp only []; omega, ?_⟩
          show 0 ≤ rest (full.drop ((i : Int) + 1).toNat)
          rw [show ((i : Int) + 1).toNat = i + 1 from by omega, hd']
          exact hc.1
        · exact hx)
      exact_mod_cast this
theorem bestR_good {W : Int} {n : Nat} {ys : List Hull} (hy : 0 < ys.length) (h : 0 ≤ (bestR W n ys).2) : ∃ m, n = m + 1 ∧ 1 ≤ (bestR W n ys).1 ∧ (bestR W n ys).1 ≤ ys.length ∧ 0 ≤ (bestR W m (ys.drop (bestR W n ys).1.toNat)).2 := by
  cases ys with
  | nil => simp at hy
  | cons z ys =>
    cases n with
    | zero => simp [bestR] at h
    | succ m =>
      refine ⟨m, rfl, ?_⟩
      have := goR_good (rest := fun zs => (bestR W m zs).2) (W := W) (full := z :: ys) 4 ⟨0, 0, 0⟩ (0, -1) 0 (z :: ys) rfl (.inl (by decide))
      rw [bestR] at h ⊢
      rcases this with h1 | h1
      · exact absurd h1 (by simpa using h)
      · exact h1
theorem rowsR_step {W : Int} {n : Nat} {ys : List Hull} (hy : 0 < ys.length) (h : 0 ≤ (bestR W n ys).2) : rowsR W n ys = (bestR W n ys).1 :: rowsR W (n - 1) (ys.drop (bestR W n ys).1.toNat) := by
  obtain ⟨m, rfl, _⟩ := bestR_good hy h
  cases ys with
  | nil => simp at hy
  | cons z ys => rfl
def StkE (boat : Hull) (xs : List Hull) (W : Int) : Int :=
  if (!okHull boat || xs.any fun h => !okHull h) then 2 else if 30 < xs.length then 5 else if ¬ (1 ≤ W ∧ W ≤ 200) then 3 else if W < boat.wid then 7 else if (bestR W 10 xs).2 < 0 then 7 else 0
def StkN (boat : Hull) (xs : List Hull) (W : Int) : Int := if StkE boat xs W = 0 then boat.len + (bestR W 10 xs).2 else 0
def StkR (boat : Hull) (xs : List Hull) (W : Int) : List Int := if StkE boat xs W = 0 then rowsR W 10 xs else []
theorem stk_bad {boat : Hull} {xs : List Hull} {W e : Int} (h : StkE boat xs W = e) (he : e ≠ 0) : StkN boat xs W = 0 ∧ StkR boat xs W = [] := by
  subst h; simp [StkN, StkR, he]

theorem Stack_c (boat : Hull) (xs : List Hull) (W : Int) (ao : Option Addr) (b1 o cap : Nat) (w0 : World) (hs1 : Sl encHull 3 w0 ao b1 o xs) (hl : xs.length ≤ 1000000) (hcap : xs.length ≤ cap) (h0 : 0 < w0.heap.size) :
    CallsV Try.prog 18 [.agg #[.int .i64 boat.len, .int .i64 boat.wid, .int .i64 boat.mass], .slice ao xs.length cap, .int .i64 W] w0 (fun v w' => (∃ ao g cap, v = .tuple #[.slice ao (StkR boat xs W).length cap, .int .i64 (StkN boat xs W), .int .i64 (StkE boat xs W)] ∧ Sl encI 1 w' ao g 0 (StkR boat xs W) ∧ Ext w0 w')) := by
 obtain ⟨b, hbl, hs⟩ := hs1.norm h0
 have E0 := Upd.refl (fun _ => False) w0
 refine f_enter (N := 70) Try.func18 rfl rfl rfl ?_
 change WC _ _ _ _ _ _ [(0, .agg #[.int .i64 boat.len, .int .i64 boat.wid, .int .i64 boat.mass]), (1, .slice ao xs.length cap), (2, .int .i64 W)] _
 refine c_seq fun K1 hK1 => (c_region (t_box (cs := [.int .i64 boat.len, .int .i64 boat.wid, .int .i64 boat.mass]) rfl rfl rfl rfl (fun bk2 w3 ebk2 sbk2 B4 u5 => ?_)))
 have zu5 := u5.size
 have E6 := E0.next u5 (fun _ _ h => h.elim)
 refine t_assign rfl rfl rfl (t_assign rfl rfl rfl (t_assign rfl rfl rfl (t_nil' (hK1 _ _ (c_seq fun K7 hK7 => (c_block (c_seq fun K8 hK8 => (c_region (t_loadN (vs := [.int .i64 boat.len, .int .i64 boat.wid, .int .i64 boat.mass]) Try.isAgg23 Try.sizeOf23 rfl rfl rfl (B4.at.sub 0 3) rfl (t_call (vs := [.agg #[.int .i64 boat.len, .int .i64 boat.wid, .int .i64 boat.mass]]) own56 rfl rfl rfl rfl (isHull_c boat _) (fun v9 w10 r12 => ?_)))))))))))
 obtain ⟨rfl, u11⟩ := r12
 have zu11 := u11.size
 have E13 := E6.next u11 (fun _ _ h => h.elim)
 refine t_not rfl rfl rfl (t_move rfl rfl rfl (t_split 18 rfl (fun g18 => ?_) (fun g18 => ?_)))
 ·
  refine t_skip rfl rfl rfl (t_skip rfl rfl rfl (t_pick_t rfl rfl rfl rfl (t_assign rfl rfl rfl (t_nil' (hK8 _ _ (c_cond_t rfl (c_seq fun K14 hK14 => (c_region (t_assign rfl rfl rfl (t_assign rfl rfl rfl (t_assign rfl rfl rfl (t_nil' (hK14 _ _ (c_ret (f_ret3 (v1 := .slice none 0 0) (v2 := .int .i64 0) (v3 := .int .i64 2) Try.results18 rfl rfl rfl ?_)))))))))))))))
  have hE : StkE boat xs W = 2 := by simp only [StkE]; simp_all
  exact ⟨none, 0, 0, by rw [hE, (stk_bad hE (by decide)).1, (stk_bad hE (by decide)).2]; rfl, by rw [(stk_bad hE (by decide)).2]; exact Sl.nil _ _ _ _ _ _, E13⟩
 ·
  have hok : okHull boat = true := by simpa using g18
  refine t_move rfl rfl rfl (t_call (vs := [.slice ao xs.length cap]) own57 rfl rfl rfl rfl (badHull_c xs _ _ _ _ _ (hs.keep E13 (fun _ h => h)) hl) (fun v15 w16 r18 => ?_))
  obtain ⟨rfl, u17⟩ := r18
  have zu17 := u17.size
  have E19 := E13.next u17 (fun _ _ h => h.elim)
  refine t_pick_f rfl rfl rfl rfl (t_assign rfl rfl rfl (t_nil' (hK8 _ _ (c_cond rfl (fun g14 => ?_) (fun g14 => ?_)))))
  ·
   refine c_seq fun K20 hK20 => (c_region (t_assign rfl rfl rfl (t_assign rfl rfl rfl (t_assign rfl rfl rfl (t_nil' (hK20 _ _ (c_ret (f_ret3 (v1 := .slice none 0 0) (v2 := .int .i64 0) (v3 := .int .i64 2) Try.results18 rfl rfl rfl ?_))))))))
   have hE : StkE boat xs W = 2 := by simp only [StkE]; simp_all
   exact ⟨none, 0, 0, by rw [hE, (stk_bad hE (by decide)).1, (stk_bad hE (by decide)).2]; rfl, by rw [(stk_bad hE (by decide)).2]; exact Sl.nil _ _ _ _ _ _, E19⟩
  ·
   refine c_seq fun K21 hK21 => (c_region (t_move rfl rfl rfl (t_len Try.underlying24 rfl rfl rfl rfl (t_cmp rfl rfl rfl rfl rfl (t_assign rfl rfl rfl (t_nil' (hK21 _ _ (c_condp rfl (fun g22 => ?_) (fun g22 => ?_)))))))))
   ·
    refine c_seq fun K22 hK22 => (c_region (t_assign rfl rfl rfl (t_assign rfl rfl rfl (t_assign rfl rfl rfl (t_nil' (hK22 _ _ (c_ret (f_ret3 (v1 := .slice none 0 0) (v2 := .int .i64 0) (v3 := .int .i64 5) Try.results18 rfl rfl rfl ?_))))))))
    have hE : StkE boat xs W = 5 := by simp only [StkE, hok, g14]; simp; intro h; omega
    exact ⟨none, 0, 0, by rw [hE, (stk_bad hE (by decide)).1, (stk_bad hE (by decide)).2]; rfl, by rw [(stk_bad hE (by decide)).2]; exact Sl.nil _ _ _ _ _ _, E19⟩
   ·
    refine c_seq fun K23 hK23 => (c_region (t_move rfl rfl rfl (t_bslice (ps := [(0, .int .i64 W)]) (cs := [.int .i64 W]) (e := 3) rfl rfl ⟨rfl, rfl⟩ (fun w => by kernel_rfl) (fun bk24 w25 ebk24 sbk24 B26 u27 => ?_))))
    have zu27 := u27.size
    have E28 := E19.next u27 (fun _ _ h => h.elim)
    refine t_call (vs := [.int .i64 1, .int .i64 200, .slice (some ⟨bk24, 0, none⟩) 1 1]) own58 rfl rfl rfl rfl (within1_v 1 200 W _ _ _ B26) (fun v29 w30 r32 => ?_)
    obtain ⟨rfl, u31⟩ := r32
    have zu31 := u31.size
    have E33 := E28.next u31 (fun _ _ h => h.elim)
    refine t_notp rfl rfl rfl (t_assign rfl rfl rfl (t_nil' (hK23 _ _ (c_condp rfl (fun g26 => ?_) (fun g26 => ?_)))))
    ·
     refine c_seq fun K34 hK34 => (c_region (t_assign rfl rfl rfl (t_assign rfl rfl rfl (t_assign rfl rfl rfl (t_nil' (hK34 _ _ (c_ret (f_ret3 (v1 := .slice none 0 0) (v2 := .int .i64 0) (v3 := .int .i64 3) Try.results18 rfl rfl rfl ?_))))))))
     have hE : StkE boat xs W = 3 := by simp only [StkE, hok, g14, if_neg (show ¬ 30 < xs.length by omega), if_pos g26]; rfl
     exact ⟨none, 0, 0, by rw [hE, (stk_bad hE (by decide)).1, (stk_bad hE (by decide)).2]; rfl, by rw [(stk_bad hE (by decide)).2]; exact Sl.nil _ _ _ _ _ _, E33⟩
    ·
     have g26x := Decidable.not_not.1 g26
     refine c_seq fun K35 hK35 => (c_region (t_field Try.underlying23 rfl Try.sizeOf3 (1) rfl rfl rfl rfl ?_))
     have B36 := ((((B4.keep u11 (fun h => h)).keep u17 (fun h => h)).keep u27 (fun h => h)).keep u31 (fun h => h))
     refine t_load Try.isAgg3 rfl rfl rfl (B36.get rfl) (t_move rfl rfl rfl (t_cmp rfl rfl rfl rfl rfl (t_assign rfl rfl rfl (t_nil' (hK35 _ _ (c_condp rfl (fun g31 => ?_) (fun g31 => ?_)))))))
     ·
      refine c_seq fun K37 hK37 => (c_region (t_assign rfl rfl rfl (t_assign rfl rfl rfl (t_assign rfl rfl rfl (t_nil' (hK37 _ _ (c_ret (f_ret3 (v1 := .slice none 0 0) (v2 := .int .i64 0) (v3 := .int .i64 7) Try.results18 rfl rfl rfl ?_))))))))
      have hE : StkE boat xs W = 7 := by simp only [StkE, hok, g14, if_neg (show ¬ 30 < xs.length by omega), if_neg (Decidable.not_not.2 g26x), if_pos g31]; rfl
      exact ⟨none, 0, 0, by rw [hE, (stk_bad hE (by decide)).1, (stk_bad hE (by decide)).2]; rfl, by rw [(stk_bad hE (by decide)).2]; exact Sl.nil _ _ _ _ _ _, E33⟩
     ·
      refine c_skip (hK7 _ _ (c_seq fun K38 hK38 => (c_region (t_move rfl rfl rfl (t_move rfl rfl rfl (t_makemap rfl rfl (fun bk39 w40 ebk39 sbk39 M41 u42 => ?_)))))))
      have zu42 := u42.size
      have E43 := E33.next u42 (fun _ _ h => h.elim)
      have hall : ∀ h ∈ xs, okHull h = true := by simpa using g14
      refine t_build (ps := [(0, .slice ao xs.length cap), (1, .int .i64 W), (2, .map (some bk39))]) (v := .agg #[.slice ao xs.length cap, .int .i64 W, .map (some bk39)]) rfl rfl ⟨rfl, rfl⟩ (fun w => by kernel_rfl) (t_box (cs := [.slice ao xs.length cap, .int .i64 W, .map (some bk39)]) rfl rfl rfl rfl (fun bk44 w45 ebk44 sbk44 B46 u47 => ?_))
      have zu47 := u47.size
      have E48 := E43.next u47 (fun _ _ h => h.elim)
      refine t_assign rfl rfl rfl (t_nil' (hK38 _ _ (c_seq fun K49 hK49 => (c_region (t_move rfl rfl rfl ?_)))))
      have hss : Blk w45 bk44 117 [.slice ao xs.length cap, .int .i64 W, .map (some bk39)] := B46
      have D51 := ((M41 (bestP xs W)).keep u47 (fun h => h))
      refine t_call (vs := [.pointer (some ⟨bk44, 0, none⟩), .int .i64 0, .int .i64 10]) own59 rfl rfl rfl rfl (best_c xs W ao b o cap bk44 bk39 10 0 _ ⟨by omega, by omega, hss, (hs.keep E48 (fun _ h => h)), hcap, by omega, hall, by omega, by omega, by omega, D51, by omega⟩) (fun v52 w53 r55 => ?_)
      obtain ⟨rfl, u54, M50⟩ := r55
      have zu54 := u54.size
      have E56 := E48.next u54 (fun i hi (h : i = bk39) => show False by first | omega | assumption)
      have hbb10 := bestR_bound W 10 (xs.drop 0) (fun h hh => hall h (List.mem_of_mem_drop hh))
      refine t_alloc (cs := [.int .i64 0, .int .i64 0]) Try.zeroValue119 rfl rfl rfl (fun bk57 w58 ebk57 sbk57 B59 u60 => ?_)
      have zu60 := u60.size
      have E61 := E56.next u60 (fun _ _ h => h.elim)
      refine t_store (vs := [.int .i64 ((bestR W 10 (xs.drop 0)).1), .int .i64 ((bestR W 10 (xs.drop 0)).2)]) Try.sizeOf119 rfl rfl rfl B59 rfl rfl (Nat.le_of_ble_eq_true rfl) (by simp [Value.oneCell']) (fun w62 sw62 B64 u63 => ?_)
      have zu63 := u63.size
      have E65 := E61.next u63 (fun i hi (h : i = bk57) => show False by first | omega | assumption)
      have B64 : Blk w62 bk57 119 [.int .i64 ((bestR W 10 (xs.drop 0)).1), .int .i64 ((bestR W 10 (xs.drop 0)).2)] := B64
      refine t_nil' (hK49 _ _ (c_seq fun K66 hK66 => (c_seq fun K67 hK67 => (c_region (t_field Try.underlying119 rfl Try.sizeOf3 (1) rfl rfl rfl rfl (t_load Try.isAgg3 rfl rfl rfl (B64.get rfl) (t_cmp rfl rfl rfl rfl rfl (t_nil' (hK67 _ _ (c_condp rfl (fun g45 => ?_) (fun g45 => ?_)))))))))))
      ·
       refine c_seq fun K68 hK68 => (c_region (t_assign rfl rfl rfl (t_assign rfl rfl rfl (t_assign rfl rfl rfl (t_nil' (hK68 _ _ (c_ret (f_ret3 (v1 := .slice none 0 0) (v2 := .int .i64 0) (v3 := .int .i64 7) Try.results18 rfl rfl rfl ?_))))))))
       have hE : StkE boat xs W = 7 := by simp only [StkE, hok, g14, if_neg (show ¬ 30 < xs.length by omega), if_neg (Decidable.not_not.2 g26x), if_neg g31, if_pos (show (bestR W 10 xs).2 < 0 by simpa using g45)]; rfl
       exact ⟨none, 0, 0, by rw [hE, (stk_bad hE (by decide)).1, (stk_bad hE (by decide)).2]; rfl, by rw [(stk_bad hE (by decide)).2]; exact Sl.nil _ _ _ _ _ _, E65⟩
      ·
       have hboat := okHull_rng hok
       refine c_skip (hK66 _ _ (c_seq fun K69 hK69 => (c_seq fun K70 hK70 => (c_region (t_assign rfl rfl rfl (t_assign rfl rfl rfl (t_nil' (hK70 _ _ (c_block ?_)))))))))
       have D71 := ((M50.keep u60 (fun h => h)).keep u63 (show ¬ (bk39 = bk57) by omega))
       refine c_loop (γ := Nat × Nat × Option Addr × Nat × Nat × List Int) (fun gg => [(1, .slice ao xs.length cap), (3, .pointer (some ⟨bk2, 0, none⟩)), (6, .slice gg.2.2.1 gg.2.2.2.2.2.length gg.2.2.2.2.1), (9, .pointer (some ⟨bk44, 0, none⟩)), (10, .pointer (some ⟨bk57, 0, none⟩)), (11, .int .i64 (gg.1 : Int)), (12, .int .i64 (gg.2.1 : Int))]) (fun gg w => Upd (fun i => i = bk39) w62 w ∧ (gg.1 ≤ xs.length ∧ gg.2.1 ≤ 10) ∧ (gg.2.2.2.2.2 ++ rowsR W gg.2.1 (xs.drop gg.1) = rowsR W 10 xs) ∧ (0 ≤ (bestR W gg.2.1 (xs.drop gg.1)).2) ∧ (Acc encI 1 3 w62.heap.size w gg.2.2.1 gg.2.2.2.1 gg.2.2.2.2.1 gg.2.2.2.2.2) ∧ (Memo (bestP xs W) w bk39) ∧ (gg.2.2.2.2.2.length + gg.2.1 ≤ 10)) (fun gg => xs.length - gg.1) (0, 10, none, 0, 0, []) ⟨rfl, rfl, rfl, rfl, rfl, rfl, rfl, trivial⟩ ⟨Upd.refl _ _, ⟨Nat.zero_le _, Nat.le_refl _⟩, rfl, (by simp only [List.drop_zero]; simpa using g45), (Acc.nil _ _ _ _ _ (by omega) (Nat.le_refl _)), D71, (Nat.le_refl _)⟩ ?_
       intro gg w73 hW K72 hK72
       obtain ⟨f, l, ao2, g2, c2, rs⟩ := gg
       change WC _ _ _ _ _ _ [(1, .slice ao xs.length cap), (3, .pointer (some ⟨bk2, 0, none⟩)), (6, .slice ao2 rs.length c2), (9, .pointer (some ⟨bk44, 0, none⟩)), (10, .pointer (some ⟨bk57, 0, none⟩)), (11, .int .i64 (f : Int)), (12, .int .i64 (l : Int))] _
       change Upd (fun i => i = bk39) w62 w73 ∧ (f ≤ xs.length ∧ l ≤ 10) ∧ (rs ++ rowsR W l (xs.drop f) = rowsR W 10 xs) ∧ (0 ≤ (bestR W l (xs.drop f)).2) ∧ (Acc encI 1 3 w62.heap.size w73 ao2 g2 c2 rs) ∧ (Memo (bestP xs W) w73 bk39) ∧ (rs.length + l ≤ 10) at hW
       obtain ⟨u74, I75, I76, I77, I78, I79, I80⟩ := hW
       have zu74 := u74.size
       have E81 := E65.next u74 (fun i hi (h : i = bk39) => show False by first | omega | assumption)
       have hfl := I75; clear I75
       have hgo := I76; clear I76
       have hpos := I77; clear I77
       have hacc := I78; clear I78
       have hmm := I79; clear I79
       have hrl := I80; clear I80
       have lt_g2 := hacc.lt
       refine c_seq fun K82 hK82 => (c_seq fun K83 hK83 => (c_region (t_move rfl rfl rfl (t_move rfl rfl rfl (t_len Try.underlying24 rfl rfl rfl rfl (t_cmp rfl rfl rfl rfl rfl (t_nil' (hK83 _ _ (c_condp rfl (fun g49 => ?_) (fun g49 => ?_))))))))))
       ·
        have hlen : 0 < (xs.drop f).length := by rw [List.length_drop]; omega
        obtain ⟨m1, hm1, hg2, hg3, hg4⟩ := bestR_good (W := W) hlen hpos
        have hl1 : l - 1 = m1 := by omega
        rw [List.length_drop] at hg3
        refine c_skip (hK82 _ _ (c_seq fun K84 hK84 => (c_block (c_seq fun K85 hK85 => (c_region (t_move rfl rfl rfl (t_move rfl rfl rfl (t_move rfl rfl rfl ?_))))))))
        have B86 := ((((B46.keep u54 (show ¬ (bk44 = bk39) by first | omega | assumption)).keep u60 (fun h => h)).keep u63 (show ¬ (bk44 = bk57) by first | omega | assumption)).keep u74 (show ¬ (bk44 = bk39) by first | omega | assumption))
        have hss : Blk w73 bk44 117 [.slice ao xs.length cap, .int .i64 W, .map (some bk39)] := B86
        refine t_call (vs := [.pointer (some ⟨bk44, 0, none⟩), .int .i64 (f : Int), .int .i64 (l : Int)]) own59 rfl rfl rfl rfl (best_c xs W ao b o cap bk44 bk39 l f _ ⟨by omega, by omega, hss, (hs.keep E81 (fun _ h => h)), hcap, by omega, hall, by omega, by omega, by omega, hmm, by omega⟩) (fun v88 w89 r91 => ?_)
        obtain ⟨rfl, u90, M87⟩ := r91
        have zu90 := u90.size
        have hbbl := bestR_bound W l (xs.drop f) (fun h hh => hall h (List.mem_of_mem_drop hh))
        refine t_fieldv (cs := [.int .i64 ((bestR W l (xs.drop f)).1), .int .i64 ((bestR W l (xs.drop f)).2)]) Try.underlying119 rfl Try.isAgg3 rfl rfl rfl rfl (t_assign rfl rfl rfl (t_nil' (hK85 _ _ (c_region (t_move rfl rfl rfl (t_move rfl rfl rfl (t_bslice (ps := [(0, .int .i64 ((bestR W l (xs.drop f)).1))]) (cs := [.int .i64 ((bestR W l (xs.drop f)).1)]) (e := 3) rfl rfl ⟨rfl, rfl⟩ (fun w => by kernel_rfl) (fun bk93 w94 ebk93 sbk93 B95 u96 => ?_))))))))
        have zu96 := u96.size
        have D98 := ((hacc.keep u90 (fun hb => show ¬ (g2 = bk39) by first | omega | assumption)).keep u96 (fun _ h => h))
        refine t_append (z := .int .i64 0) (bytes := 8) (k := 1) (base := w62.heap.size) ((bestR W l (xs.drop f)).1) Try.underlying27 (by kernel_rfl) rfl (by decide) (fun _ => rfl) (by intro x; simp [encI, Value.oneCell']) rfl rfl rfl rfl D98 B95 (by omega) (by omega) (by decide) (fun ao99 gb100 cp101 w102 A103 u104 gegb100 lngb100 => ?_)
        have zu104 := u104.size
        have lt_gb100 := A103.lt
        refine t_move rfl rfl rfl (t_move rfl rfl rfl (t_ari rfl rfl rfl rfl rfl (by omega) (t_same 63 (v := .int .i64 ((f + (bestR W l (xs.drop f)).1.toNat : Nat) : Int)) rfl (congrArg (Value.int .i64) (by omega)) (t_assign rfl rfl rfl (t_assign rfl rfl rfl (t_nil' (hK84 _ _ (c_region (t_move rfl rfl rfl (t_ari rfl rfl rfl rfl rfl (by omega) (t_same 51 (v := .int .i64 ((l - 1 : Nat) : Int)) rfl (congrArg (Value.int .i64) (by omega)) (t_assign rfl rfl rfl (t_nil' ?_)))))))))))))
        have hst := rowsR_step (W := W) (n := l) (ys := xs.drop f) hlen hpos
        have hdd : xs.drop (f + (bestR W l (xs.drop f)).1.toNat) = (xs.drop f).drop (bestR W l (xs.drop f)).1.toNat := by rw [List.drop_drop]
        have D106 := ((M87.keep u96 (fun h => h)).keep u104 (show ¬ ((bk39 = g2 ∧ w62.heap.size ≤ bk39)) by omega))
        exact hK72 (f + (bestR W l (xs.drop f)).1.toNat, l - 1, ao99, gb100, cp101, (rs ++ [(bestR W l (xs.drop f)).1])) _ _ (by show xs.length - (f + (bestR W l (xs.drop f)).1.toNat) < xs.length - f; omega) ⟨rfl, rfl, rfl, rfl, rfl, rfl, rfl, trivial⟩ ⟨(((u74.next u90 (fun i hi (h : i = bk39) => show i = bk39 by first | omega | assumption)).next u96 (fun _ _ h => h.elim)).next u104 (fun i hi (h : (i = g2 ∧ w62.heap.size ≤ i)) => show i = bk39 by first | omega | assumption)), (by show f + (bestR W l (xs.drop f)).1.toNat ≤ xs.length ∧ l - 1 ≤ 10; omega), (by show (rs ++ [_]) ++ rowsR W (l - 1) (xs.drop (f + (bestR W l (xs.drop f)).1.toNat)) = _; rw [← hgo, hst, hdd, List.append_assoc]; rfl), (by show 0 ≤ (bestR W (l - 1) (xs.drop (f + (bestR W l (xs.drop f)).1.toNat))).2; rw [hdd, hl1]; exact hg4), A103, D106, (by show ((rs ++ [(bestR W l (xs.drop f)).1])).length + (l - 1) ≤ 10; simp; omega)⟩
       ·
        refine c_exit (hK69 _ _ (c_seq fun K107 hK107 => ?_))
        have B108 := ((((((B36.keep u42 (fun h => h)).keep u47 (fun h => h)).keep u54 (show ¬ (bk2 = bk39) by first | omega | assumption)).keep u60 (fun h => h)).keep u63 (show ¬ (bk2 = bk57) by first | omega | assumption)).keep u74 (show ¬ (bk2 = bk39) by first | omega | assumption))
        have B109 := (B64.keep u74 (show ¬ (bk57 = bk39) by first | omega | assumption))
        refine WC.weak [(3, .pointer (some ⟨bk2, 0, none⟩)), (6, .slice ao2 rs.length c2), (10, .pointer (some ⟨bk57, 0, none⟩))] ⟨rfl, rfl, rfl, trivial⟩ (c_drawn followsS' 9 [some (64, some (.slice ao2 rs.length c2)), some (65, some (.pointer (some ⟨bk2, 0, none⟩))), some (66, some (.int .i64 boat.len)), some (67, some (.pointer (some ⟨bk57, 1, none⟩))), some (68, some (.int .i64 ((bestR W 10 (xs.drop 0)).2))), some (69, some (.int .i64 (boat.len + ((bestR W 10 (xs.drop 0)).2)))), some (6, some (.slice ao2 rs.length c2)), some (7, some (.int .i64 (boat.len + ((bestR W 10 (xs.drop 0)).2)))), some (8, some (.int .i64 0))] [[],[],[1],[],[3],[2,4],[0,0],[5,6,0,1,2,3,4,5,6],[7,0,1,2,3,4,5,6,7]] (fun _ _ w => Upd (fun _ => False) w73 w) rfl rfl rfl (by kernel_rfl) (by kernel_rfl) (Upd.drew _).to ⟨?_, ?_, ?_, ?_, ?_, ?_, ?_, ?_, ?_, trivial⟩ ?_)
        · exact pz rfl rfl rfl rfl fun _ _ _ h => h
        · exact pzf Try.underlying23 rfl Try.sizeOf3 (0) rfl rfl rfl rfl rfl fun _ _ _ h => h
        ·
         intro D ρ w110 hcD hnD hdD hW
         have zhW := hW.size
         refine ⟨_, kf_fr [65], fun Lr => ?_⟩
         have B113 := (B108.keep hW (fun h => h))
         refine t_load Try.isAgg3 rfl rfl rfl (B113.get rfl) ?_
         exact dz rfl hW
        · exact pzf Try.underlying119 rfl Try.sizeOf3 (1) rfl rfl rfl rfl rfl fun _ _ _ h => h
        ·
         intro D ρ w114 hcD hnD hdD hW
         have zhW := hW.size
         refine ⟨_, kf_fr [67], fun Lr => ?_⟩
         have B117 := (B109.keep hW (fun h => h))
         refine t_load Try.isAgg3 rfl rfl rfl (B117.get rfl) ?_
         exact dz rfl hW
        ·
         intro D ρ w118 hcD hnD hdD hW
         have zhW := hW.size
         refine ⟨_, kf_fr [66, 68], fun Lr => ?_⟩
         refine t_ari rfl rfl rfl rfl rfl (by omega) ?_
         exact dz rfl hW
        · exact pz rfl rfl rfl rfl fun _ _ _ h => h
        · exact pz rfl rfl rfl rfl fun _ _ _ h => h
        · exact pz rfl rfl rfl rfl fun _ _ _ h => h
        intro ρ w121 hW
        have u122 : Upd (fun _ => False) w73 w121 := hW
        have zu122 := u122.size
        have E123 := E81.next u122 (fun _ _ h => h.elim)
        refine QK.weak [(6, .slice ao2 rs.length c2), (7, .int .i64 (boat.len + ((bestR W 10 (xs.drop 0)).2))), (8, .int .i64 0)] ⟨rfl, rfl, rfl, trivial⟩ (hK107 _ _ (c_ret (f_ret3 (v1 := .slice ao2 rs.length c2) (v2 := .int .i64 (boat.len + ((bestR W 10 (xs.drop 0)).2))) (v3 := .int .i64 0) Try.results18 rfl rfl rfl ?_)))
        have D124 := (hacc.keep u122 (fun _ h => h))
        have hrs : rs = rowsR W 10 xs := by rw [← hgo, List.drop_eq_nil_of_le (by omega)]; cases l <;> simp [rowsR]
        have hE : StkE boat xs W = 0 := by simp only [StkE, hok, g14]; simp only [Bool.not_true, Bool.or_self, Bool.false_eq_true, if_false, if_neg (show ¬ 30 < xs.length by omega), if_neg (Decidable.not_not.2 g26x), if_neg g31, if_neg (show ¬ (bestR W 10 xs).2 < 0 by simpa using g45)]
        have hR : StkR boat xs W = rs := by rw [StkR, if_pos hE, hrs]
        have hN : StkN boat xs W = boat.len + (bestR W 10 xs).2 := by rw [StkN, if_pos hE]
        exact ⟨ao2, g2, c2, by rw [hR, hN, hE]; rfl, by rw [hR]; exact (D124.sl (fun _ => rfl)), E123⟩

end Go.Proofs.Ytmicjleiheoieaa
