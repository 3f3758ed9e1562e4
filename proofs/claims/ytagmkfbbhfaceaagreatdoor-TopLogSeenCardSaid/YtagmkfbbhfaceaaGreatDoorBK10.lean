/-
  Part 10 of the proof: contracts and plain laws. Conditions: none.
-/
import Derived.Lib.AtoiTie
import Derived.Lib.AtoiOr
import Derived.Lib.ItoaMem
import Derived.Lib.SplitLaws
import Derived.Lib.IndexBytes
import Derived.Test.YtagmkfbbhfaceaaGreatDoorBK9
namespace Go.Proofs.YtagmkfbbhfaceaaGreatDoor
open Go Go.RowKit
set_option maxRecDepth 10000
/-! ### a log's groups: what is damaged can be restored -/
/-- byte j of blocks f, f+1, .., taken together -/
def bxA (v : List Bk) (f j : Nat) : Nat → UInt8
  | 0 => 0
  | n + 1 => bxA v f j n ^^^ nth (nth v (f + n)).l j
def bxK (v : List Bk) (k f j : Nat) : Nat → UInt8
  | 0 => 0
  | n + 1 => if f + n = k then bxK v k f j n else bxK v k f j n ^^^ nth (nth v (f + n)).l j
theorem xor_zero (a : UInt8) : a ^^^ 0 = a := by simp
theorem xor_self' (a : UInt8) : a ^^^ a = 0 := by simp
theorem xor_comm' (a b : UInt8) : a ^^^ b = b ^^^ a := UInt8.xor_comm a b
theorem xor_assoc' (a b c : UInt8) : a ^^^ b ^^^ c = a ^^^ (b ^^^ c) := UInt8.xor_assoc a b c
theorem xor_eq {a b : UInt8} (h : a ^^^ b = 0) : a = b := by
  have h1 : a ^^^ b ^^^ b = 0 ^^^ b := by rw [h]
  rw [xor_assoc', xor_self', xor_zero] at h1
  rw [h1, xor_comm', xor_zero]
theorem bxA_K (v : List Bk) (k f j : Nat) : ∀ n, bxA v f j n = bxK v k f j n ^^^ (if f ≤ k ∧ k < f + n then nth (nth v k).l j else 0)
  | 0 => by
    show (0 : UInt8) = 0 ^^^ _
    rw [if_neg (by omega)]; rfl
  | n + 1 => by
    show bxA v f j n ^^^ nth (nth v (f + n)).l j = (if f + n = k then bxK v k f j n else bxK v k f j n ^^^ nth (nth v (f + n)).l j) ^^^ _
    rw [bxA_K v k f j n]
    by_cases h : f + n = k
    · rw [if_pos h, if_neg (by omega), if_pos (by omega), h, xor_zero]
    · rw [if_neg h]
      by_cases h2 : f ≤ k ∧ k < f + n
      · rw [if_pos h2, if_pos (by omega), xor_assoc', xor_comm' (nth (nth v k).l j), ← xor_assoc']
      · rw [if_neg h2, if_neg (by omega), xor_zero, xor_zero]
theorem mix_nth {a b : Bk} {j : Nat} (hj : j < 30) : nth (a.mix b).l j = nth a.l j ^^^ nth b.l j := by
  have ha := a.h
  have hb := b.h
  show nth (List.zipWith (· ^^^ ·) (a.l.take 30) (b.l.take 30) ++ a.l.drop 30) j = _
  have h1 : (List.zipWith (· ^^^ ·) (a.l.take 30) (b.l.take 30)).length = 30 := by rw [List.length_zipWith, blk30, blk30]; rfl
  rw [nth_app_l (by omega), nth_eq (by omega), List.getElem_zipWith, List.getElem_take, List.getElem_take, nth_eq (by omega), nth_eq (by omega)]
theorem zero_nth {j : Nat} (hj : j < 32) : nth zeroBk.l j = 0 := nth_rep hj
theorem mixG_nth (v : List Bk) (k f : Nat) {j : Nat} (hj : j < 30) : ∀ n, nth (mixG v k f n).l j = bxK v k f j n
  | 0 => zero_nth (by omega)
  | n + 1 => by
    unfold mixG bxK
    split
    · exact mixG_nth v k f hj n
    · rw [mix_nth hj, mixG_nth v k f hj n]
theorem shut_take (b : Bk) (k : Nat) : (b.shutB k).l.take 30 = b.l.take 30 := by
  have := blk30 b
  show (b.l.take 30 ++ chkP b.l k).take 30 = _
  rw [List.take_append_of_le_length (by omega), List.take_of_length_le (by omega)]
theorem shut_nth (b : Bk) (k : Nat) {j : Nat} (hj : j < 30) : nth (b.shutB k).l j = nth b.l j := by
  have h := congrArg (fun l => nth l j) (shut_take b k)
  simpa only [nth_takeL hj] using h
theorem chkP_take {a b : List UInt8} (k : Nat) (h : a.take 30 = b.take 30) : chkP a k = chkP b k := by
  unfold chkP chkN; rw [h]
theorem shut_eq {a b : Bk} (k : Nat) (h : a.l.take 30 = b.l.take 30) : a.shutB k = b.shutB k := by
  apply Bk.ext'
  show a.l.take 30 ++ chkP a.l k = b.l.take 30 ++ chkP b.l k
  rw [h, chkP_take k h]
theorem shut_sound (b : Bk) (k : Nat) : (b.shutB k).l.drop 30 = chkP (b.shutB k).l k := by
  have := blk30 b
  rw [chkP_take k (shut_take b k)]
  show (b.l.take 30 ++ chkP b.l k).drop 30 = _
  rw [List.drop_append_of_le_length (by omega), List.drop_of_length_le (by omega), List.nil_append]
/-- a block that is sound is what its seal makes of it -/
theorem sound_shut {b : Bk} {k : Nat} (h : b.l.drop 30 = chkP b.l k) : b.shutB k = b := by
  apply Bk.ext'
  show b.l.take 30 ++ chkP b.l k = b.l
  rw [← h, List.take_append_drop]
/-- blocks in groups: each is sound, and each group's bytes cancel out -/
structure GoodV (v : List Bk) : Prop where
  two : 2 ≤ v.length
  mod : v.length % 5 ≠ 1
  ok : ∀ k, k < v.length → (nth v k).l.drop 30 = chkP (nth v k).l k
  par : ∀ f, f % 5 = 0 → f < v.length → ∀ j, j < 30 → bxA v f j (min 5 (v.length - f)) = 0
theorem foldR_v (s : List Bk × Bk) : ∀ (ds : List Bk), ∃ g, (ds.foldl nextR s).1 = s.1 ++ g ∧ g.length = ds.length ∧ (∀ i, i < ds.length → nth g i = (nth ds i).shutB (s.1.length + i)) := by
  intro ds
  induction ds generalizing s with
  | nil => exact ⟨[], by simp, rfl, fun i h => absurd h (Nat.not_lt_zero _)⟩
  | cons d ds ih =>
    obtain ⟨g, h1, h2, h3⟩ := ih (nextR s d)
    refine ⟨d.shutB s.1.length :: g, ?_, by rw [List.length_cons, List.length_cons, h2], fun i hi => ?_⟩
    · rw [List.foldl_cons, h1]
      show s.1 ++ [d.shutB s.1.length] ++ g = _
      rw [List.append_assoc]; rfl
    · cases i with
      | zero => rfl
      | succ i =>
        have e1 : nth (d.shutB s.1.length :: g) (i + 1) = nth g i := rfl
        have e2 : nth (d :: ds) (i + 1) = nth ds i := rfl
        rw [e1, e2, h3 i (by simpa using hi)]
        show (nth ds i).shutB ((s.1 ++ [d.shutB s.1.length]).length + i) = _
        rw [List.length_append, List.length_cons, List.length_nil, show s.1.length + (0 + 1) + i = s.1.length + (i + 1) by omega]
/-- the parity of data -/
def bxD (ds : List Bk) (j : Nat) : Nat → UInt8
  | 0 => 0
  | n + 1 => bxD ds j n ^^^ nth (nth ds n).l j
theorem foldR_p (v : List Bk) (ds : List Bk) {j : Nat} (hj : j < 30) : ∀ n, n ≤ ds.length → nth ((ds.take n).foldl nextR (v, zeroBk)).2.l j = bxD ds j n
  | 0, _ => zero_nth (by omega)
  | n + 1, h => by
    rw [foldR_snoc (by omega)]
    show nth (((ds.take n).foldl nextR (v, zeroBk)).2.mix (nth ds n)).l j = bxD ds j n ^^^ nth (nth ds n).l j
    rw [mix_nth hj, foldR_p v ds hj n (by omega)]
/-- one group -/
theorem group_ok (v ds : List Bk) (_h4 : ds.length ≤ 4) : ∃ g, shutG (ds.foldl nextR (v, zeroBk)) = v ++ g ∧ g.length = ds.length + 1 ∧ (∀ i, i < g.length → (nth g i).l.drop 30 = chkP (nth g i).l (v.length + i)) ∧ ∀ j, j < 30 → bxA g 0 j g.length = 0 := by
  obtain ⟨g, h1, h2, h3⟩ := foldR_v (v, zeroBk) ds
  have hl : (ds.foldl nextR (v, zeroBk)).1.length = v.length + ds.length := by rw [foldR_len]
  refine ⟨g ++ [(ds.foldl nextR (v, zeroBk)).2.shutB (v.length + ds.length)], ?_, by rw [List.length_append, h2]; rfl, fun i hi => ?_, fun j hj => ?_⟩
  · unfold shutG
    rw [hl, h1, List.append_assoc]
  · rw [List.length_append, h2] at hi
    have hi : i < ds.length + 1 := hi
    by_cases q : i < ds.length
    · rw [nth_app_l (by omega), h3 i q]; exact shut_sound _ _
    · rw [nth_app_r (by omega), show i - g.length = 0 by omega, show v.length + i = v.length + ds.length by omega]
      exact shut_sound _ _
  · rw [List.length_append, h2]
    show bxA _ 0 j ds.length ^^^ nth (nth (g ++ [(ds.foldl nextR (v, zeroBk)).2.shutB (v.length + ds.length)]) (0 + ds.length)).l j = 0
    have e1 : nth (g ++ [(ds.foldl nextR (v, zeroBk)).2.shutB (v.length + ds.length)]) (0 + ds.length) = (ds.foldl nextR (v, zeroBk)).2.shutB (v.length + ds.length) := by
      rw [Nat.zero_add, nth_app_r (by omega), show ds.length - g.length = 0 by omega]; rfl
    have e2 : ∀ n, n ≤ ds.length → bxA (g ++ [(ds.foldl nextR (v, zeroBk)).2.shutB (v.length + ds.length)]) 0 j n = bxD ds j n := by
      intro n
      induction n with
      | zero => intro _; rfl
      | succ n ih =>
        intro hn
        show bxA _ 0 j n ^^^ nth (nth (g ++ [(ds.foldl nextR (v, zeroBk)).2.shutB (v.length + ds.length)]) (0 + n)).l j = bxD ds j n ^^^ nth (nth ds n).l j
        rw [ih (by omega), Nat.zero_add, nth_app_l (by omega), h3 n (by omega), shut_nth _ _ hj]
    have e3 := foldR_p v ds hj ds.length (Nat.le_refl _)
    rw [List.take_length] at e3
    rw [e1, shut_nth _ _ hj, e3, e2 _ (Nat.le_refl _), xor_self']
theorem bxA_shift (u g r : List Bk) (j : Nat) : ∀ n, n ≤ g.length → bxA (u ++ (g ++ r)) u.length j n = bxA g 0 j n
  | 0, _ => rfl
  | n + 1, h => by
    show bxA _ u.length j n ^^^ nth (nth (u ++ (g ++ r)) (u.length + n)).l j = bxA g 0 j n ^^^ nth (nth g (0 + n)).l j
    rw [bxA_shift u g r j n (by omega), nth_app_r (by omega), Nat.add_sub_cancel_left, nth_app_l (by omega), Nat.zero_add]
theorem grp_good : ∀ (n : Nat) (u ds : List Bk), ds.length ≤ n → u.length % 5 = 0 → ∃ r, grpN n u ds = u ++ r ∧ (0 < ds.length → 2 ≤ r.length ∧ (u.length + r.length) % 5 ≠ 1 ∧ 4 * r.length ≤ 5 * ds.length + 4) ∧ (ds.length = 0 → r = []) ∧ (∀ k, k < r.length → (nth r k).l.drop 30 = chkP (nth r k).l (u.length + k)) ∧
    ∀ f, f % 5 = 0 → u.length ≤ f → f < u.length + r.length → ∀ j, j < 30 → bxA (u ++ r) f j (min 5 (u.length + r.length - f)) = 0 := by
  intro n
  induction n with
  | zero =>
    intro u ds h _
    have : ds = [] := List.length_eq_zero_iff.1 (by omega)
    subst this
    exact ⟨[], by simp [grpN], fun h => absurd h (Nat.lt_irrefl _), fun _ => rfl, fun k hk => absurd hk (Nat.not_lt_zero _), fun f _ h1 h2 => by simp at h2; omega⟩
  | succ n ih =>
    intro u ds h h5
    by_cases h0 : ds.length = 0
    · have : ds = [] := List.length_eq_zero_iff.1 h0
      subst this
      exact ⟨[], by simp [grpN], fun h => absurd h (Nat.lt_irrefl _), fun _ => rfl, fun k hk => absurd hk (Nat.not_lt_zero _), fun f _ h1 h2 => by simp at h2; omega⟩
    · obtain ⟨g, g1, g2, g3, g4⟩ := group_ok u (ds.take 4) (by rw [List.length_take]; omega)
      have hgl : g.length = min 4 ds.length + 1 := by rw [g2, List.length_take]
      have hgr : grpN (n + 1) u ds = grpN n (u ++ g) (ds.drop 4) := by
        conv => lhs; unfold grpN
        rw [if_neg h0, g1]
      by_cases h4 : ds.length ≤ 4
      · have hd : ds.drop 4 = [] := List.drop_of_length_le h4
        refine ⟨g, by rw [hgr, hd, grpN_nil], fun _ => by omega, fun h => absurd h h0, g3, fun f hf h1 h2 j hj => ?_⟩
        have hfu : f = u.length := by omega
        subst hfu
        have e := bxA_shift u g [] j (min 5 (u.length + g.length - u.length)) (by omega)
        rw [List.append_nil] at e
        rw [e, show min 5 (u.length + g.length - u.length) = g.length by omega]
        exact g4 j hj
      · have hg5 : g.length = 5 := by omega
        obtain ⟨r, r1, r2, r3, r4, r5⟩ := ih (u ++ g) (ds.drop 4) (by rw [List.length_drop]; omega) (by rw [List.length_append]; omega)
        have r2 := r2 (by rw [List.length_drop]; omega)
        rw [List.length_append, List.length_drop] at r2
        rw [List.length_append] at r4 r5
        refine ⟨g ++ r, by rw [hgr, r1, List.append_assoc], fun _ => by rw [List.length_append]; omega, fun h => absurd h h0, fun k hk => ?_, fun f hf h1 h2 j hj => ?_⟩
        · rw [List.length_append] at hk
          by_cases q : k < g.length
          · rw [nth_app_l q]; exact g3 k q
          · rw [nth_app_r (by omega)]
            have := r4 (k - g.length) (by omega)
            rwa [show u.length + g.length + (k - g.length) = u.length + k by omega] at this
        · rw [List.length_append] at h2 ⊢
          by_cases q : f = u.length
          · subst q
            rw [bxA_shift u g r j _ (by omega), show min 5 (u.length + (g.length + r.length) - u.length) = g.length by omega]
            exact g4 j hj
          · have := r5 f hf (by omega) (by omega) j hj
            rwa [List.append_assoc, show u.length + g.length + r.length - f = u.length + (g.length + r.length) - f by omega] at this
theorem chunk_few : ∀ (n : Nat) (t : List UInt8), t.length ≤ n → 240 * (chunk t).length ≤ t.length + 240
  | 0, t, h => by
    rw [chunk_eq, if_pos (by omega)]; simp
  | n + 1, t, h => by
    rw [chunk_eq]
    split
    · simp
    · have := chunk_few n (t.drop 240) (by rw [List.length_drop]; omega)
      rw [List.length_drop] at this
      rw [List.length_cons]; omega
theorem fill_good (t : List UInt8) : GoodV (fillP t) ∧ 960 * (fillP t).length ≤ 5 * t.length + 2160 := by
  have e : fillP t = grpN ((chunk t).map blkOf).length [] ((chunk t).map blkOf) := by rw [fillP_eq, grp_eq _ _ [] (Nat.le_refl _) rfl]
  have hc : 0 < ((chunk t).map blkOf).length := by
    rw [List.length_map, chunk_eq]
    split <;> simp
  obtain ⟨r, r1, r2, r3, r4, r5⟩ := grp_good ((chunk t).map blkOf).length [] ((chunk t).map blkOf) (Nat.le_refl _) rfl
  rw [List.nil_append] at r1
  have hr := r2 hc
  have z : (([] : List Bk).length) = 0 := rfl
  simp only [z, Nat.zero_add] at hr r4 r5
  have hcf := chunk_few t.length t (Nat.le_refl _)
  rw [List.length_map] at hr
  rw [e, r1]
  refine ⟨?_, by omega⟩
  exact ⟨hr.1, hr.2.1, r4, fun f hf hl j hj => by have := r5 f hf (Nat.zero_le _) hl j hj; rwa [List.nil_append] at this⟩
/-- each block can be restored out of the others of its group -/
theorem GoodV.rst_eq {v : List Bk} (h : GoodV v) {k : Nat} (hk : k < v.length) : rst v k = nth v k := by
  have hg : gF k % 5 = 0 ∧ gF k ≤ k ∧ k ≤ gF k + 4 := by unfold gF; omega
  have hn : gL v.length k + 1 - gF k = min 5 (v.length - gF k) := by unfold gL; omega
  have ht : (mixG v k (gF k) (gL v.length k + 1 - gF k)).l.take 30 = (nth v k).l.take 30 := by
    refine list_ext (by rw [blk30, blk30]) fun j hj => ?_
    rw [blk30] at hj
    rw [nth_takeL hj, nth_takeL hj, mixG_nth v k (gF k) hj, hn]
    have h1 := h.par (gF k) hg.1 (by omega) j hj
    rw [bxA_K v k (gF k) j, if_pos (by omega)] at h1
    exact xor_eq h1
  unfold rst
  rw [shut_eq k ht]
  exact sound_shut (h.ok k hk)
theorem mixG_congr {u v : List Bk} {k f : Nat} : ∀ {n : Nat}, (∀ o, o < n → f + o ≠ k → nth u (f + o) = nth v (f + o)) → mixG u k f n = mixG v k f n
  | 0, _ => rfl
  | n + 1, h => by
    unfold mixG
    split
    · exact mixG_congr (fun o ho => h o (by omega))
    · rename_i hne
      rw [mixG_congr (fun o ho => h o (by omega)), h n (by omega) hne]
/-- blocks of which at most one in each group is damaged are restored -/
theorem fix_good {v : List Bk} (h : GoodV v) : ∀ (r : List Nat) (p : Int) (u : List Bk), u.length = v.length → (∀ k ∈ r, k < v.length ∧ p < ((gF k : Nat) : Int)) → r.Pairwise (fun a b => a < gF b) → (∀ k, k < v.length → k ∉ r → nth u k = nth v k) → fixG p u r = some v
  | [], p, u, hl, _, _, hs => by
    show some u = some v
    rw [list_ext hl (fun i hi => hs i (by omega) (by simp))]
  | k :: r, p, u, hl, hp, hw, hs => by
    have hk := hp k List.mem_cons_self
    obtain ⟨hw1, hw2⟩ := List.pairwise_cons.1 hw
    have hr : rst u k = nth v k := by
      rw [← h.rst_eq hk.1]
      unfold rst
      rw [hl]
      congr 1
      refine mixG_congr fun o ho hne => hs _ ?_ ?_
      · unfold gL at ho; omega
      · intro hm
        rcases List.mem_cons.1 hm with e | hm
        · exact hne e
        · have h1 := hw1 _ hm
          unfold gL at ho
          unfold gF at *
          omega
    rw [fix_step (by omega), hr]
    refine fix_good h r (k : Int) (u.set k (nth v k)) (by rw [List.length_set]; exact hl) (fun q hq => ⟨(hp q (List.mem_cons_of_mem _ hq)).1, by have := hw1 q hq; omega⟩) hw2 (fun q hq hn => ?_)
    by_cases e : q = k
    · subst e; rw [nth_setE (by omega)]
    · rw [nth_setN e]
      exact hs q hq (fun hm => (List.mem_cons.1 hm).elim e hn)
/-! ### damage is seen: a sound block with one byte changed is not sound -/
def Bk.put (b : Bk) (j : Nat) (x : UInt8) : Bk := ⟨b.l.set j x, by rw [List.length_set]; exact b.h⟩
theorem wsum_set (x : UInt8) : ∀ (l : List UInt8) (i j : Nat), j < l.length → wsum i (l.set j x) = wsum i l + ((i : Int) + j + 1) * ((x.toNat : Int) - ((nth l j).toNat : Int))
  | [], _, _, h => absurd h (Nat.not_lt_zero _)
  | b :: l, i, 0, _ => by
    have e : nth (b :: l) 0 = b := rfl
    simp only [List.set_cons_zero, wsum, e, Int.mul_sub]
    have h0 : ((i : Int) + ((0 : Nat) : Int) + 1) = (i : Int) + 1 := by omega
    rw [h0]; omega
  | b :: l, i, j + 1, h => by
    have e : nth (b :: l) (j + 1) = nth l j := rfl
    have ih := wsum_set x l (i + 1) j (by simpa using h)
    simp only [List.set_cons_succ, wsum, e]
    rw [ih, show ((i + 1 : Nat) : Int) + (j : Int) + 1 = (i : Int) + ((j + 1 : Nat) : Int) + 1 by omega]
    omega
theorem chkP_inj {a b : List UInt8} {k : Nat} (h : chkP a k = chkP b k) : chkN a k = chkN b k := by
  have ha := chkN_range a k
  have hb := chkN_range b k
  unfold chkP at h
  injection h with h1 h2
  injection h2 with h2 _
  have h1 := congrArg UInt8.toNat h1
  have h2 := congrArg UInt8.toNat h2
  rw [UInt8.toNat_ofNat', UInt8.toNat_ofNat'] at h1 h2
  omega
theorem u8_ne {a b : UInt8} (h : a ≠ b) : (a.toNat : Int) ≠ (b.toNat : Int) := fun e => h (UInt8.toNat_inj.1 (by omega))
theorem bad_put {b : Bk} {k j : Nat} {x : UInt8} (hs : b.l.drop 30 = chkP b.l k) (hj : j < 32) (hx : x ≠ nth b.l j) : ¬ (b.put j x).l.drop 30 = chkP (b.put j x).l k := by
  intro h
  have hb := b.h
  have e0 : (b.put j x).l = b.l.set j x := rfl
  rw [e0] at h
  by_cases q : j < 30
  · have e1 : (b.l.set j x).drop 30 = b.l.drop 30 := by rw [List.drop_set, if_pos q]
    have e2 : (b.l.set j x).take 30 = (b.l.take 30).set j x := List.take_set
    rw [e1, hs] at h
    have h3 := chkP_inj h
    unfold chkN weighP at h3
    rw [e2, wsum_set x _ 0 j (by rw [List.length_take]; omega), nth_takeL q] at h3
    have hd : (x.toNat : Int) - ((nth b.l j).toNat : Int) ≠ 0 := by have := u8_ne hx; omega
    have r1 := x.toNat_lt
    have r2 := (nth b.l j).toNat_lt
    obtain ⟨d, hd9⟩ : ∃ d : Int, d = (x.toNat : Int) - ((nth b.l j).toNat : Int) := ⟨_, rfl⟩
    rw [← hd9] at h3 hd
    obtain ⟨D, hD⟩ : ∃ D : Int, D = (((0 : Nat) : Int) + j + 1) * d := ⟨_, rfl⟩
    rw [← hD] at h3
    have hD0 : D ≠ 0 := by rw [hD]; exact Int.mul_ne_zero (by omega) hd
    have hDb : -7650 ≤ D ∧ D ≤ 7650 := by
      by_cases hp : 0 ≤ d
      · have h9 := mul_bound (a := (((0 : Nat) : Int) + j + 1)) (b := d) (n := 30) (by omega) (by omega) hp (by omega)
        omega
      · have h9 := mul_bound (a := (((0 : Nat) : Int) + j + 1)) (b := -d) (n := 30) (by omega) (by omega) (by omega) (by omega)
        rw [Int.mul_neg] at h9
        omega
    omega
  · have e2 : (b.l.set j x).take 30 = b.l.take 30 := by rw [List.take_set, List.set_eq_of_length_le (by rw [List.length_take]; omega)]
    rw [chkP_take k e2, ← hs] at h
    have h9 := congrArg (fun l => nth l (j - 30)) h
    simp only [nth_drop] at h9
    rw [show 30 + (j - 30) = j by omega, nth_setE (by omega)] at h9
    exact hx h9
theorem xor_ne {a d : UInt8} (h : d ≠ 0) : a ^^^ d ≠ a := fun e => h (by
  have h1 : a ^^^ (a ^^^ d) = a ^^^ a := by rw [e]
  rw [← xor_assoc', xor_self', xor_comm', xor_zero] at h1
  exact h1)
theorem bytesP_put (x : UInt8) : ∀ (v : List Bk) (k j : Nat), k < v.length → j < 32 → (bytesP v).set (32 * k + j) x = bytesP (v.set k ((nth v k).put j x))
  | [], _, _, h, _ => absurd h (Nat.not_lt_zero _)
  | b :: v, 0, j, _, hj => by
    have hb := b.h
    have e : bytesP (b :: v) = b.l ++ bytesP v := rfl
    have e2 : nth (b :: v) 0 = b := rfl
    rw [e, e2, Nat.mul_zero, Nat.zero_add, List.set_append_left _ _ (by omega)]; rfl
  | b :: v, k + 1, j, h, hj => by
    have hb := b.h
    have e : bytesP (b :: v) = b.l ++ bytesP v := rfl
    have e2 : nth (b :: v) (k + 1) = nth v k := rfl
    rw [e, e2, List.set_append_right _ _ (by omega), show 32 * (k + 1) + j - b.l.length = 32 * k + j by omega, bytesP_put x v k j (by simpa using h) hj]; rfl
theorem bytesP_nth : ∀ (v : List Bk) (k j : Nat), k < v.length → j < 32 → nth (bytesP v) (32 * k + j) = nth (nth v k).l j
  | [], _, _, h, _ => absurd h (Nat.not_lt_zero _)
  | b :: v, 0, j, _, hj => by
    have hb := b.h
    have e : bytesP (b :: v) = b.l ++ bytesP v := rfl
    have e2 : nth (b :: v) 0 = b := rfl
    rw [e, e2, Nat.mul_zero, Nat.zero_add, nth_app_l (by omega)]
  | b :: v, k + 1, j, h, hj => by
    have hb := b.h
    have e : bytesP (b :: v) = b.l ++ bytesP v := rfl
    have e2 : nth (b :: v) (k + 1) = nth v k := rfl
    rw [e, e2, nth_app_r (by omega), show 32 * (k + 1) + j - b.l.length = 32 * k + j by omega, bytesP_nth v k j (by simpa using h) hj]
/-! ### damage, group by group -/
structure Dmg (v U : List Bk) (m : Nat) (ks : List Nat) : Prop where
  len : U.length = v.length
  lt : ∀ k ∈ ks, k < m ∧ k < v.length ∧ badB U k = true
  ok : ∀ k, k < v.length → k ∉ ks → nth U k = nth v k
  pw : ks.Pairwise (fun a b => a < gF b)
theorem Dmg.nil (v : List Bk) : Dmg v v 0 [] := ⟨rfl, fun k h => absurd h (by simp), fun _ _ _ => rfl, List.Pairwise.nil⟩
theorem Dmg.mono {v U : List Bk} {m m' : Nat} {ks : List Nat} (h : Dmg v U m ks) (hm : m ≤ m') : Dmg v U m' ks := ⟨h.len, fun k hk => ⟨by have := (h.lt k hk).1; omega, (h.lt k hk).2⟩, h.ok, h.pw⟩
theorem badB_congr {u v : List Bk} {k : Nat} (h : nth u k = nth v k) : badB u k = badB v k := by unfold badB; rw [h]
theorem Dmg.same {v U : List Bk} {m k : Nat} {ks : List Nat} (h : Dmg v U m ks) (hm : m ≤ k) (hk : k < v.length) : nth U k = nth v k := h.ok k hk (fun hq => by have := (h.lt k hq).1; omega)
theorem badB_set {U : List Bk} {k : Nat} {c : Bk} (hk : k < U.length) (h : ¬ c.l.drop 30 = chkP c.l k) : badB (U.set k c) k = true := by
  unfold badB
  rw [nth_setE hk, decide_eq_false h]; rfl
theorem Dmg.step {v U : List Bk} {m m' k : Nat} {ks : List Nat} {c : Bk} (h : Dmg v U m ks) (h5 : m % 5 = 0) (h1 : m ≤ k) (h2 : k < m + 5) (hm : k < m') (hk : k < v.length) (hc : ¬ c.l.drop 30 = chkP c.l k) : Dmg v (U.set k c) m' (ks ++ [k]) := by
  have hl := h.len
  refine ⟨by rw [List.length_set]; exact hl, fun q hq => ?_, fun q hq hn => ?_, ?_⟩
  · rcases List.mem_append.1 hq with hq | hq
    · have h9 := h.lt q hq
      exact ⟨by omega, h9.2.1, by rw [badB_congr (nth_setN (by omega) c)]; exact h9.2.2⟩
    · simp only [List.mem_singleton] at hq
      subst hq
      exact ⟨hm, hk, badB_set (by omega) hc⟩
  · have hne : q ≠ k := fun e => hn (by rw [e]; simp)
    rw [nth_setN hne]
    exact h.ok q hq (fun hm => hn (List.mem_append_left _ hm))
  · rw [List.pairwise_append]
    refine ⟨h.pw, List.pairwise_singleton _ _, fun a ha b hb => ?_⟩
    simp only [List.mem_singleton] at hb
    subst hb
    have := (h.lt a ha).1
    unfold gF; omega
theorem sorted_eq : ∀ {a b : List Nat}, a.Pairwise (· < ·) → b.Pairwise (· < ·) → (∀ x, x ∈ a ↔ x ∈ b) → a = b
  | [], [], _, _, _ => rfl
  | [], y :: b, _, _, h => absurd ((h y).2 List.mem_cons_self) (by simp)
  | x :: a, [], _, _, h => absurd ((h x).1 List.mem_cons_self) (by simp)
  | x :: a, y :: b, ha, hb, h => by
    obtain ⟨ha1, ha2⟩ := List.pairwise_cons.1 ha
    obtain ⟨hb1, hb2⟩ := List.pairwise_cons.1 hb
    have e : x = y := by
      rcases List.mem_cons.1 ((h x).1 List.mem_cons_self) with e | e
      · exact e
      · rcases List.mem_cons.1 ((h y).2 List.mem_cons_self) with e' | e'
        · exact e'.symm
        · have := hb1 _ e; have := ha1 _ e'; omega
    subst e
    rw [sorted_eq ha2 hb2 (fun z => ?_)]
    constructor
    · intro hz
      rcases List.mem_cons.1 ((h z).1 (List.mem_cons_of_mem _ hz)) with e | e
      · have := ha1 _ hz; omega
      · exact e
    · intro hz
      rcases List.mem_cons.1 ((h z).2 (List.mem_cons_of_mem _ hz)) with e | e
      · have := hb1 _ hz; omega
      · exact e
theorem badP_sorted (v : List Bk) : (badP v).Pairwise (· < ·) := by
  unfold badP
  exact List.Pairwise.filter _ List.pairwise_lt_range
theorem badP_iff {v : List Bk} {k : Nat} : k ∈ badP v ↔ k < v.length ∧ badB v k = true := by
  unfold badP
  rw [List.mem_filter, List.mem_range]
theorem Dmg.bad {v U : List Bk} {m : Nat} {ks : List Nat} (h : Dmg v U m ks) (hg : GoodV v) : badP U = ks := by
  refine sorted_eq (badP_sorted U) (h.pw.imp (fun h => Nat.lt_of_lt_of_le h (gF_le _))) fun k => ?_
  rw [badP_iff, h.len]
  constructor
  · rintro ⟨hk, hb⟩
    by_cases q : k ∈ ks
    · exact q
    · rw [badB_congr (h.ok k hk q)] at hb
      unfold badB at hb
      rw [decide_eq_true (hg.ok k hk)] at hb
      cases hb
  · intro hk; exact (h.lt k hk).2
theorem opE_bytes {v : List Bk} (hv : GoodV v) (h13 : v.length ≤ 1300) {U : List Bk} (hU : U.length = v.length) : opE (bytesP U) = 0 ∧ opP (bytesP U) = U := by
  have h2 := hv.two
  have h3 := hv.mod
  have e0 : opE (bytesP U) = 0 := by unfold opE; rw [bytesP_len, if_neg (by omega), if_neg (by omega)]
  refine ⟨e0, ?_⟩
  unfold opP
  rw [if_pos e0, bytesP_len, show 32 * U.length / 32 = U.length by omega, blksP_of]
theorem Dmg.rep {v U : List Bk} {m : Nat} {ks : List Nat} (h : Dmg v U m ks) (hv : GoodV v) (h13 : v.length ≤ 1300) : repR (bytesP U) = (bytesP v, nats ks, 0) := by
  obtain ⟨e0, e1⟩ := opE_bytes hv h13 h.len
  unfold repR
  rw [if_neg (by omega), e1, h.bad hv, fix_good hv ks (-1) U h.len (fun k hk => ⟨(h.lt k hk).2.1, by omega⟩) h.pw h.ok]
theorem gF_mono {a b : Nat} (h : a ≤ b) : gF a ≤ gF b := by unfold gF; omega
theorem fix_two : ∀ (r : List Nat) (p : Int) (w : List Bk), r.Pairwise (· < ·) → ∀ a b, a ∈ r → b ∈ r → a < b → gF b ≤ a → fixG p w r = none
  | [], _, _, _, _, _, h, _, _, _ => absurd h (by simp)
  | k :: r, p, w, hp, a, b, ha, hb, hab, hg => by
    obtain ⟨hp1, hp2⟩ := List.pairwise_cons.1 hp
    by_cases q : ((gF k : Nat) : Int) ≤ p
    · exact fix_none q
    · rw [fix_step q]
      have hb' : b ∈ r := by
        rcases List.mem_cons.1 hb with e | e
        · exfalso
          rcases List.mem_cons.1 ha with e' | e'
          · omega
          · have := hp1 _ e'; omega
        · exact e
      rcases List.mem_cons.1 ha with e | e
      · subst e
        cases r with
        | nil => exact absurd hb' (by simp)
        | cons h r =>
          have hh : h ≤ b := by
            rcases List.mem_cons.1 hb' with e | e
            · omega
            · have := (List.pairwise_cons.1 hp2).1 _ e; omega
          have := gF_mono hh
          exact fix_none (by omega)
      · exact fix_two r k _ hp2 a b e hb' hab hg
theorem Dmg.none {v U : List Bk} {m k o : Nat} {ks : List Nat} {c : Bk} (h : Dmg v U m (k :: ks)) (hv : GoodV v) (h13 : v.length ≤ 1300) (ho : o < v.length) (hok : o ≠ k) (hog : gF o = gF k) (hc : ¬ c.l.drop 30 = chkP c.l o) : repR (bytesP (U.set o c)) = ([], [], 121) := by
  have hl : (U.set o c).length = v.length := by rw [List.length_set]; exact h.len
  obtain ⟨e0, e1⟩ := opE_bytes hv h13 hl
  have hk := h.lt k List.mem_cons_self
  have mk : k ∈ badP (U.set o c) := badP_iff.2 ⟨by omega, by rw [badB_congr (nth_setN (fun e => hok e.symm) c)]; exact hk.2.2⟩
  have mo : o ∈ badP (U.set o c) := badP_iff.2 ⟨by omega, badB_set (by rw [h.len]; exact ho) hc⟩
  have hn : fixG (-1) (U.set o c) (badP (U.set o c)) = Option.none := by
    rcases Nat.lt_or_gt_of_ne hok with q | q
    · exact fix_two _ _ _ (badP_sorted _) o k mo mk q (by rw [← hog]; exact gF_le o)
    · exact fix_two _ _ _ (badP_sorted _) k o mk mo q (by rw [hog]; exact gF_le k)
  unfold repR
  rw [if_neg (by omega), e1, hn]
theorem Dmg.first {v U : List Bk} {m k o : Nat} {ks : List Nat} (h : Dmg v U m (k :: ks)) (ho : o < v.length) (hok : o ≠ k) (hog : gF o = gF k) : nth U o = nth v o := by
  refine h.ok o ho fun hm => ?_
  rcases List.mem_cons.1 hm with e | e
  · exact hok e
  · have h9 := (List.pairwise_cons.1 h.pw).1 _ e
    have := gF_le k
    omega
/-! ### the law's own parts -/
end Go.Proofs.YtagmkfbbhfaceaaGreatDoor
namespace Go.Proofs.YtagmkfbbhfaceaaGreatDoor
open Go Go.RowKit
set_option maxRecDepth 10000
/-! ### a decoder's results -/
def okD (i len : Nat) (R : Int × Int × Int) : Prop := R.2.2 = 0 → (0 ≤ R.1 ∧ R.1 ≤ 1000000000) ∧ (i : Int) < R.2.1 ∧ R.2.1 ≤ (i : Int) + (len : Int)
theorem decG_ok : ∀ (l : List UInt8) (z : Nat) (lf n : Int) (i : Nat), (0 ≤ lf → 1 ≤ lf ∧ 1 ≤ n) → okD i l.length (decG z lf n i l)
  | [], _, _, _, _, _ => fun e => by cases e
  | c :: r, z, lf, n, i, h => by
    have ih : ∀ (z : Nat) (lf n : Int), (0 ≤ lf → 1 ≤ lf ∧ 1 ≤ n) → okD i (r.length + 1) (decG z lf n (i + 1) r) := fun z lf n h e => by
      have := decG_ok r z lf n (i + 1) h e
      omega
    rw [List.length_cons]
    unfold decG
    split
    · intro e; cases e
    · rename_i hc
      split
      · split
        · intro e; cases e
        · exact ih _ _ _ h
      · split
        · rename_i h1
          split
          · intro _
            exact ⟨⟨Int.le_refl 0, (by show (0 : Int) ≤ 1000000000; decide)⟩, (by show (i : Int) < (i : Int) + 1; omega), (by show (i : Int) + 1 ≤ (i : Int) + ((r.length + 1 : Nat) : Int); omega)⟩
          · exact ih z z 1 (fun _ => ⟨by omega, by decide⟩)
        · rename_i h1
          have hb : 0 ≤ (c.toNat : Int) - 48 := by
            by_cases q : c = 48
            · subst q; decide
            · by_cases q2 : c = 49
              · subst q2; decide
              · exact absurd ⟨q, q2⟩ hc
          have h2 := h (by omega)
          split
          · split
            · intro e; cases e
            · intro _
              exact ⟨⟨(by show 0 ≤ 2 * n + ((c.toNat : Int) - 48) - 1; omega), (by show 2 * n + ((c.toNat : Int) - 48) - 1 ≤ 1000000000; omega)⟩, (by show (i : Int) < (i : Int) + 1; omega), (by show (i : Int) + 1 ≤ (i : Int) + ((r.length + 1 : Nat) : Int); omega)⟩
          · exact ih z (lf - 1) _ (fun _ => ⟨by omega, by omega⟩)
theorem decP_ok {l : List UInt8} (h : (decP l).2.2 = 0) : (0 ≤ (decP l).1 ∧ (decP l).1 ≤ 1000000000) ∧ 0 < (decP l).2.1 ∧ (decP l).2.1 ≤ (l.length : Int) := by
  have := decG_ok l 0 (-1) 0 0 (fun h => absurd h (by decide)) h
  unfold decP
  omega
/-! ### a log is parsed -/
/-- what is left of a tape, and whether it broke off -/
structure Scr where
  r : List UInt8
  b : Bool
instance : Inhabited Scr := ⟨⟨[], false⟩⟩
def cdV (s : Scr) : Int := if (decP s.r).2.2 = 0 then (decP s.r).1 else 0
def cdS (s : Scr) : Scr := if (decP s.r).2.2 = 0 then ⟨s.r.drop (decP s.r).2.1.toNat, s.b⟩ else ⟨s.r, true⟩
def d48 (c : UInt8) : Int := (c.toNat : Int) - 48
def knd (s : Scr) : Int := 1 + 2 * d48 (nth s.r 0) + d48 (nth s.r 1)
def s2_ (s : Scr) : Scr := ⟨s.r.drop 2, s.b⟩
/-- an entry is parsed, m minutes being said -/
def entV (s : Scr) (m : Int) : Ent :=
  if s.r.length < 2 then ⟨0, 0, 0, 0, 0, 0⟩
  else if plK (knd s) then ⟨m + cdV (s2_ s), knd s, 1 + cdV (cdS (s2_ s)), cdV (cdS (cdS (s2_ s))), 0, 0⟩
  else ⟨m + cdV (s2_ s), knd s, 1 + cdV (cdS (s2_ s)), 0, 1 + cdV (cdS (cdS (s2_ s))), 1 + cdV (cdS (cdS (cdS (s2_ s))))⟩
def entS (s : Scr) : Scr :=
  if s.r.length < 2 then ⟨s.r, true⟩
  else if plK (knd s) then cdS (cdS (cdS (s2_ s))) else cdS (cdS (cdS (cdS (s2_ s))))
def parN : Nat → Scr → Int → List Ent → List Ent × Scr
  | 0, s, _, E => (E, s)
  | n + 1, s, m, E => if s.b = true then (E, s) else parN n (entS s) (entV s m).m (E ++ [entV s m])
/-- the entries of a tape, and whether it broke off -/
def parP (t : List UInt8) : List Ent × Scr := parN (cdV ⟨t, false⟩ + 1).toNat (cdS ⟨t, false⟩) 0 []
def bitL (l : List UInt8) : Prop := ∀ c ∈ l, c = 48 ∨ c = 49
theorem cdV_r (s : Scr) : 0 ≤ cdV s ∧ cdV s ≤ 1000000000 := by
  unfold cdV
  split
  · rename_i h; exact (decP_ok h).1
  · decide
theorem cdS_r (s : Scr) : (cdS s).r.length ≤ s.r.length ∧ ((cdS s).b = false → s.b = false) ∧ (bitL s.r → bitL (cdS s).r) := by
  unfold cdS
  split
  · exact ⟨by show (s.r.drop _).length ≤ _; rw [List.length_drop]; omega, fun h => h, fun h c hc => h c (List.mem_of_mem_drop hc)⟩
  · exact ⟨Nat.le_refl _, (fun h => by cases h), fun h => h⟩
theorem bit_nth {l : List UInt8} (h : bitL l) {i : Nat} (hi : i < l.length) : 0 ≤ d48 (nth l i) ∧ d48 (nth l i) ≤ 1 := by
  have h9 : nth l i = 48 ∨ nth l i = 49 := h _ (nth_mem hi)
  unfold d48
  rcases h9 with e | e <;> rw [e] <;> decide
theorem entS_r (s : Scr) : (entS s).r.length ≤ s.r.length ∧ (2 ≤ s.r.length → (entS s).r.length + 2 ≤ s.r.length) ∧ (s.r.length < 2 → (entS s).b = true) ∧ (bitL s.r → bitL (entS s).r) := by
  unfold entS
  split
  · rename_i h; exact ⟨Nat.le_refl _, fun h2 => by omega, fun _ => rfl, fun h => h⟩
  · rename_i h
    have e0 : (s2_ s).r.length + 2 = s.r.length := by show (s.r.drop 2).length + 2 = _; rw [List.length_drop]; omega
    have b0 : bitL s.r → bitL (s2_ s).r := fun h c hc => h c (List.mem_of_mem_drop hc)
    have h1 := cdS_r (s2_ s)
    have h2 := cdS_r (cdS (s2_ s))
    have h3 := cdS_r (cdS (cdS (s2_ s)))
    have h4 := cdS_r (cdS (cdS (cdS (s2_ s))))
    split
    · exact ⟨by omega, fun _ => by omega, fun q => absurd q h, fun q => h3.2.2 (h2.2.2 (h1.2.2 (b0 q)))⟩
    · exact ⟨by omega, fun _ => by omega, fun q => absurd q h, fun q => h4.2.2 (h3.2.2 (h2.2.2 (h1.2.2 (b0 q))))⟩
theorem entV_m (s : Scr) (m : Int) (h0 : 0 ≤ m) : 0 ≤ (entV s m).m ∧ (entV s m).m ≤ m + 1000000000 := by
  have := cdV_r (s2_ s)
  unfold entV
  split
  · exact ⟨Int.le_refl 0, by show (0 : Int) ≤ _; omega⟩
  · split
    · exact ⟨by show 0 ≤ m + _; omega, by show m + _ ≤ m + _; omega⟩
    · exact ⟨by show 0 ≤ m + _; omega, by show m + _ ≤ m + _; omega⟩
theorem parN_stop {n : Nat} {s : Scr} {m : Int} {E : List Ent} (h : s.b = true) : parN n s m E = (E, s) := by
  cases n with
  | zero => rfl
  | succ n => show (if _ then _ else _) = _; rw [if_pos h]
theorem parN_step {n : Nat} {s : Scr} {m : Int} {E : List Ent} (h : s.b = false) : parN (n + 1) s m E = parN n (entS s) (entV s m).m (E ++ [entV s m]) := by
  show (if _ then _ else _) = _
  rw [if_neg (by rw [h]; decide)]
/-- the digits of a log's data -/
def tapG (v : List Bk) (n k : Nat) : List UInt8 := if k = gL n k then [] else digs ((nth v k).l.take 30)
def tapB (v : List Bk) : Nat → List UInt8
  | 0 => []
  | k + 1 => tapB v k ++ tapG v v.length k
theorem digs_bits (l : List UInt8) : bitL (digs l) := fun c hc => by
  unfold digs at hc
  obtain ⟨x, _, hx⟩ := List.mem_flatMap.1 hc
  exact putP_bits _ _ c hx
theorem tapG_len (v : List Bk) (n k : Nat) : (tapG v n k).length ≤ 240 ∧ bitL (tapG v n k) := by
  unfold tapG
  split
  · exact ⟨by decide, fun c hc => by cases hc⟩
  · exact ⟨by rw [digs_len, blk30]; decide, digs_bits _⟩
theorem tapB_len (v : List Bk) : ∀ k, (tapB v k).length ≤ 240 * k ∧ bitL (tapB v k)
  | 0 => ⟨by show (0 : Nat) ≤ 0; exact Nat.le_refl _, fun c hc => by cases hc⟩
  | k + 1 => by
    have h1 := tapB_len v k
    have h2 := tapG_len v v.length k
    refine ⟨?_, fun c hc => ?_⟩
    · show (tapB v k ++ tapG v v.length k).length ≤ _
      rw [List.length_append]; omega
    · rcases List.mem_append.1 hc with h | h
      · exact h1.2 c h
      · exact h2.2 c h
/-- what the readers return -/
def readR (b : List UInt8) : List Ent × Int × Int :=
  if opE b ≠ 0 then ([], 0, opE b)
  else match badP (opP b) with
    | k :: _ => ([], (k : Int), 121)
    | [] => if (parP (tapB (opP b) (opP b).length)).2.b = true ∨ chkE (parP (tapB (opP b) (opP b).length)).1 ≠ 0 ∨ writeP (parP (tapB (opP b) (opP b).length)).1 ≠ opP b then ([], 0, 4)
      else ((parP (tapB (opP b) (opP b).length)).1, 0, 0)
/-- the first unsound block -/
theorem badP_head {v : List Bk} {k : Nat} (hk : k < v.length) (hb : badB v k = true) (hn : ∀ i, i < k → badB v i = false) : ∃ r, badP v = k :: r := by
  have h1 : (List.range k).filter (badB v) = [] := List.filter_eq_nil_iff.2 fun i hi => by rw [hn i (List.mem_range.1 hi)]; decide
  obtain ⟨d, hd⟩ : ∃ d, v.length = (k + 1) + d := ⟨v.length - (k + 1), by omega⟩
  refine ⟨((List.range d).map (fun x => k + 1 + x)).filter (badB v), ?_⟩
  unfold badP
  rw [hd, List.range_add, List.filter_append, filter_succ, h1, if_pos hb]; rfl
theorem badP_nil {v : List Bk} (hn : ∀ i, i < v.length → badB v i = false) : badP v = [] := by
  unfold badP
  exact List.filter_eq_nil_iff.2 fun i hi => by rw [hn i (List.mem_range.1 hi)]; decide

end Go.Proofs.YtagmkfbbhfaceaaGreatDoor
namespace Go.Proofs.YtagmkfbbhfaceaaGreatDoor
open Go Go.RowKit Go.Proofs.Tryz
set_option maxRecDepth 10000
theorem y_ldY {rd : Option Nat} {P : Program} {ops : Array Oper} {Q : Exit → Act → World → Prop} {N : Nat} {ds : List Deferred} {T : Nat → Prop} {w1 : World} {L : Slots} {w : World} {rest : OX} {d : Nat} {ty : TypeId} {pos : String} {aft : Array Edge} {g : Option (Nat × Bool)} {t : TypeId} {x : Operand} {n b off : Nat} {l : List UInt8} (ha : ∀ w, (isAgg t).run P w = .ok true w) (hs : ∀ w, (sizeOf t).run P w = .ok n w) (hg : grd ops L g = true) (hN : Nat.blt d N = true)
    (hx : ev L x = some (.pointer (some ⟨b, off, none⟩))) (hc : At w1 b off (ys l)) (hl : l.length = n) (hn : ¬ T b)
    (h : SC rd P ops Q N ds w1 (SW w1.heap.size T) rest ((d, .agg (ys l).toArray) :: L) w) : SC rd P ops Q N ds w1 (SW w1.heap.size T) (.look ⟨some d, .load t x, ty, pos, aft, g⟩ rest) L w :=
  y_loadN ha hs hg hN hx hc (by rw [ys_length]; exact hl) hn h

set_option maxHeartbeats 4000000 in
theorem tape_c (v : List Bk) (av : Option Addr) (bv ov cv : Nat) (w0 : World) (hv : Sl encBk 32 w0 av bv ov v) (hvl : v.length ≤ 1300) (hpos : 0 < w0.heap.size) :
    CallsV Tryz.prog 37 [.slice av v.length cv] w0 (fun v' w' => (∃ a9 g9 c9, v' = .slice a9 (List.length (tapB v v.length)) c9 ∧ Acc encY 1 5 w0.heap.size w' a9 g9 c9 (tapB v v.length)) ∧ Ext w0 w') := by
 refine f_n func37 ?_
 refine go ?_
 refine x_n fun bk2 w3 ebk2 sbk2 B4 u5 => ?_
 have hN7 : Acc encY 1 5 w3.heap.size w3 none 0 0 ([] : List UInt8) := Acc.nil _ _ _ _ _ (by omega) (Nat.le_refl _)
 have lt_0 := hN7.lt
 refine go ?_
 refine x_l5 (fun i => i = bk2 ∨ (i = 0 ∧ w3.heap.size ≤ i)) [0, 2, 9, 10] (fun (k : Nat) (a1 : Option Addr) (g1 : Nat) (c1 : Nat) (cur : List UInt8) => [(11, .int .i64 (k : Int))]) (fun k a1 g1 c1 cur w => Blk w bk2 118 [.slice a1 cur.length c1] ∧ (k ≤ v.length) ∧ (Acc encY 1 5 w3.heap.size w a1 g1 c1 cur) ∧ (cur = tapB v k) ∧ ((g1 = 0 ∨ w3.heap.size ≤ g1))) (fun k a1 g1 c1 cur => v.length - k) 0 none 0 0 ([] : List UInt8) ⟨B4, (Nat.zero_le _), hN7, rfl, (.inl rfl)⟩ ?_
 rintro k a1 g1 c1 cur w11 ⟨I13, hk, hA, hcu, hg1⟩ u12 zu12 K10 hK10
 have E14 := Sc.mk (((Upd.refl (fun _ => False) w0).nx u5).next u12 (fun i hi h => by omega))
 have lt_g1 := hA.lt
 have htb := (tapB_len v k).1
 have hcl := congrArg List.length hcu
 refine go ?_
 refine q_p (fun g12 => ?_) fun g12 => ?_
 ·
  have h30 := blk30 (nth v k)
  refine go ?_
  refine g_i k (hv.keep E14.u (fun _ h => h)) (fun _ => ?_)
  refine t_ldY (l := (nth v k).l) isAgg111 sizeOf111 rfl rfl rfl ((hv.keep E14.u (fun _ h => h)).at_ k (by omega)) (Bk.h (nth v k)) (t_alloc (cs := (ys (List.replicate 32 (0 : UInt8)))) zeroValue111 (by kernel_rfl) rfl rfl (fun bk20 w21 ebk20 sbk20 B22 u23 => ?_))
  refine go ?_
  refine t_stY sizeOf111 rfl rfl rfl B22 (Bk.h (nth v k)) (by rw [ys_length]; exact (by first | omega | simp | assumption)) (fun w25 sw25 B27 u26 => ?_)
  refine go ?_
  refine x_c func34 rfl rfl (group_c v.length k av cv _ (by omega) (by omega)) ?_
  rintro _ w32 ⟨rfl, u33⟩ zu33
  refine go ?_
  refine q_p (fun g24 => ?_) fun g24 => ?_
  ·
   refine go ?_
   have B37 := (((I13.kx u23).keep u26 (by omega)).kx u33)
   have D38 := (((hA.keep u23 (fun _ h => h)).keep u26 (fun hb => show ¬ (g1 = bk20) by first | omega | assumption)).keep u33 (fun _ h => h))
   exact hK10 (k + 1) a1 g1 c1 cur ⟨B37, (by omega), D38, (by show _ = tapB v k ++ tapG v v.length k; unfold tapG; rw [if_pos (by omega), List.append_nil]; exact hcu), (by omega)⟩
  refine go ?_
  refine t_arrS 0 30 underlying111 sizeOf5 rfl rfl rfl (.inr ⟨rfl, rfl⟩) (k := .i64) (m := 0) (x1 := .tmp 0) (.inl ⟨rfl, rfl, rfl⟩) (by omega) (by omega) (by omega) (t_same 25 (v := .slice (some ⟨bk20, 0 + 0 * 1, none⟩) (((nth v k).l.take 30).length) 32) rfl (by rw [h30]) ?_)
  refine go ?_
  have D40 := (((hA.keep u23 (fun _ h => h)).keep u26 (fun hb => show ¬ (g1 = bk20) by first | omega | assumption)).keep u33 (fun _ h => h))
  have B41 := (((I13.kx u23).keep u26 (by omega)).kx u33)
  refine x_l5 (fun i => i = bk2 ∨ (i = g1 ∧ w3.heap.size ≤ i)) [0, 2, 9, 10, 11, 25, 26] (fun (j : Nat) (a2 : Option Addr) (g2 : Nat) (c2 : Nat) (cur2 : List UInt8) => [(27, .int .i64 (j : Int))]) (fun j a2 g2 c2 cur2 w => Blk w bk2 118 [.slice a2 cur2.length c2] ∧ (j ≤ 30) ∧ (Acc encY 1 5 w3.heap.size w a2 g2 c2 cur2) ∧ (cur2 = (tapB v k ++ digs (((nth v k).l.take 30).take j))) ∧ ((g2 = g1 ∨ w32.heap.size ≤ g2))) (fun j a2 g2 c2 cur2 => 30 - j) 0 a1 g1 c1 cur ⟨B41, (Nat.zero_le _), D40, (by rw [hcu]; exact (List.append_nil _).symm), (.inl rfl)⟩ ?_
  rintro j a2 g2 c2 cur2 w43 ⟨I45, hj, hA2, hcu2, hg2⟩ u44 zu44 K42 hK42
  have lt_g2 := hA2.lt
  have hcl2 := congrArg List.length hcu2
  rw [List.length_append, digs_len, List.length_take, h30] at hcl2
  have hub := (nth ((nth v k).l.take 30) j).toNat_lt
  refine go ?_
  refine q_p (fun g28 => ?_) fun g28 => ?_
  ·
   refine go ?_
   have B51 := ((B27.kx u33).keep u44 (by omega))
   refine g_i j (by have h9 := (B51).at.ysub 0 30; rw [List.drop_zero] at h9; exact SlY.at (B51).lt h9) (fun _ => ?_)
   refine go ?_
   refine t_conv underlying5 underlying175 rfl rfl rfl (IntWalk.u64_in _ (by omega)) ?_
   refine x_c func72 rfl rfl (put_c ((nth ((nth v k).l.take 30) j).toNat) 8 bk2 w3.heap.size a2 g2 c2 cur2 _ I45 hA2 (by omega) (by omega) (by omega) (by omega) (by omega)) ?_
   rintro v54 w55 ⟨⟨at53, gt53, ct53, hBt53, hAt53, hGt53⟩, u56⟩ zu56
   have lt_gt53 := hAt53.lt
   refine go ?_
   exact hK42 (j + 1) at53 gt53 ct53 (cur2 ++ putP ((nth ((nth v k).l.take 30) j).toNat) 8) ⟨hBt53, (by omega), hAt53, (by rw [take_nth (show j < ((nth v k).l.take 30).length by omega), digs_app, ← List.append_assoc, ← hcu2]; show _ = cur2 ++ (putP _ 8 ++ []); rw [List.append_nil]), (by omega)⟩
  refine go ?_
  exact hK10 (k + 1) a2 g2 c2 cur2 ⟨I45, (by omega), hA2, (by rw [hcu2, show j = 30 by omega, List.take_of_length_le (by rw [blk30]; decide)]; show _ = tapB v k ++ tapG v v.length k; unfold tapG; rw [if_neg (by omega)]), (by omega)⟩
 refine go ?_
 refine x_s fun w60 sw60 B62 u61 => ?_
 refine go ?_
 refine f_ret1 (v := .slice a1 cur.length c1) results37 ⟨_, _, rfl, run_loadVar1 isAgg118 (B62.get rfl)⟩ ?_
 have D64 := (hA.keep u61 (fun hb => show ¬ (g1 = bk2) by first | omega | assumption))
 have hfin : cur = tapB v v.length := by rw [hcu, show k = v.length by omega]
 obtain ⟨gz, hz⟩ := Acc.lower (base' := w0.heap.size) D64 (by omega) hpos
 rw [hfin] at hz
 exact ⟨⟨a1, gz, c1, by rw [hfin], hz⟩, u_d⟩

theorem tapeE_c (v : List Bk) (av : Option Addr) (bv ov cv : Nat) (w0 : World) (hv : Sl encBk 32 w0 av bv ov v) (hvl : v.length ≤ 1300) (hpos : 0 < w0.heap.size) :
    CallsV Tryz.prog 37 [.slice av v.length cv] w0 fun v' w' => (∃ T a9 g9 c9, v' = .slice a9 (List.length T) c9 ∧ Acc encY 1 5 w0.heap.size w' a9 g9 c9 T ∧ T = tapB v v.length) ∧ Ext w0 w' :=
  CallsV.mono (tape_c v av bv ov cv w0 hv hvl hpos) (by rintro v' w' ⟨⟨a, g, c, rfl, h⟩, u⟩; exact ⟨⟨_, a, g, c, rfl, h, rfl⟩, u⟩)

theorem eqBk_c (a b : List Bk) (aa : Option Addr) (ba oa ca : Nat) (ab : Option Addr) (bb ob cb : Nat) (w0 : World) (ha : Sl encBk 32 w0 aa ba oa a) (hb : Sl encBk 32 w0 ab bb ob b) (hal : a.length ≤ 1000000) :
    CallsV Tryz.prog 40 [.slice aa a.length ca, .slice ab b.length cb] w0 (fun v w' => v = .bool (decide (a = b)) ∧ Ext w0 w') := by
 refine f_n func40 ?_
 refine go ?_
 refine q_p (fun g10 => ?_) fun g10 => ?_
 ·
  refine go ?_
  refine f_1 results40 ?_
  exact ⟨congrArg Value.bool (decide_eq_false (fun e => g10 (by rw [e]))).symm, u_d⟩
 refine go ?_
 refine x_l1 (fun _ => False) [0, 1, 12] (fun (j : Nat) => [(13, .int .i64 (j : Int))]) (fun j w => (j ≤ a.length) ∧ (a.take j = b.take j)) (fun j => a.length - j) 0 ⟨(Nat.zero_le _), rfl⟩ ?_
 rintro j w8 ⟨hj, he⟩ u9 zu9 K7 hK7
 refine go ?_
 refine q_p (fun g14 => ?_) fun g14 => ?_
 ·
  refine go ?_
  refine c_drawnM follows (fun _ => False) (OTl [0, 2, 4, 6, 8, 10, 12, 14, 16]) (by kernel_rfl) fun w16 u17 => ?_
  have zu17 := u17.size
  have E18 := Sc.mk (((Upd.refl (fun _ => False) w0).nx u9).nx u17)
  refine go ?_
  refine y_i j (ha.keep E18.u (fun _ h => h)) (fun _ => ?_)
  refine y_ldY (l := (nth a j).l) isAgg111 sizeOf111 rfl rfl rfl ((ha.keep E18.u (fun _ h => h)).at_ j (by omega)) (Bk.h (nth a j)) (fun h => h) ?_
  refine go ?_
  refine y_i j (hb.keep E18.u (fun _ h => h)) (fun _ => ?_)
  refine y_ldY (l := (nth b j).l) isAgg111 sizeOf111 rfl rfl rfl ((hb.keep E18.u (fun _ h => h)).at_ j (by omega)) (Bk.h (nth b j)) (fun h => h) (y_neS (xs := ys (nth a j).l) (ys := ys (nth b j).l) (by kernel_rfl) (run_eqArrY underlying111 (by kernel_rfl) underlying5 isAgg5 (by kernel_rfl) (Bk.h _) (Bk.h _)) rfl rfl rfl rfl ?_)
  refine go ?_
  refine q_b (fun g24 => ?_) fun g24 => ?_
  ·
   have hq : ¬ (nth a j = nth b j) := fun e => absurd g24 (by rw [e]; simp)
   refine go ?_
   refine f_1 results40 ?_
   exact ⟨congrArg Value.bool (decide_eq_false (nth_take_ne hq)).symm, u_d⟩
  have hq : (nth a j = nth b j) := Bk.ext' (by simpa using g24)
  refine go ?_
  exact hK7 (j + 1) ⟨(by omega), (take_eq he (by omega) (by omega) hq)⟩
 refine go ?_
 refine f_1 results40 ?_
 have hab : a = b := by
   rw [List.take_of_length_le (by omega), List.take_of_length_le (by omega)] at he
   exact he
 exact ⟨congrArg Value.bool (decide_eq_true hab).symm, u_d⟩

end Go.Proofs.YtagmkfbbhfaceaaGreatDoor
namespace Go.Proofs.YtagmkfbbhfaceaaGreatDoor
open Go Go.RowKit
set_option maxRecDepth 10000
/-! ### text in pieces -/
def pcs (c : UInt8) : List UInt8 → List (List UInt8)
  | [] => [[]]
  | x :: r => if x = c then [] :: pcs c r else (x :: (pcs c r).headD []) :: (pcs c r).tail
theorem pcs_cut (c : UInt8) : ∀ (n : Nat) (t : List UInt8), n < t.length → (∀ k, k < n → nth t k ≠ c) → nth t n = c → pcs c t = t.take n :: pcs c (t.drop (n + 1))
  | _, [], h, _, _ => absurd h (Nat.not_lt_zero _)
  | 0, x :: r, _, _, h => by
    have e : x = c := h
    conv => lhs; unfold pcs
    rw [if_pos e]; rfl
  | n + 1, x :: r, hl, hn, h => by
    have e : x ≠ c := hn 0 (Nat.succ_pos n)
    have ih := pcs_cut c n r (by simpa using hl) (fun k hk => hn (k + 1) (Nat.succ_lt_succ hk)) h
    conv => lhs; unfold pcs
    rw [if_neg e, ih]; rfl
theorem pcs_one (c : UInt8) : ∀ (t : List UInt8), (∀ k, k < t.length → nth t k ≠ c) → pcs c t = [t]
  | [], _ => rfl
  | x :: r, h => by
    have e : x ≠ c := h 0 (Nat.succ_pos _)
    have ih := pcs_one c r (fun k hk => h (k + 1) (Nat.succ_lt_succ hk))
    unfold pcs
    rw [if_neg e, ih]; rfl
/-- pieces of s that end ahead of f are done -/
structure PcsI (c : UInt8) (s : List UInt8) (ws : List (List UInt8)) (f i : Nat) : Prop where
  fi : f ≤ i
  eq : pcs c s = ws ++ pcs c (s.drop f)
  no : ∀ k, f ≤ k → k < i → nth s k ≠ c
theorem PcsI.nil (c : UInt8) (s : List UInt8) : PcsI c s [] 0 0 := ⟨Nat.le_refl _, rfl, fun _k _ h => absurd h (Nat.not_lt_zero _)⟩
theorem PcsI.next {c : UInt8} {s : List UInt8} {ws : List (List UInt8)} {f i : Nat} (h : PcsI c s ws f i) (hc : nth s i ≠ c) : PcsI c s ws f (i + 1) :=
  ⟨Nat.le_succ_of_le h.fi, h.eq, fun k h1 h2 => by
    by_cases e : k = i
    · rw [e]; exact hc
    · exact h.no k h1 (by omega)⟩
theorem PcsI.cut {c : UInt8} {s : List UInt8} {ws : List (List UInt8)} {f i : Nat} (h : PcsI c s ws f i) (hi : i < s.length) (hc : nth s i = c) : PcsI c s (ws ++ [(s.drop f).take (i - f)]) (i + 1) (i + 1) := by
  have hf := h.fi
  refine ⟨Nat.le_refl _, ?_, fun k h1 h2 => by omega⟩
  have e := pcs_cut c (i - f) (s.drop f) (by rw [List.length_drop]; omega) (fun k hk => by rw [nth_drop]; exact h.no (f + k) (by omega) (by omega)) (by rw [nth_drop, show f + (i - f) = i by omega]; exact hc)
  rw [h.eq, e, List.drop_drop, List.append_assoc, show f + (i - f + 1) = i + 1 by omega]; rfl
theorem PcsI.last {c : UInt8} {s : List UInt8} {ws : List (List UInt8)} {f : Nat} (h : PcsI c s ws f s.length) : pcs c s = ws ++ [s.drop f] := by
  have e := pcs_one c (s.drop f) (fun k hk => by
    rw [List.length_drop] at hk
    rw [nth_drop]; exact h.no (f + k) (by omega) (by omega))
  rw [h.eq, e]
def WdI (s : List UInt8) (ws : List (List UInt8)) (f i : Nat) : Prop := (i ≤ s.length ∧ PcsI 32 s ws f i) ∨ (i = s.length + 1 ∧ ws = pcs 32 s)
theorem WdI.at_ {s : List UInt8} {ws : List (List UInt8)} {f i : Nat} (h : WdI s ws f i) (hi : i ≤ s.length) : PcsI 32 s ws f i := by
  rcases h with h | h
  · exact h.2
  · omega
theorem WdI.cut {s : List UInt8} {ws : List (List UInt8)} {f i : Nat} (h : WdI s ws f i) (hi : i ≤ s.length) (hc : i = s.length ∨ nth s i = 32) : WdI s (ws ++ [(s.drop f).take (i - f)]) (i + 1) (i + 1) := by
  have h9 := h.at_ hi
  by_cases e : i = s.length
  · refine .inr ⟨by omega, ?_⟩
    subst e
    rw [h9.last, List.take_of_length_le (by rw [List.length_drop]; exact Nat.le_refl _)]
  · exact .inl ⟨by omega, h9.cut (by omega) (hc.resolve_left e)⟩
theorem WdI.next {s : List UInt8} {ws : List (List UInt8)} {f i : Nat} (h : WdI s ws f i) (hi : i ≤ s.length) (hc : ¬ (i = s.length ∨ nth s i = 32)) : WdI s ws f (i + 1) :=
  .inl ⟨by omega, (h.at_ hi).next (fun e => hc (.inr e))⟩
/-! ### digits -/
def isDg (c : UInt8) : Bool := decide (48 ≤ (c.toNat : Int) ∧ (c.toNat : Int) ≤ 57)
end Go.Proofs.YtagmkfbbhfaceaaGreatDoor
namespace Go.Proofs.YtagmkfbbhfaceaaGreatDoor
open Go Go.RowKit
set_option maxRecDepth 10000



end Go.Proofs.YtagmkfbbhfaceaaGreatDoor
namespace Go.Proofs.YtagmkfbbhfaceaaGreatDoor
open Go Go.RowKit
set_option maxRecDepth 10000


end Go.Proofs.YtagmkfbbhfaceaaGreatDoor
namespace Go.Proofs.YtagmkfbbhfaceaaGreatDoor
open Go Go.RowKit
set_option maxRecDepth 10000



end Go.Proofs.YtagmkfbbhfaceaaGreatDoor
namespace Go.Proofs.YtagmkfbbhfaceaaGreatDoor
open Go Go.RowKit
set_option maxRecDepth 10000
/-! ### pieces, joined again -/
/-! ### digits -/
theorem isDg_iff {c : UInt8} : isDg c = true ↔ 48 ≤ c.toNat ∧ c.toNat ≤ 57 := by
  unfold isDg; rw [decide_eq_true_eq]; omega
theorem dgt_of {n : Nat} (h : n < 10) : (UInt8.ofNat (48 + n)).toNat = 48 + n := by
  rw [UInt8.toNat_ofNat', Nat.mod_eq_of_lt (by omega)]
theorem decD_small {n : Nat} (h : n < 10) : Lib.decDigits n = [UInt8.ofNat (48 + n)] := by rw [Lib.decDigits, dif_pos h]
theorem decD_big {n : Nat} (h : ¬ n < 10) : Lib.decDigits n = Lib.decDigits (n / 10) ++ [UInt8.ofNat (48 + n % 10)] := by rw [Lib.decDigits, dif_neg h]
theorem decD_dg (n : Nat) : ∀ c ∈ Lib.decDigits n, isDg c = true := by
  induction n using Nat.strongRecOn with
  | ind n ih =>
    intro c hc
    by_cases h : n < 10
    · rw [decD_small h] at hc
      rw [List.mem_singleton.1 hc, isDg_iff, dgt_of h]; omega
    · rw [decD_big h] at hc
      rcases List.mem_append.1 hc with hc | hc
      · exact ih (n / 10) (by omega) c hc
      · rw [List.mem_singleton.1 hc, isDg_iff, dgt_of (Nat.mod_lt _ (by decide))]; omega
theorem decD_len : ∀ (k n : Nat), n < 10 ^ (k + 1) → (Lib.decDigits n).length ≤ k + 1
  | 0, n, h => by
    rw [decD_small (by omega)]; exact Nat.le_refl _
  | k + 1, n, h => by
    by_cases q : n < 10
    · rw [decD_small q]; simp
    · rw [decD_big q, List.length_append]
      have := decD_len k (n / 10) (by rw [Nat.pow_succ] at h; omega)
      simp only [List.length_cons, List.length_nil]; omega
theorem decD_pos (n : Nat) : 0 < (Lib.decDigits n).length := by
  by_cases q : n < 10
  · rw [decD_small q]; exact Nat.one_pos
  · rw [decD_big q, List.length_append]; simp
theorem itoa_dec {n : Int} (h : 0 ≤ n) : Lib.itoa n = Lib.decDigits n.toNat := by
  have h1 := Lib.itoa_nonneg n.toNat
  rw [Int.toNat_of_nonneg h] at h1; exact h1
/-! ### bills, read -/
def Bil.bare (x : Bil) : Bil := ⟨x.n, x.c, x.t, x.f, x.o, x.s, none, 0, 0, 0⟩
/-! ### the text of a valid bill is parsed as this bill -/
end Go.Proofs.YtagmkfbbhfaceaaGreatDoor
namespace Go.Proofs.YtagmkfbbhfaceaaGreatDoor
open Go Go.RowKit
set_option maxRecDepth 10000
/-! ### gauge lines -/
structure Gau where
  st : Int
  hr : Int
  s : List Int
  ao : Option Addr
  g : Nat
  ob : Nat
  cp : Nat
instance : Inhabited Gau := ⟨⟨0, 0, [], none, 0, 0, 0⟩⟩
def encGau (x : Gau) : List Value := [.int .i64 x.st, .int .i64 x.hr, .slice x.ao x.s.length x.cp]
def okGau (x : Gau) : Bool := decide ((0 ≤ x.st ∧ x.st ≤ 99) ∧ (0 ≤ x.hr ∧ x.hr ≤ 100000) ∧ (1 ≤ x.s.length ∧ x.s.length ≤ 24) ∧ ∀ n ∈ x.s, 0 ≤ n ∧ n ≤ 10000)
theorem okGau_iff {x : Gau} (h : okGau x = true) : (0 ≤ x.st ∧ x.st ≤ 99) ∧ (0 ≤ x.hr ∧ x.hr ≤ 100000) ∧ (1 ≤ x.s.length ∧ x.s.length ≤ 24) ∧ ∀ n ∈ x.s, 0 ≤ n ∧ n ≤ 10000 := of_decide_eq_true h
def aftG (a b : Gau) : Prop := a.st < b.st ∨ (b.st = a.st ∧ a.hr + (a.s.length : Int) ≤ b.hr)
instance (a b : Gau) : Decidable (aftG a b) := by unfold aftG; infer_instance
def dW (d : Int) : List UInt8 := if d < 0 then Lib.itoa d else 43 :: Lib.itoa d
def difG : Int → List Int → List (List UInt8)
  | _, [] => []
  | a, b :: r => dW (b - a) :: difG b r
def wrdG (x : Gau) : List (List UInt8) := [Lib.itoa x.st, Lib.itoa x.hr, Lib.itoa (nth x.s 0)] ++ difG (nth x.s 0) (x.s.drop 1)
def gauP (x : Gau) : List UInt8 := sealedP (wrdG x)
def Gau.bare (x : Gau) : Gau := ⟨x.st, x.hr, x.s, none, 0, 0, 0⟩
theorem difG_take : ∀ (l : List Int) (a : Int) (i : Nat), i < l.length → difG a (l.take (i + 1)) = difG a (l.take i) ++ [dW (nth l i - nth (a :: l) i)]
  | [], _, _, h => absurd h (Nat.not_lt_zero _)
  | x :: r, a, 0, _ => rfl
  | x :: r, a, i + 1, h => by
    have ih := difG_take r x i (by simpa using h)
    show dW (x - a) :: difG x (r.take (i + 1)) = dW (x - a) :: (difG x (r.take i) ++ [dW (nth r i - nth (x :: r) i)])
    rw [ih]
theorem nth_cons_drop {l : List Int} (h : 0 < l.length) (i : Nat) : nth (nth l 0 :: l.drop 1) i = nth l i := by
  cases l with
  | nil => cases h
  | cons a r => rfl
theorem difG_next {l : List Int} {i : Nat} (h : i + 1 < l.length) : difG (nth l 0) ((l.drop 1).take (i + 1)) = difG (nth l 0) ((l.drop 1).take i) ++ [dW (nth l (i + 1) - nth l i)] := by
  rw [difG_take _ _ _ (by rw [List.length_drop]; omega), nth_cons_drop (by omega), nth_drop, Nat.add_comm 1 i]
theorem difG_len : ∀ (l : List Int) (a : Int), (difG a l).length = l.length
  | [], _ => rfl
  | x :: r, a => by show (difG x r).length + 1 = r.length + 1; rw [difG_len r x]
/-! numbers with a sign -/
theorem itoa_minus {d : Int} (h : d < 0) : Lib.itoa d = 45 :: Lib.decDigits (-d).toNat := by
  have h1 := Lib.itoa_neg (-d).toNat (by omega)
  rw [Int.toNat_of_nonneg (by omega), Int.neg_neg] at h1; exact h1
/-! round trips -/
/-! ### gauge files, read -/
/-! ### gauge files, written -/
def aftO : Option Gau → Gau → Prop
  | none, _ => True
  | some q, x => aftG q x
instance (p : Option Gau) (x : Gau) : Decidable (aftO p x) := by cases p <;> unfold aftO <;> infer_instance
def chkGa : Option Gau → List Gau → Int
  | _, [] => 0
  | p, x :: r => if okGau x = true then (if aftO p x then chkGa (some x) r else 6) else 2
def prvG (l : List Gau) (i : Nat) : Option Gau := if i = 0 then none else some (nth l (i - 1))
def textG (l : List Gau) : List UInt8 × Int := if 200 < l.length then ([], 5) else if chkGa none l = 0 then (l.flatMap gauP, 0) else ([], chkGa none l)
theorem chkGa_ok {p : Option Gau} {x : Gau} {r : List Gau} (h1 : okGau x = true) (h2 : aftO p x) : chkGa p (x :: r) = chkGa (some x) r := by
  show (if okGau x = true then _ else _) = _
  rw [if_pos h1, if_pos h2]
theorem dW_len {d : Int} (h : -10000 ≤ d ∧ d ≤ 10000) : (dW d).length ≤ 7 := by
  unfold dW
  by_cases q : d < 0
  · have := decD_len 5 (-d).toNat (by omega)
    rw [if_pos q, itoa_minus q, List.length_cons]; omega
  · have := decD_len 5 d.toNat (by omega)
    rw [if_neg q, itoa_dec (by omega), List.length_cons]; omega
theorem difG_wlen : ∀ (r : List Int) (a : Int), (0 ≤ a ∧ a ≤ 10000) → (∀ n ∈ r, 0 ≤ n ∧ n ≤ 10000) → ∀ w ∈ difG a r, w.length ≤ 7
  | [], _, _, _, w, h => by cases h
  | b :: r, a, ha, hr, w, h => by
    have hb := hr b (List.mem_cons_self ..)
    rcases List.mem_cons.1 (show w ∈ dW (b - a) :: difG b r from h) with h | h
    · rw [h]; exact dW_len (by omega)
    · exact difG_wlen r b hb (fun n hn => hr n (List.mem_cons_of_mem _ hn)) w h
theorem wrdG_len {x : Gau} (h : okGau x = true) : (wrdG x).length = x.s.length + 2 ∧ (Lib.join (wrdG x) [32]).length ≤ 300 := by
  obtain ⟨h1, h2, ⟨h3, h4⟩, h5⟩ := okGau_iff h
  have h0 := h5 _ (nth_mem (xs := x.s) (i := 0) (by omega))
  have hl : (wrdG x).length = x.s.length + 2 := by
    unfold wrdG
    rw [List.length_append, difG_len, List.length_drop]
    simp only [List.length_cons, List.length_nil]; omega
  refine ⟨hl, ?_⟩
  have hw : ∀ w ∈ wrdG x, w.length ≤ 7 := fun w hw => by
    unfold wrdG at hw
    have hi : ∀ n : Int, 0 ≤ n → n ≤ 100000 → (Lib.itoa n).length ≤ 7 := fun n a b => by
      have := decD_len 5 n.toNat (by omega)
      rw [itoa_dec a]; omega
    rcases List.mem_append.1 hw with hw | hw
    · rcases List.mem_cons.1 hw with hw | hw
      · rw [hw]; exact hi _ (by omega) (by omega)
      rcases List.mem_cons.1 hw with hw | hw
      · rw [hw]; exact hi _ (by omega) (by omega)
      · rw [List.mem_singleton.1 hw]; exact hi _ (by omega) (by omega)
    · exact difG_wlen _ _ h0 (fun n hn => h5 n (List.mem_of_mem_drop hn)) w hw
  have h9 := join_len [32] 7 (wrdG x) hw
  rw [hl] at h9
  have h8 : (x.s.length + 2) * (7 + 1) ≤ 26 * 8 := Nat.mul_le_mul_right _ (by omega)
  have h7 : ([32] : List UInt8).length = 1 := rfl
  rw [h7] at h9
  omega
theorem gauP_le {x : Gau} (h : okGau x = true) : (gauP x).length ≤ 304 := by
  have h1 := (wrdG_len h).2
  unfold gauP sealedP
  rw [sealP_len, List.length_append]
  simp only [List.length_cons, List.length_nil]
  omega
/-- the first words of a gauge line -/
def wlG (x : Gau) (i : Nat) : List (List UInt8) := [Lib.itoa x.st, Lib.itoa x.hr, Lib.itoa (nth x.s 0)] ++ difG (nth x.s 0) ((x.s.drop 1).take i)
theorem wlG_next {x : Gau} {i : Nat} (h : i + 1 < x.s.length) : wlG x (i + 1) = wlG x i ++ [dW (nth x.s (i + 1) - nth x.s i)] := by
  unfold wlG
  rw [difG_next h, ← List.append_assoc]
theorem wlG_end {x : Gau} {i : Nat} (h : x.s.length ≤ i + 1) : wlG x i = wrdG x := by
  unfold wlG wrdG
  rw [List.take_of_length_le (by rw [List.length_drop]; omega)]
theorem wlG_len (x : Gau) (i : Nat) : (wlG x i).length ≤ 3 + i := by
  unfold wlG
  rw [List.length_append, difG_len, List.length_take]
  simp only [List.length_cons, List.length_nil]; omega
theorem itoa_sign {d : Int} (h : d < 0) : nth (Lib.itoa d) 0 = 45 ∧ 0 < (Lib.itoa d).length := by
  rw [itoa_minus h]; exact ⟨rfl, Nat.succ_pos _⟩
theorem itoa_nosign {d : Int} (h : 0 ≤ d) : nth (Lib.itoa d) 0 ≠ 45 ∧ 0 < (Lib.itoa d).length := by
  rw [itoa_dec h]
  have hp := decD_pos d.toNat
  refine ⟨fun e => ?_, hp⟩
  have h9 := decD_dg d.toNat _ (nth_mem hp)
  rw [e] at h9
  revert h9; decide
theorem itoa_first {d : Int} : ((nth (Lib.itoa d) 0).toNat ≠ 45 ↔ 0 ≤ d) ∧ 0 < (Lib.itoa d).length := by
  by_cases q : d < 0
  · refine ⟨⟨fun h => ?_, fun h => by omega⟩, (itoa_sign q).2⟩
    rw [(itoa_sign q).1] at h; exact absurd rfl h
  · refine ⟨⟨fun _ => by omega, fun _ h => ?_⟩, (itoa_nosign (by omega)).2⟩
    exact (itoa_nosign (d := d) (by omega)).1 (UInt8.toNat_inj.1 h)

end Go.Proofs.YtagmkfbbhfaceaaGreatDoor
