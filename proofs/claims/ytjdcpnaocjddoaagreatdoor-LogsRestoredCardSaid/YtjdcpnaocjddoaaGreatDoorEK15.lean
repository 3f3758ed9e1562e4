/-
  Part 15 of the proof: contracts and plain laws. Conditions: none.
-/
import Derived.Test.YtjdcpnaocjddoaaGreatDoorEK14
namespace Go.Proofs.YtjdcpnaocjddoaaGreatDoor
open Go Go.RowKit
/-! ### a log's groups: what is damaged can be restored -/
/-- byte j of blocks f, f+1, .., taken together -/
def bxA (v : List Bk) (f j : Nat) : Nat → UInt8
  | 0 => 0
  | n + 1 => bxA v f j n ^^^ nth (nth v (f + n)).l j
def bxK (v : List Bk) (k f j : Nat) : Nat → UInt8
  | 0 => 0
  | n + 1 => if f + n = k then bxK v k f j n else bxK v k f j n ^^^ nth (nth v (f + n)).l j
theorem xor_zero (a : UInt8) : a ^^^ 0 = a := by simp
theorem xor_self' (a : UInt8) : a ^^^ a = 0 := by simp
theorem xor_comm' (a b : UInt8) : a ^^^ b = b ^^^ a := UInt8.xor_comm a b
theorem xor_assoc' (a b c : UInt8) : a ^^^ b ^^^ c = a ^^^ (b ^^^ c) := UInt8.xor_assoc a b c
theorem xor_eq {a b : UInt8} (h : a ^^^ b = 0) : a = b := by
  have h1 : a ^^^ b ^^^ b = 0 ^^^ b := by rw [h]
  rw [xor_assoc', xor_self', xor_zero] at h1
  rw [h1, xor_comm', xor_zero]
theorem bxA_K (v : List Bk) (k f j : Nat) : ∀ n, bxA v f j n = bxK v k f j n ^^^ (if f ≤ k ∧ k < f + n then nth (nth v k).l j else 0)
  | 0 => by
    show (0 : UInt8) = 0 ^^^ _
    rw [if_neg (by omega)]; rfl
  | n + 1 => by
    show bxA v f j n ^^^ nth (nth v (f + n)).l j = (if f + n = k then bxK v k f j n else bxK v k f j n ^^^ nth (nth v (f + n)).l j) ^^^ _
    rw [bxA_K v k f j n]
    by_cases h : f + n = k
    · rw [if_pos h, if_neg (by omega), if_pos (by omega), h, xor_zero]
    · rw [if_neg h]
      by_cases h2 : f ≤ k ∧ k < f + n
      · rw [if_pos h2, if_pos (by omega), xor_assoc', xor_comm' (nth (nth v k).l j), ← xor_assoc']
      · rw [if_neg h2, if_neg (by omega), xor_zero, xor_zero]
theorem mix_nth {a b : Bk} {j : Nat} (hj : j < 30) : nth (a.mix b).l j = nth a.l j ^^^ nth b.l j := by
  have ha := a.h
  have hb := b.h
  show nth (List.zipWith (· ^^^ ·) (a.l.take 30) (b.l.take 30) ++ a.l.drop 30) j = _
  have h1 : (List.zipWith (· ^^^ ·) (a.l.take 30) (b.l.take 30)).length = 30 := by rw [List.length_zipWith, blk30, blk30]; rfl
  rw [nth_app_l (by omega), nth_eq (by omega), List.getElem_zipWith, List.getElem_take, List.getElem_take, nth_eq (by omega), nth_eq (by omega)]
theorem zero_nth {j : Nat} (hj : j < 32) : nth zeroBk.l j = 0 := nth_rep hj
theorem mixG_nth (v : List Bk) (k f : Nat) {j : Nat} (hj : j < 30) : ∀ n, nth (mixG v k f n).l j = bxK v k f j n
  | 0 => zero_nth (by omega)
  | n + 1 => by
    unfold mixG bxK
    split
    · exact mixG_nth v k f hj n
    · rw [mix_nth hj, mixG_nth v k f hj n]
theorem shut_take (b : Bk) (k : Nat) : (b.shutB k).l.take 30 = b.l.take 30 := by
  have := blk30 b
  show (b.l.take 30 ++ chkP b.l k).take 30 = _
  rw [List.take_append_of_le_length (by omega), List.take_of_length_le (by omega)]
theorem shut_nth (b : Bk) (k : Nat) {j : Nat} (hj : j < 30) : nth (b.shutB k).l j = nth b.l j := by
  have h := congrArg (fun l => nth l j) (shut_take b k)
  simpa only [nth_takeL hj] using h
theorem chkP_take {a b : List UInt8} (k : Nat) (h : a.take 30 = b.take 30) : chkP a k = chkP b k := by
  unfold chkP chkN; rw [h]
theorem shut_eq {a b : Bk} (k : Nat) (h : a.l.take 30 = b.l.take 30) : a.shutB k = b.shutB k := by
  apply Bk.ext'
  show a.l.take 30 ++ chkP a.l k = b.l.take 30 ++ chkP b.l k
  rw [h, chkP_take k h]
theorem shut_sound (b : Bk) (k : Nat) : (b.shutB k).l.drop 30 = chkP (b.shutB k).l k := by
  have := blk30 b
  rw [chkP_take k (shut_take b k)]
  show (b.l.take 30 ++ chkP b.l k).drop 30 = _
  rw [List.drop_append_of_le_length (by omega), List.drop_of_length_le (by omega), List.nil_append]
/-- a block that is sound is what its seal makes of it -/
theorem sound_shut {b : Bk} {k : Nat} (h : b.l.drop 30 = chkP b.l k) : b.shutB k = b := by
  apply Bk.ext'
  show b.l.take 30 ++ chkP b.l k = b.l
  rw [← h, List.take_append_drop]
/-- blocks in groups: each is sound, and each group's bytes cancel out -/
structure GoodV (v : List Bk) : Prop where
  two : 2 ≤ v.length
  mod : v.length % 5 ≠ 1
  ok : ∀ k, k < v.length → (nth v k).l.drop 30 = chkP (nth v k).l k
  par : ∀ f, f % 5 = 0 → f < v.length → ∀ j, j < 30 → bxA v f j (min 5 (v.length - f)) = 0
theorem foldR_v (s : List Bk × Bk) : ∀ (ds : List Bk), ∃ g, (ds.foldl nextR s).1 = s.1 ++ g ∧ g.length = ds.length ∧ (∀ i, i < ds.length → nth g i = (nth ds i).shutB (s.1.length + i)) := by
  intro ds
  induction ds generalizing s with
  | nil => exact ⟨[], by simp, rfl, fun i h => absurd h (Nat.not_lt_zero _)⟩
  | cons d ds ih =>
    obtain ⟨g, h1, h2, h3⟩ := ih (nextR s d)
    refine ⟨d.shutB s.1.length :: g, ?_, by rw [List.length_cons, List.length_cons, h2], fun i hi => ?_⟩
    · rw [List.foldl_cons, h1]
      show s.1 ++ [d.shutB s.1.length] ++ g = _
      rw [List.append_assoc]; rfl
    · cases i with
      | zero => rfl
      | succ i =>
        have e1 : nth (d.shutB s.1.length :: g) (i + 1) = nth g i := rfl
        have e2 : nth (d :: ds) (i + 1) = nth ds i := rfl
        rw [e1, e2, h3 i (by simpa using hi)]
        show (nth ds i).shutB ((s.1 ++ [d.shutB s.1.length]).length + i) = _
        rw [List.length_append, List.length_cons, List.length_nil, show s.1.length + (0 + 1) + i = s.1.length + (i + 1) by omega]
/-- the parity of data -/
def bxD (ds : List Bk) (j : Nat) : Nat → UInt8
  | 0 => 0
  | n + 1 => bxD ds j n ^^^ nth (nth ds n).l j
theorem foldR_p (v : List Bk) (ds : List Bk) {j : Nat} (hj : j < 30) : ∀ n, n ≤ ds.length → nth ((ds.take n).foldl nextR (v, zeroBk)).2.l j = bxD ds j n
  | 0, _ => zero_nth (by omega)
  | n + 1, h => by
    rw [foldR_snoc (by omega)]
    show nth (((ds.take n).foldl nextR (v, zeroBk)).2.mix (nth ds n)).l j = bxD ds j n ^^^ nth (nth ds n).l j
    rw [mix_nth hj, foldR_p v ds hj n (by omega)]
/-- one group -/
theorem group_ok (v ds : List Bk) (_h4 : ds.length ≤ 4) : ∃ g, shutG (ds.foldl nextR (v, zeroBk)) = v ++ g ∧ g.length = ds.length + 1 ∧ (∀ i, i < g.length → (nth g i).l.drop 30 = chkP (nth g i).l (v.length + i)) ∧ ∀ j, j < 30 → bxA g 0 j g.length = 0 := by
  obtain ⟨g, h1, h2, h3⟩ := foldR_v (v, zeroBk) ds
  have hl : (ds.foldl nextR (v, zeroBk)).1.length = v.length + ds.length := by rw [foldR_len]
  refine ⟨g ++ [(ds.foldl nextR (v, zeroBk)).2.shutB (v.length + ds.length)], ?_, by rw [List.length_append, h2]; rfl, fun i hi => ?_, fun j hj => ?_⟩
  · unfold shutG
    rw [hl, h1, List.append_assoc]
  · rw [List.length_append, h2] at hi
    have hi : i < ds.length + 1 := hi
    by_cases q : i < ds.length
    · rw [nth_app_l (by omega), h3 i q]; exact shut_sound _ _
    · rw [nth_app_r (by omega), show i - g.length = 0 by omega, show v.length + i = v.length + ds.length by omega]
      exact shut_sound _ _
  · rw [List.length_append, h2]
    show bxA _ 0 j ds.length ^^^ nth (nth (g ++ [(ds.foldl nextR (v, zeroBk)).2.shutB (v.length + ds.length)]) (0 + ds.length)).l j = 0
    have e1 : nth (g ++ [(ds.foldl nextR (v, zeroBk)).2.shutB (v.length + ds.length)]) (0 + ds.length) = (ds.foldl nextR (v, zeroBk)).2.shutB (v.length + ds.length) := by
      rw [Nat.zero_add, nth_app_r (by omega), show ds.length - g.length = 0 by omega]; rfl
    have e2 : ∀ n, n ≤ ds.length → bxA (g ++ [(ds.foldl nextR (v, zeroBk)).2.shutB (v.length + ds.length)]) 0 j n = bxD ds j n := by
      intro n
      induction n with
      | zero => intro _; rfl
      | succ n ih =>
        intro hn
        show bxA _ 0 j n ^^^ nth (nth (g ++ [(ds.foldl nextR (v, zeroBk)).2.shutB (v.length + ds.length)]) (0 + n)).l j = bxD ds j n ^^^ nth (nth ds n).l j
        rw [ih (by omega), Nat.zero_add, nth_app_l (by omega), h3 n (by omega), shut_nth _ _ hj]
    have e3 := foldR_p v ds hj ds.length (Nat.le_refl _)
    rw [List.take_length] at e3
    rw [e1, shut_nth _ _ hj, e3, e2 _ (Nat.le_refl _), xor_self']
theorem bxA_shift (u g r : List Bk) (j : Nat) : ∀ n, n ≤ g.length → bxA (u ++ (g ++ r)) u.length j n = bxA g 0 j n
  | 0, _ => rfl
  | n + 1, h => by
    show bxA _ u.length j n ^^^ nth (nth (u ++ (g ++ r)) (u.length + n)).l j = bxA g 0 j n ^^^ nth (nth g (0 + n)).l j
    rw [bxA_shift u g r j n (by omega), nth_app_r (by omega), Nat.add_sub_cancel_left, nth_app_l (by omega), Nat.zero_add]
theorem grp_good : ∀ (n : Nat) (u ds : List Bk), ds.length ≤ n → u.length % 5 = 0 → ∃ r, grpN n u ds = u ++ r ∧ (0 < ds.length → 2 ≤ r.length ∧ (u.length + r.length) % 5 ≠ 1 ∧ 4 * r.length ≤ 5 * ds.length + 4) ∧ (ds.length = 0 → r = []) ∧ (∀ k, k < r.length → (nth r k).l.drop 30 = chkP (nth r k).l (u.length + k)) ∧
    ∀ f, f % 5 = 0 → u.length ≤ f → f < u.length + r.length → ∀ j, j < 30 → bxA (u ++ r) f j (min 5 (u.length + r.length - f)) = 0 := by
  intro n
  induction n with
  | zero =>
    intro u ds h _
    have : ds = [] := List.length_eq_zero_iff.1 (by omega)
    subst this
    exact ⟨[], by simp [grpN], fun h => absurd h (Nat.lt_irrefl _), fun _ => rfl, fun k hk => absurd hk (Nat.not_lt_zero _), fun f _ h1 h2 => by simp at h2; omega⟩
  | succ n ih =>
    intro u ds h h5
    by_cases h0 : ds.length = 0
    · have : ds = [] := List.length_eq_zero_iff.1 h0
      subst this
      exact ⟨[], by simp [grpN], fun h => absurd h (Nat.lt_irrefl _), fun _ => rfl, fun k hk => absurd hk (Nat.not_lt_zero _), fun f _ h1 h2 => by simp at h2; omega⟩
    · obtain ⟨g, g1, g2, g3, g4⟩ := group_ok u (ds.take 4) (by rw [List.length_take]; omega)
      have hgl : g.length = min 4 ds.length + 1 := by rw [g2, List.length_take]
      have hgr : grpN (n + 1) u ds = grpN n (u ++ g) (ds.drop 4) := by
        conv => lhs; unfold grpN
        rw [if_neg h0, g1]
      by_cases h4 : ds.length ≤ 4
      · have hd : ds.drop 4 = [] := List.drop_of_length_le h4
        refine ⟨g, by rw [hgr, hd, grpN_nil], fun _ => by omega, fun h => absurd h h0, g3, fun f hf h1 h2 j hj => ?_⟩
        have hfu : f = u.length := by omega
        subst hfu
        have e := bxA_shift u g [] j (min 5 (u.length + g.length - u.length)) (by omega)
        rw [List.append_nil] at e
        rw [e, show min 5 (u.length + g.length - u.length) = g.length by omega]
        exact g4 j hj
      · have hg5 : g.length = 5 := by omega
        obtain ⟨r, r1, r2, r3, r4, r5⟩ := ih (u ++ g) (ds.drop 4) (by rw [List.length_drop]; omega) (by rw [List.length_append]; omega)
        have r2 := r2 (by rw [List.length_drop]; omega)
        rw [List.length_append, List.length_drop] at r2
        rw [List.length_append] at r4 r5
        refine ⟨g ++ r, by rw [hgr, r1, List.append_assoc], fun _ => by rw [List.length_append]; omega, fun h => absurd h h0, fun k hk => ?_, fun f hf h1 h2 j hj => ?_⟩
        · rw [List.length_append] at hk
          by_cases q : k < g.length
          · rw [nth_app_l q]; exact g3 k q
          · rw [nth_app_r (by omega)]
            have := r4 (k - g.length) (by omega)
            rwa [show u.length + g.length + (k - g.length) = u.length + k by omega] at this
        · rw [List.length_append] at h2 ⊢
          by_cases q : f = u.length
          · subst q
            rw [bxA_shift u g r j _ (by omega), show min 5 (u.length + (g.length + r.length) - u.length) = g.length by omega]
            exact g4 j hj
          · have := r5 f hf (by omega) (by omega) j hj
            rwa [List.append_assoc, show u.length + g.length + r.length - f = u.length + (g.length + r.length) - f by omega] at this
theorem chunk_few : ∀ (n : Nat) (t : List UInt8), t.length ≤ n → 240 * (chunk t).length ≤ t.length + 240
  | 0, t, h => by
    rw [chunk_eq, if_pos (by omega)]; simp
  | n + 1, t, h => by
    rw [chunk_eq]
    split
    · simp
    · have := chunk_few n (t.drop 240) (by rw [List.length_drop]; omega)
      rw [List.length_drop] at this
      rw [List.length_cons]; omega
theorem fill_good (t : List UInt8) : GoodV (fillP t) ∧ 960 * (fillP t).length ≤ 5 * t.length + 2160 := by
  have e : fillP t = grpN ((chunk t).map blkOf).length [] ((chunk t).map blkOf) := by rw [fillP_eq, grp_eq _ _ [] (Nat.le_refl _) rfl]
  have hc : 0 < ((chunk t).map blkOf).length := by
    rw [List.length_map, chunk_eq]
    split <;> simp
  obtain ⟨r, r1, r2, r3, r4, r5⟩ := grp_good ((chunk t).map blkOf).length [] ((chunk t).map blkOf) (Nat.le_refl _) rfl
  rw [List.nil_append] at r1
  have hr := r2 hc
  have z : (([] : List Bk).length) = 0 := rfl
  simp only [z, Nat.zero_add] at hr r4 r5
  have hcf := chunk_few t.length t (Nat.le_refl _)
  rw [List.length_map] at hr
  rw [e, r1]
  refine ⟨?_, by omega⟩
  exact ⟨hr.1, hr.2.1, r4, fun f hf hl j hj => by have := r5 f hf (Nat.zero_le _) hl j hj; rwa [List.nil_append] at this⟩
/-- each block can be restored out of the others of its group -/
theorem GoodV.rst_eq {v : List Bk} (h : GoodV v) {k : Nat} (hk : k < v.length) : rst v k = nth v k := by
  have hg : gF k % 5 = 0 ∧ gF k ≤ k ∧ k ≤ gF k + 4 := by unfold gF; omega
  have hn : gL v.length k + 1 - gF k = min 5 (v.length - gF k) := by unfold gL; omega
  have ht : (mixG v k (gF k) (gL v.length k + 1 - gF k)).l.take 30 = (nth v k).l.take 30 := by
    refine list_ext (by rw [blk30, blk30]) fun j hj => ?_
    rw [blk30] at hj
    rw [nth_takeL hj, nth_takeL hj, mixG_nth v k (gF k) hj, hn]
    have h1 := h.par (gF k) hg.1 (by omega) j hj
    rw [bxA_K v k (gF k) j, if_pos (by omega)] at h1
    exact xor_eq h1
  unfold rst
  rw [shut_eq k ht]
  exact sound_shut (h.ok k hk)
theorem mixG_congr {u v : List Bk} {k f : Nat} : ∀ {n : Nat}, (∀ o, o < n → f + o ≠ k → nth u (f + o) = nth v (f + o)) → mixG u k f n = mixG v k f n
  | 0, _ => rfl
  | n + 1, h => by
    unfold mixG
    split
    · exact mixG_congr (fun o ho => h o (by omega))
    · rename_i hne
      rw [mixG_congr (fun o ho => h o (by omega)), h n (by omega) hne]
/-- blocks of which at most one in each group is damaged are restored -/
theorem fix_good {v : List Bk} (h : GoodV v) : ∀ (r : List Nat) (p : Int) (u : List Bk), u.length = v.length → (∀ k ∈ r, k < v.length ∧ p < ((gF k : Nat) : Int)) → r.Pairwise (fun a b => a < gF b) → (∀ k, k < v.length → k ∉ r → nth u k = nth v k) → fixG p u r = some v
  | [], p, u, hl, _, _, hs => by
    show some u = some v
    rw [list_ext hl (fun i hi => hs i (by omega) (by simp))]
  | k :: r, p, u, hl, hp, hw, hs => by
    have hk := hp k List.mem_cons_self
    obtain ⟨hw1, hw2⟩ := List.pairwise_cons.1 hw
    have hr : rst u k = nth v k := by
      rw [← h.rst_eq hk.1]
      unfold rst
      rw [hl]
      congr 1
      refine mixG_congr fun o ho hne => hs _ ?_ ?_
      · unfold gL at ho; omega
      · intro hm
        rcases List.mem_cons.1 hm with e | hm
        · exact hne e
        · have h1 := hw1 _ hm
          unfold gL at ho
          unfold gF at *
          omega
    rw [fix_step (by omega), hr]
    refine fix_good h r (k : Int) (u.set k (nth v k)) (by rw [List.length_set]; exact hl) (fun q hq => ⟨(hp q (List.mem_cons_of_mem _ hq)).1, by have := hw1 q hq; omega⟩) hw2 (fun q hq hn => ?_)
    by_cases e : q = k
    · subst e; rw [nth_setE (by omega)]
    · rw [nth_setN e]
      exact hs q hq (fun hm => (List.mem_cons.1 hm).elim e hn)
/-! ### damage is seen: a sound block with one byte changed is not sound -/
def Bk.put (b : Bk) (j : Nat) (x : UInt8) : Bk := ⟨b.l.set j x, by rw [List.length_set]; exact b.h⟩
theorem wsum_set (x : UInt8) : ∀ (l : List UInt8) (i j : Nat), j < l.length → wsum i (l.set j x) = wsum i l + ((i : Int) + j + 1) * ((x.toNat : Int) - ((nth l j).toNat : Int))
  | [], _, _, h => absurd h (Nat.not_lt_zero _)
  | b :: l, i, 0, _ => by
    have e : nth (b :: l) 0 = b := rfl
    simp only [List.set_cons_zero, wsum, e, Int.mul_sub]
    have h0 : ((i : Int) + ((0 : Nat) : Int) + 1) = (i : Int) + 1 := by omega
    rw [h0]; omega
  | b :: l, i, j + 1, h => by
    have e : nth (b :: l) (j + 1) = nth l j := rfl
    have ih := wsum_set x l (i + 1) j (by simpa using h)
    simp only [List.set_cons_succ, wsum, e]
    rw [ih, show ((i + 1 : Nat) : Int) + (j : Int) + 1 = (i : Int) + ((j + 1 : Nat) : Int) + 1 by omega]
    omega
theorem chkP_inj {a b : List UInt8} {k : Nat} (h : chkP a k = chkP b k) : chkN a k = chkN b k := by
  have ha := chkN_range a k
  have hb := chkN_range b k
  unfold chkP at h
  injection h with h1 h2
  injection h2 with h2 _
  have h1 := congrArg UInt8.toNat h1
  have h2 := congrArg UInt8.toNat h2
  rw [UInt8.toNat_ofNat', UInt8.toNat_ofNat'] at h1 h2
  omega
theorem u8_ne {a b : UInt8} (h : a ≠ b) : (a.toNat : Int) ≠ (b.toNat : Int) := fun e => h (UInt8.toNat_inj.1 (by omega))
theorem bad_put {b : Bk} {k j : Nat} {x : UInt8} (hs : b.l.drop 30 = chkP b.l k) (hj : j < 32) (hx : x ≠ nth b.l j) : ¬ (b.put j x).l.drop 30 = chkP (b.put j x).l k := by
  intro h
  have hb := b.h
  have e0 : (b.put j x).l = b.l.set j x := rfl
  rw [e0] at h
  by_cases q : j < 30
  · have e1 : (b.l.set j x).drop 30 = b.l.drop 30 := by rw [List.drop_set, if_pos q]
    have e2 : (b.l.set j x).take 30 = (b.l.take 30).set j x := List.take_set
    rw [e1, hs] at h
    have h3 := chkP_inj h
    unfold chkN weighP at h3
    rw [e2, wsum_set x _ 0 j (by rw [List.length_take]; omega), nth_takeL q] at h3
    have hd : (x.toNat : Int) - ((nth b.l j).toNat : Int) ≠ 0 := by have := u8_ne hx; omega
    have r1 := x.toNat_lt
    have r2 := (nth b.l j).toNat_lt
    obtain ⟨d, hd9⟩ : ∃ d : Int, d = (x.toNat : Int) - ((nth b.l j).toNat : Int) := ⟨_, rfl⟩
    rw [← hd9] at h3 hd
    obtain ⟨D, hD⟩ : ∃ D : Int, D = (((0 : Nat) : Int) + j + 1) * d := ⟨_, rfl⟩
    rw [← hD] at h3
    have hD0 : D ≠ 0 := by rw [hD]; exact Int.mul_ne_zero (by omega) hd
    have hDb : -7650 ≤ D ∧ D ≤ 7650 := by
      by_cases hp : 0 ≤ d
      · have h9 := mul_bound (a := (((0 : Nat) : Int) + j + 1)) (b := d) (n := 30) (by omega) (by omega) hp (by omega)
        omega
      · have h9 := mul_bound (a := (((0 : Nat) : Int) + j + 1)) (b := -d) (n := 30) (by omega) (by omega) (by omega) (by omega)
        rw [Int.mul_neg] at h9
        omega
    omega
  · have e2 : (b.l.set j x).take 30 = b.l.take 30 := by rw [List.take_set, List.set_eq_of_length_le (by rw [List.length_take]; omega)]
    rw [chkP_take k e2, ← hs] at h
    have h9 := congrArg (fun l => nth l (j - 30)) h
    simp only [nth_drop] at h9
    rw [show 30 + (j - 30) = j by omega, nth_setE (by omega)] at h9
    exact hx h9
theorem xor_ne {a d : UInt8} (h : d ≠ 0) : a ^^^ d ≠ a := fun e => h (by
  have h1 : a ^^^ (a ^^^ d) = a ^^^ a := by rw [e]
  rw [← xor_assoc', xor_self', xor_comm', xor_zero] at h1
  exact h1)
theorem bytesP_put (x : UInt8) : ∀ (v : List Bk) (k j : Nat), k < v.length → j < 32 → (bytesP v).set (32 * k + j) x = bytesP (v.set k ((nth v k).put j x))
  | [], _, _, h, _ => absurd h (Nat.not_lt_zero _)
  | b :: v, 0, j, _, hj => by
    have hb := b.h
    have e : bytesP (b :: v) = b.l ++ bytesP v := rfl
    have e2 : nth (b :: v) 0 = b := rfl
    rw [e, e2, Nat.mul_zero, Nat.zero_add, List.set_append_left _ _ (by omega)]; rfl
  | b :: v, k + 1, j, h, hj => by
    have hb := b.h
    have e : bytesP (b :: v) = b.l ++ bytesP v := rfl
    have e2 : nth (b :: v) (k + 1) = nth v k := rfl
    rw [e, e2, List.set_append_right _ _ (by omega), show 32 * (k + 1) + j - b.l.length = 32 * k + j by omega, bytesP_put x v k j (by simpa using h) hj]; rfl
theorem bytesP_nth : ∀ (v : List Bk) (k j : Nat), k < v.length → j < 32 → nth (bytesP v) (32 * k + j) = nth (nth v k).l j
  | [], _, _, h, _ => absurd h (Nat.not_lt_zero _)
  | b :: v, 0, j, _, hj => by
    have hb := b.h
    have e : bytesP (b :: v) = b.l ++ bytesP v := rfl
    have e2 : nth (b :: v) 0 = b := rfl
    rw [e, e2, Nat.mul_zero, Nat.zero_add, nth_app_l (by omega)]
  | b :: v, k + 1, j, h, hj => by
    have hb := b.h
    have e : bytesP (b :: v) = b.l ++ bytesP v := rfl
    have e2 : nth (b :: v) (k + 1) = nth v k := rfl
    rw [e, e2, nth_app_r (by omega), show 32 * (k + 1) + j - b.l.length = 32 * k + j by omega, bytesP_nth v k j (by simpa using h) hj]
/-- the block's first j bytes are x -/
def Bk.fil (b : Bk) (x : UInt8) (j : Nat) : Bk := ⟨List.replicate (min j 32) x ++ b.l.drop j, by have := b.h; rw [List.length_append, List.length_replicate, List.length_drop]; omega⟩
theorem fil_zero (b : Bk) (x : UInt8) : b.fil x 0 = b := Bk.ext' rfl
theorem fil_succ (b : Bk) (x : UInt8) {j : Nat} (h : j < 32) : (b.fil x j).put j x = b.fil x (j + 1) := by
  have hb := b.h
  apply Bk.ext'
  show (List.replicate (min j 32) x ++ b.l.drop j).set j x = List.replicate (min (j + 1) 32) x ++ b.l.drop (j + 1)
  rw [show min j 32 = j by omega, show min (j + 1) 32 = j + 1 by omega, List.set_append_right _ _ (by rw [List.length_replicate]; exact Nat.le_refl _), List.length_replicate, Nat.sub_self, drop_nth (show j < b.l.length by omega), List.set_cons_zero, List.replicate_succ', List.append_assoc]
  rfl
theorem ckP_nth {v : List Bk} {k : Nat} (h : k < v.length) : ckP (bytesP v) k = (nth v k).l := by rw [ckP_bytes v k h, nth_eq h]
theorem set_setE {α : Type} (l : List α) (k : Nat) (a b : α) : (l.set k a).set k b = l.set k b := List.set_set ..
/-! ### damage, group by group -/
structure Dmg (v U : List Bk) (m : Nat) (ks : List Nat) : Prop where
  len : U.length = v.length
  lt : ∀ k ∈ ks, k < m ∧ k < v.length ∧ badB U k = true
  ok : ∀ k, k < v.length → k ∉ ks → nth U k = nth v k
  pw : ks.Pairwise (fun a b => a < gF b)
theorem Dmg.nil (v : List Bk) : Dmg v v 0 [] := ⟨rfl, fun k h => absurd h (by simp), fun _ _ _ => rfl, List.Pairwise.nil⟩
theorem Dmg.mono {v U : List Bk} {m m' : Nat} {ks : List Nat} (h : Dmg v U m ks) (hm : m ≤ m') : Dmg v U m' ks := ⟨h.len, fun k hk => ⟨by have := (h.lt k hk).1; omega, (h.lt k hk).2⟩, h.ok, h.pw⟩
theorem badB_congr {u v : List Bk} {k : Nat} (h : nth u k = nth v k) : badB u k = badB v k := by unfold badB; rw [h]
theorem Dmg.same {v U : List Bk} {m k : Nat} {ks : List Nat} (h : Dmg v U m ks) (hm : m ≤ k) (hk : k < v.length) : nth U k = nth v k := h.ok k hk (fun hq => by have := (h.lt k hq).1; omega)
theorem badB_set {U : List Bk} {k : Nat} {c : Bk} (hk : k < U.length) (h : ¬ c.l.drop 30 = chkP c.l k) : badB (U.set k c) k = true := by
  unfold badB
  rw [nth_setE hk, decide_eq_false h]; rfl
theorem Dmg.step {v U : List Bk} {m m' k : Nat} {ks : List Nat} {c : Bk} (h : Dmg v U m ks) (h5 : m % 5 = 0) (h1 : m ≤ k) (h2 : k < m + 5) (hm : k < m') (hk : k < v.length) (hc : ¬ c.l.drop 30 = chkP c.l k) : Dmg v (U.set k c) m' (ks ++ [k]) := by
  have hl := h.len
  refine ⟨by rw [List.length_set]; exact hl, fun q hq => ?_, fun q hq hn => ?_, ?_⟩
  · rcases List.mem_append.1 hq with hq | hq
    · have h9 := h.lt q hq
      exact ⟨by omega, h9.2.1, by rw [badB_congr (nth_setN (by omega) c)]; exact h9.2.2⟩
    · simp only [List.mem_singleton] at hq
      subst hq
      exact ⟨hm, hk, badB_set (by omega) hc⟩
  · have hne : q ≠ k := fun e => hn (by rw [e]; simp)
    rw [nth_setN hne]
    exact h.ok q hq (fun hm => hn (List.mem_append_left _ hm))
  · rw [List.pairwise_append]
    refine ⟨h.pw, List.pairwise_singleton _ _, fun a ha b hb => ?_⟩
    simp only [List.mem_singleton] at hb
    subst hb
    have := (h.lt a ha).1
    unfold gF; omega
theorem sorted_eq : ∀ {a b : List Nat}, a.Pairwise (· < ·) → b.Pairwise (· < ·) → (∀ x, x ∈ a ↔ x ∈ b) → a = b
  | [], [], _, _, _ => rfl
  | [], y :: b, _, _, h => absurd ((h y).2 List.mem_cons_self) (by simp)
  | x :: a, [], _, _, h => absurd ((h x).1 List.mem_cons_self) (by simp)
  | x :: a, y :: b, ha, hb, h => by
    obtain ⟨ha1, ha2⟩ := List.pairwise_cons.1 ha
    obtain ⟨hb1, hb2⟩ := List.pairwise_cons.1 hb
    have e : x = y := by
      rcases List.mem_cons.1 ((h x).1 List.mem_cons_self) with e | e
      · exact e
      · rcases List.mem_cons.1 ((h y).2 List.mem_cons_self) with e' | e'
        · exact e'.symm
        · have := hb1 _ e; have := ha1 _ e'; omega
    subst e
    rw [sorted_eq ha2 hb2 (fun z => ?_)]
    constructor
    · intro hz
      rcases List.mem_cons.1 ((h z).1 (List.mem_cons_of_mem _ hz)) with e | e
      · have := ha1 _ hz; omega
      · exact e
    · intro hz
      rcases List.mem_cons.1 ((h z).2 (List.mem_cons_of_mem _ hz)) with e | e
      · have := hb1 _ hz; omega
      · exact e
theorem badP_sorted (v : List Bk) : (badP v).Pairwise (· < ·) := by
  unfold badP
  exact List.Pairwise.filter _ List.pairwise_lt_range
theorem badP_iff {v : List Bk} {k : Nat} : k ∈ badP v ↔ k < v.length ∧ badB v k = true := by
  unfold badP
  rw [List.mem_filter, List.mem_range]
theorem Dmg.bad {v U : List Bk} {m : Nat} {ks : List Nat} (h : Dmg v U m ks) (hg : GoodV v) : badP U = ks := by
  refine sorted_eq (badP_sorted U) (h.pw.imp (fun h => Nat.lt_of_lt_of_le h (gF_le _))) fun k => ?_
  rw [badP_iff, h.len]
  constructor
  · rintro ⟨hk, hb⟩
    by_cases q : k ∈ ks
    · exact q
    · rw [badB_congr (h.ok k hk q)] at hb
      unfold badB at hb
      rw [decide_eq_true (hg.ok k hk)] at hb
      cases hb
  · intro hk; exact (h.lt k hk).2
theorem opE_bytes {v : List Bk} (hv : GoodV v) (h13 : v.length ≤ 1300) {U : List Bk} (hU : U.length = v.length) : opE (bytesP U) = 0 ∧ opP (bytesP U) = U := by
  have h2 := hv.two
  have h3 := hv.mod
  have e0 : opE (bytesP U) = 0 := by unfold opE; rw [bytesP_len, if_neg (by omega), if_neg (by omega)]
  refine ⟨e0, ?_⟩
  unfold opP
  rw [if_pos e0, bytesP_len, show 32 * U.length / 32 = U.length by omega, blksP_of]
theorem Dmg.rep {v U : List Bk} {m : Nat} {ks : List Nat} (h : Dmg v U m ks) (hv : GoodV v) (h13 : v.length ≤ 1300) : repR (bytesP U) = (bytesP v, nats ks, 0) := by
  obtain ⟨e0, e1⟩ := opE_bytes hv h13 h.len
  unfold repR
  rw [if_neg (by omega), e1, h.bad hv, fix_good hv ks (-1) U h.len (fun k hk => ⟨(h.lt k hk).2.1, by omega⟩) h.pw h.ok]
theorem gF_mono {a b : Nat} (h : a ≤ b) : gF a ≤ gF b := by unfold gF; omega
theorem fix_two : ∀ (r : List Nat) (p : Int) (w : List Bk), r.Pairwise (· < ·) → ∀ a b, a ∈ r → b ∈ r → a < b → gF b ≤ a → fixG p w r = none
  | [], _, _, _, _, _, h, _, _, _ => absurd h (by simp)
  | k :: r, p, w, hp, a, b, ha, hb, hab, hg => by
    obtain ⟨hp1, hp2⟩ := List.pairwise_cons.1 hp
    by_cases q : ((gF k : Nat) : Int) ≤ p
    · exact fix_none q
    · rw [fix_step q]
      have hb' : b ∈ r := by
        rcases List.mem_cons.1 hb with e | e
        · exfalso
          rcases List.mem_cons.1 ha with e' | e'
          · omega
          · have := hp1 _ e'; omega
        · exact e
      rcases List.mem_cons.1 ha with e | e
      · subst e
        cases r with
        | nil => exact absurd hb' (by simp)
        | cons h r =>
          have hh : h ≤ b := by
            rcases List.mem_cons.1 hb' with e | e
            · omega
            · have := (List.pairwise_cons.1 hp2).1 _ e; omega
          have := gF_mono hh
          exact fix_none (by omega)
      · exact fix_two r k _ hp2 a b e hb' hab hg
theorem Dmg.none {v U : List Bk} {m k o : Nat} {ks : List Nat} {c : Bk} (h : Dmg v U m (k :: ks)) (hv : GoodV v) (h13 : v.length ≤ 1300) (ho : o < v.length) (hok : o ≠ k) (hog : gF o = gF k) (hc : ¬ c.l.drop 30 = chkP c.l o) : repR (bytesP (U.set o c)) = ([], [], 121) := by
  have hl : (U.set o c).length = v.length := by rw [List.length_set]; exact h.len
  obtain ⟨e0, e1⟩ := opE_bytes hv h13 hl
  have hk := h.lt k List.mem_cons_self
  have mk : k ∈ badP (U.set o c) := badP_iff.2 ⟨by omega, by rw [badB_congr (nth_setN (fun e => hok e.symm) c)]; exact hk.2.2⟩
  have mo : o ∈ badP (U.set o c) := badP_iff.2 ⟨by omega, badB_set (by rw [h.len]; exact ho) hc⟩
  have hn : fixG (-1) (U.set o c) (badP (U.set o c)) = Option.none := by
    rcases Nat.lt_or_gt_of_ne hok with q | q
    · exact fix_two _ _ _ (badP_sorted _) o k mo mk q (by rw [← hog]; exact gF_le o)
    · exact fix_two _ _ _ (badP_sorted _) k o mk mo q (by rw [hog]; exact gF_le k)
  unfold repR
  rw [if_neg (by omega), e1, hn]
theorem Dmg.first {v U : List Bk} {m k o : Nat} {ks : List Nat} (h : Dmg v U m (k :: ks)) (ho : o < v.length) (hok : o ≠ k) (hog : gF o = gF k) : nth U o = nth v o := by
  refine h.ok o ho fun hm => ?_
  rcases List.mem_cons.1 hm with e | e
  · exact hok e
  · have h9 := (List.pairwise_cons.1 h.pw).1 _ e
    have := gF_le k
    omega
/-! ### the law's own parts -/
def partP (ds : List UInt8) (k : Nat) : UInt8 := if ds.length = 0 then 0 else nth ds (k % ds.length)
def lowI : List Nat → Int
  | [] => -1
  | k :: _ => (k : Int)
theorem lowI_neg {ks : List Nat} (h : lowI ks < 0) : ks = [] := by
  cases ks with
  | nil => rfl
  | cons k r => simp only [lowI] at h; omega
theorem lowI_pos {ks : List Nat} (h : 0 ≤ lowI ks) : ∃ k r, ks = k :: r := by
  cases ks with
  | nil => simp only [lowI] at h; omega
  | cons k r => exact ⟨k, r, rfl⟩
theorem lowI_app {ks : List Nat} (h : ¬ lowI ks < 0) (r : List Nat) : lowI (ks ++ r) = lowI ks := by
  obtain ⟨k, q, rfl⟩ := lowI_pos (by omega : 0 ≤ lowI ks)
  rfl
theorem set_self {U : List Bk} {k : Nat} (h : k < U.length) : U.set k (nth U k) = U := by
  refine list_ext (List.length_set) fun i hi => ?_
  by_cases e : i = k
  · subst e; rw [nth_setE h]
  · rw [nth_setN e]
theorem nats_snoc (ks : List Nat) (k : Nat) : nats ks ++ [(k : Int)] = nats (ks ++ [k]) := by unfold nats; rw [List.map_append]; rfl
theorem snd_iff {xs : List UInt8} {k : Nat} (h : xs.length = 32) : (chkN xs k = 256 * ((nth xs 30).toNat : Int) + ((nth xs 31).toNat : Int)) ↔ xs.drop 30 = chkP xs k := by
  have hr := chkN_range xs k
  have hd : xs.drop 30 = [nth xs 30, nth xs 31] := by
    rw [drop_nth (by omega), drop_nth (by omega), List.drop_of_length_le (by omega)]
  have r1 := (nth xs 30).toNat_lt
  have r2 := (nth xs 31).toNat_lt
  rw [hd]
  unfold chkP
  constructor
  · intro e
    have e1 : nth xs 30 = UInt8.ofNat ((chkN xs k).toNat / 256) := UInt8.toNat_inj.1 (by rw [UInt8.toNat_ofNat']; omega)
    have e2 : nth xs 31 = UInt8.ofNat ((chkN xs k).toNat % 256) := UInt8.toNat_inj.1 (by rw [UInt8.toNat_ofNat']; omega)
    rw [← e1, ← e2]
  · intro e
    injection e with e1 e2
    injection e2 with e2 _
    have e1 := congrArg UInt8.toNat e1
    have e2 := congrArg UInt8.toNat e2
    rw [UInt8.toNat_ofNat'] at e1 e2
    omega
theorem u8_back {n : Int} (h : 0 ≤ n ∧ n ≤ 255) : ((UInt8.ofNat n.toNat).toNat : Int) = n := by
  rw [u8_ofN (by omega)]; omega

end Go.Proofs.YtjdcpnaocjddoaaGreatDoor
namespace Go.Proofs.YtjdcpnaocjddoaaGreatDoor
open Go Go.RowKit Go.Proofs.Tryz
theorem Sl.subTo {α : Type} [Inhabited α] {enc : α → List Value} {k : Nat} {w : World} {ao : Option Addr} {b o : Nat} {xs : List α} (h : Sl enc k w ao b o xs) (cap n : Nat) (hc : xs.length ≤ cap) : Sl enc k w (subAddr ao cap 0 k) b o (xs.take n) := by
  have := h.sub cap 0 n hc
  simpa using this

theorem part_c (ds : List UInt8) (ad : Option Addr) (bd od cd : Nat) (k : Nat) (w0 : World) (hd : Sl encY 1 w0 ad bd od ds) :
    CallsV Tryz.prog 30 [.slice ad ds.length cd, .int .i64 (k : Int)] w0 (fun v w' => v = .int .u8 ((partP ds k).toNat : Int) ∧ Ext w0 w') := by
 refine f_n func30 ?_
 refine go ?_
 refine q_p (fun g7 => ?_) fun g7 => ?_
 ·
  refine go ?_
  refine f_1 results30 ?_
  exact ⟨by unfold partP; rw [if_pos (by omega)]; rfl, u_d⟩
 have hml := Nat.mod_lt k (show 0 < ds.length by omega)
 have hmi : (k : Int) % (ds.length : Int) = ((k % ds.length : Nat) : Int) := (Int.natCast_emod k ds.length).symm
 refine go ?_
 refine t_rem rfl rfl rfl rfl (by omega) (by omega) (t_same 12 (v := .int .i64 ((k % ds.length : Nat) : Int)) rfl (congrArg (Value.int .i64) hmi) ?_)
 refine g_i (k % ds.length) hd (fun _ => ?_) (hj := (by omega))
 refine go ?_
 refine f_1 results30 ?_
 exact ⟨by unfold partP; rw [if_neg (by omega)], u_d⟩

set_option maxHeartbeats 4000000 in
theorem sound_c (ds : List UInt8) (ad : Option Addr) (bd od cd : Nat) (k : Nat) (w0 : World) (hd : Sl encY 1 w0 ad bd od ds) (h32 : ds.length = 32) (hcd : ds.length ≤ cd) (hk : k ≤ 1000000) (_hpos : 0 < w0.heap.size) :
    CallsV Tryz.prog 31 [.slice ad ds.length cd, .int .i64 (k : Int)] w0 (fun v w' => v = .bool (decide (ds.drop 30 = chkP ds k)) ∧ Ext w0 w') := by
 have hwr := weighP_range (ds.take 30)
 have h30 : (ds.take 30).length = 30 := by rw [List.length_take]; omega
 have hr30 := (nth ds 30).toNat_lt
 have hr31 := (nth ds 31).toNat_lt
 have hWe : WeighR (ds.take 30) 65521 = (weighP (ds.take 30) 65521, 0) := by unfold WeighR; rw [if_neg (by rw [List.length_take]; omega), if_pos (by decide)]
 refine f_n func31 ?_
 iterate 11 refine st1 ?_
 refine t_same 9 (v := .bool false) rfl (congrArg Value.bool (decide_eq_false (by omega))) ?_
 refine go ?_
 refine x_l fun bk5 w6 ebk5 sbk5 B7 u8 => ?_
 have E9 := Sc.mk ((Upd.refl (fun _ => False) w0).nx u8)
 refine go ?_
 refine t_sliceTo (30) underlying25 sizeOf5 rfl rfl rfl rfl (by omega) (by omega) (t_same 13 (v := .slice (subAddr ad cd 0 1) ((ds.take 30).length) cd) rfl (by rw [List.length_take, Nat.min_eq_left (by omega)]) (t_copy (enc := encY) (z := .int .u8 0) (bytes := 1) (k := 1) (ys := ((ds).take 30)) underlying25 (by kernel_rfl) rfl (by decide) (fun _ => rfl) (by intro x; simp [encY, Value.oneCell']) rfl rfl rfl rfl B7 (Sl.subTo (hd.keep E9.u (fun _ h => h)) cd 30 (by omega)) (by rw [List.length_take]; omega) (by decide) (fun ao10 gb11 cp12 w13 A14 u15 gegb11 => ?_)))
 have zu15 := u15.size
 have lt_gb11 := A14.lt
 refine x_c func28 rfl rfl (Weigh_c ((ds).take 30) ao10 gb11 0 cp12 65521 _ (A14.sl (fun _ => rfl)) (by omega)) ?_
 rintro _ w18 ⟨rfl, u19⟩ zu19
 iterate 2 refine st1 ?_
 refine t_same 16 (v := .int .i64 (weighP (ds.take 30) 65521)) rfl (congrArg (Value.int .i64) (by rw [hWe])) ?_
 refine st1 ?_
 refine t_same 17 (v := .int .i64 0) rfl (congrArg (Value.int .i64) (by rw [hWe])) ?_
 refine go ?_
 refine c_drawnM follows (fun _ => False) (OTl [0, 2, 4, 6, 8, 10, 12, 14, 16, 18, 20, 22, 24, 26, 28, 30, 32, 34, 36, 38, 40]) (by kernel_rfl) fun w23 u24 => ?_
 have zu24 := u24.size
 have E25 := Sc.mk (((E9.u.next u15 (fun i hi h => by omega)).nx u19).nx u24)
 refine go ?_
 refine y_rem rfl rfl rfl rfl (by omega) (by omega) ?_
 refine go ?_
 refine y_i 30 (hd.keep E25.u (fun _ h => h)) (fun _ => ?_)
 refine go ?_
 refine y_conv underlying5 underlying3 rfl rfl rfl (IntWalk.i64_in _ (by omega)) ?_
 refine go ?_
 refine y_i 31 (hd.keep E25.u (fun _ h => h)) (fun _ => ?_)
 refine go ?_
 refine y_conv underlying5 underlying3 rfl rfl rfl (IntWalk.i64_in _ (by omega)) ?_
 refine go ?_
 refine f_1 results31 ?_
 have hsi := snd_iff (k := k) h32
 unfold chkN at hsi
 exact ⟨congrArg Value.bool (decide_eq_decide.2 (by rw [← hsi])), u_d⟩

theorem eqI_c (xs : List Int) (aa : Option Addr) (ba oa ca : Nat) (ab : Option Addr) (bb ob cb : Nat) (w0 : World) (ha : Sl encI 1 w0 aa ba oa xs) (hb : Sl encI 1 w0 ab bb ob xs) (hxl : xs.length ≤ 1000000) :
    CallsV Tryz.prog 33 [.slice aa xs.length ca, .slice ab xs.length cb] w0 (fun v w' => v = .bool true ∧ Ext w0 w') := by
 refine f_n func33 ?_
 iterate 13 refine st1 ?_
 refine t_samehd (v := .bool false) (by simp) ?_
 refine go ?_
 refine x_l1 (fun _ => False) [0, 1] (fun (j : Nat) => [(5, .int .i64 (j : Int))]) (fun j w => (j ≤ xs.length)) (fun j => xs.length - j) 0 (Nat.zero_le _) ?_
 rintro j w7 hj u8 zu8 K6 hK6
 refine go ?_
 refine q_p (fun g14 => ?_) fun g14 => ?_
 ·
  refine go ?_
  refine c_drawnM follows (fun _ => False) (OTl [0, 2, 4, 6, 8, 10, 12, 14, 16]) (by kernel_rfl) fun w14 u15 => ?_
  have zu15 := u15.size
  have E16 := Sc.mk (((Upd.refl (fun _ => False) w0).nx u8).nx u15)
  refine go ?_
  refine y_i j (ha.keep E16.u (fun _ h => h)) (fun _ => ?_)
  refine go ?_
  refine y_i j (hb.keep E16.u (fun _ h => h)) (fun _ => ?_)
  iterate 2 refine st1 ?_
  refine y_samehd (v := .bool false) (by simp) ?_
  refine go ?_
  exact hK6 (j + 1) (by omega)
 refine go ?_
 refine f_1 results33 ?_
 exact ⟨rfl, u_d⟩

theorem WriteV_c (l : List Ent) (al : Option Addr) (bl ol cl : Nat) (w0 : World) (hl : Sl encEnt 6 w0 al bl ol l) (hll : l.length ≤ 1000000000) (hpos : 0 < w0.heap.size) :
    CallsV Tryz.prog 15 [.slice al l.length cl] w0 fun v w' => (∃ (u : List Bk) (a9 : Option Addr) (g9 c9 : Nat), v = .tuple #[.slice a9 (bytesP u).length c9, .int .i64 (chkE l)] ∧ Acc encY 1 5 w0.heap.size w' a9 g9 c9 (bytesP u) ∧ u = if chkE l = 0 then writeP l else []) ∧ Ext w0 w' :=
  CallsV.mono (WriteLog_c l al bl ol cl w0 hl hll hpos) (by
    rintro v w' ⟨⟨a, g, c, rfl, h⟩, u⟩
    have e : logP l = bytesP (if chkE l = 0 then writeP l else []) := by
      unfold logP
      split <;> rfl
    rw [e] at h ⊢
    exact ⟨⟨_, a, g, c, rfl, h, rfl⟩, u⟩)
theorem RepairE_c (xs : List UInt8) (ab : Option Addr) (bb ob cb : Nat) (w0 : World) (hs : Sl encY 1 w0 ab bb ob xs) (hcb : xs.length ≤ cb) (hxl : xs.length ≤ 1000000) (hpos : 0 < w0.heap.size) (r1 : List UInt8) (r2 : List Int) (r3 : Int) (hr : repR xs = (r1, r2, r3)) :
    CallsV Tryz.prog 32 [.slice ab xs.length cb] w0 fun v w' => (∃ a9 g9 c9 a8 g8 c8, v = .tuple #[.slice a9 (List.length r1) c9, .slice a8 (List.length r2) c8, .int .i64 r3] ∧ Acc encY 1 5 w0.heap.size w' a9 g9 c9 r1 ∧ Acc encI 1 3 w0.heap.size w' a8 g8 c8 r2) ∧ Ext w0 w' := by
  have h := Repair_c xs ab bb ob cb w0 hs hcb hxl hpos
  rw [hr] at h
  exact h

end Go.Proofs.YtjdcpnaocjddoaaGreatDoor
