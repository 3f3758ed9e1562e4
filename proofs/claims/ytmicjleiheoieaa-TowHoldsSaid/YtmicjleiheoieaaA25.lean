/-
  Contracts of lists compared and of the reference's rows. Conditions: none.
-/
import Derived.Test.YtmicjleiheoieaaA7
import Derived.Test.YtmicjleiheoieaaA23
namespace Go.Proofs.Ytmicjleiheoieaa
open Go Go.RowKit
theorem goX_next {rest : List Hull → Int} {W : Int} {xs : List Hull} {a k : Nat} {r : Row} {x : Int × Int} (ha : a + k < xs.length) (hk : k < 4) (hw : ¬ W < r.wide + (nth xs (a + k)).wid) :
    goR rest W (4 - k) r x k (xs.drop (a + k)) = goR rest W (4 - (k + 1)) (addH r (nth xs (a + k))) (pickR x k (max r.long (nth xs (a + k)).len) (rest (xs.drop (a + k + 1)))) ((k + 1 : Nat) : Int) (xs.drop (a + (k + 1))) := by
  rw [drop_nth ha, show 4 - k = (4 - (k + 1)) + 1 by omega]
  conv => lhs; unfold goR
  rw [if_neg hw]
  rfl
theorem goX_break {rest : List Hull → Int} {W : Int} {xs : List Hull} {a k : Nat} {r : Row} {x : Int × Int} (ha : a + k < xs.length) (hk : k < 4) (hw : W < r.wide + (nth xs (a + k)).wid) : goR rest W (4 - k) r x k (xs.drop (a + k)) = x := by
  rw [drop_nth ha, show 4 - k = (4 - (k + 1)) + 1 by omega]
  unfold goR
  rw [if_pos hw]
theorem goX_end {rest : List Hull → Int} {W : Int} {xs : List Hull} {a k : Nat} {r : Row} {x : Int × Int} (h : xs.length ≤ a + k ∨ 4 ≤ k) : goR rest W (4 - k) r x k (xs.drop (a + k)) = x := by
  rcases h with h | h
  · rw [List.drop_eq_nil_of_le h]; cases (4 - k) <;> rfl
  · rw [show 4 - k = 0 by omega]; rfl
/-- The list of rows that a best first row leads to. -/
def lstOf (W : Int) (m : Nat) (ys : List Hull) (x : Int × Int) : List Int := if x.2 < 0 then [] else x.1 :: rowsR W m (ys.drop x.1.toNat)
def rowsX (W : Int) (n : Nat) (ys : List Hull) : List Int := if (bestR W n ys).2 < 0 then [] else rowsR W n ys
theorem rowsX_lst {W : Int} {n : Nat} {ys : List Hull} (hy : 0 < ys.length) : rowsX W n ys = lstOf W (n - 1) ys (bestR W n ys) := by
  unfold rowsX lstOf
  split
  · rfl
  · rw [rowsR_step hy (by omega)]
theorem rowsX_nil {W : Int} {n : Nat} : rowsX W n [] = [] := by
  unfold rowsX; split
  · rfl
  · cases n <;> rfl
theorem rowsX_pos {W : Int} {n : Nat} {ys : List Hull} (h : ¬ (bestR W n ys).2 < 0) : rowsX W n ys = rowsR W n ys := by unfold rowsX; rw [if_neg h]
theorem lstOf_pick {W : Int} {m k : Nat} {ys : List Hull} {t : Int} (ht : ¬ t < 0) : lstOf W m ys (((k : Int) + 1), t) = ((k : Int) + 1) :: rowsR W m (ys.drop (k + 1)) := by
  unfold lstOf; rw [if_neg ht, show ((k : Int) + 1).toNat = k + 1 by omega]
structure RowsPre (xs : List Hull) (W : Int) (ao : Option Addr) (b o cap n a : Nat) (w : World) : Prop where
  n10 : n ≤ 10
  ale : a ≤ xs.length
  sl : Sl encHull 3 w ao b o xs
  len : xs.length ≤ 1000000
  ok : ∀ h ∈ xs, okHull h = true
  wid : 0 ≤ W ∧ W ≤ 200
theorem rowsR_len {W : Int} : ∀ (n : Nat) (ys : List Hull), (rowsR W n ys).length ≤ n
  | 0, [] => by simp [rowsR]
  | 0, _ :: _ => by simp [rowsR]
  | n + 1, [] => by simp [rowsR]
  | n + 1, h :: ys => by simp only [rowsR, List.length_cons]; have := rowsR_len (W := W) n ((h :: ys).drop (bestR W (n + 1) (h :: ys)).1.toNat); omega
theorem rowsX_len {W : Int} {n : Nat} {ys : List Hull} : (rowsX W n ys).length ≤ n := by
  unfold rowsX; split
  · simp
  · exact rowsR_len n ys

theorem own19 : Own Try.prog 19 := ⟨Try.f19, Try.func19, by kernel_rfl, by kernel_rfl⟩
theorem own21 : Own Try.prog 21 := ⟨Try.f21, Try.func21, by kernel_rfl, by kernel_rfl⟩
theorem own61 : Own Try.prog 61 := ⟨Try.f61, Try.func61, by kernel_rfl, by kernel_rfl⟩

theorem equal_c (xs : List Int) (ax : Option Addr) (bx ox cx : Nat) (ay : Option Addr) (by_ oy cy : Nat) (w0 : World) (hx : Sl encI 1 w0 ax bx ox xs) (hy : Sl encI 1 w0 ay by_ oy xs) (hl : xs.length ≤ 1000000) :
    CallsV Try.prog 21 [.slice ax xs.length cx, .slice ay xs.length cy] w0 (fun v w' => v = .bool true ∧ Ext w0 w') := by
 have E0 := Upd.refl (fun _ => False) w0
 refine f_enter (N := 26) Try.func21 rfl rfl rfl ?_
 change WC _ _ _ _ _ _ [(0, .slice ax xs.length cx), (1, .slice ay xs.length cy)] _
 refine c_seq fun K1 hK1 => (c_region (t_assign rfl rfl rfl (t_nil' (hK1 _ _ (c_seq fun K2 hK2 => (c_seq fun K3 hK3 => (c_region (t_move rfl rfl rfl (t_len Try.underlying27 rfl rfl rfl rfl (t_move rfl rfl rfl (t_len Try.underlying27 rfl rfl rfl rfl (t_cmp rfl rfl rfl rfl rfl (t_samehd (v := .bool false) (by simp) (t_nil' (hK3 _ _ (c_cond_f rfl (c_skip (hK2 _ _ (c_seq fun K4 hK4 => (c_seq fun K5 hK5 => (c_region (t_assign rfl rfl rfl (t_nil' ?_)))))))))))))))))))))))
 refine hK5 _ _ (c_block (c_loop (γ := Nat) (fun k => [(0, .slice ax xs.length cx), (1, .slice ay xs.length cy), (5, .int .i64 (k : Int))]) (fun k w => Upd (fun _ => False) w0 w ∧ (k ≤ xs.length)) (fun k => xs.length - k) 0 ⟨rfl, rfl, rfl, trivial⟩ ⟨Upd.refl _ _, Nat.zero_le _⟩ ?_))
 intro k w7 hW K6 hK6
 obtain ⟨u8, I9⟩ := hW
 have zu8 := u8.size
 have E10 := E0.next u8 (fun _ _ h => h.elim)
 have hk := I9; clear I9
 refine c_seq fun K11 hK11 => (c_seq fun K12 hK12 => (c_region (t_move rfl rfl rfl (t_move rfl rfl rfl (t_len Try.underlying27 rfl rfl rfl rfl (t_cmp rfl rfl rfl rfl rfl (t_nil' (hK12 _ _ (c_condp rfl (fun g14 => ?_) (fun g14 => ?_))))))))))
 ·
  refine c_skip (hK11 _ _ (c_seq fun K13 hK13 => (c_block (c_seq fun K14 hK14 => (WC.weak [(0, .slice ax xs.length cx), (1, .slice ay xs.length cy), (5, .int .i64 (k : Int))] ⟨rfl, rfl, rfl, trivial⟩ (c_drawn follows 9 [some (17, some (.slice ax xs.length cx)), some (18, some (.int .i64 (k : Int))), some (19, some (.pointer (some ⟨bx, ox + k * 1, none⟩))), some (20, some (.int .i64 (nth xs k))), some (21, some (.slice ay xs.length cy)), some (22, some (.int .i64 (k : Int))), some (23, some (.pointer (some ⟨by_, oy + k * 1, none⟩))), some (24, some (.int .i64 (nth xs k))), some (25, some (.bool false))] [[],[],[0,1],[2],[],[],[4,5],[6],[3,7]] (fun _ _ w => Upd (fun _ => False) w7 w) rfl rfl rfl (by kernel_rfl) (by kernel_rfl) (Upd.drew _).to ⟨?_, ?_, ?_, ?_, ?_, ?_, ?_, ?_, ?_, trivial⟩ ?_))))))
  · exact pz rfl rfl rfl rfl fun _ _ _ h => h
  · exact pz rfl rfl rfl rfl fun _ _ _ h => h
  ·
   intro D ρ w17 hcD hnD hdD hW
   have zhW := hW.size
   have E19 := E10.next hW (fun _ _ h => h.elim)
   refine ⟨_, kf_fr [17, 18], fun Lr => ?_⟩
   have i20 : k < xs.length := (by omega)
   refine t_index (j := k) Try.underlying27 Try.sizeOf3 rfl rfl rfl rfl ((hx.keep E19 (fun _ h => h)).addr (by omega)) rfl i20 ?_
   exact dz rfl hW
  ·
   intro D ρ w21 hcD hnD hdD hW
   have zhW := hW.size
   have E23 := E10.next hW (fun _ _ h => h.elim)
   refine ⟨_, kf_fr [19], fun Lr => ?_⟩
   refine t_load Try.isAgg3 rfl rfl rfl (((hx.keep E23 (fun _ h => h)).at_ k (by omega)) 0 _ rfl) ?_
   exact dz rfl hW
  · exact pz rfl rfl rfl rfl fun _ _ _ h => h
  · exact pz rfl rfl rfl rfl fun _ _ _ h => h
  ·
   intro D ρ w24 hcD hnD hdD hW
   have zhW := hW.size
   have E26 := E10.next hW (fun _ _ h => h.elim)
   refine ⟨_, kf_fr [21, 22], fun Lr => ?_⟩
   have i27 : k < xs.length := (by omega)
   refine t_index (j := k) Try.underlying27 Try.sizeOf3 rfl rfl rfl rfl ((hy.keep E26 (fun _ h => h)).addr (by omega)) rfl i27 ?_
   exact dz rfl hW
  ·
   intro D ρ w28 hcD hnD hdD hW
   have zhW := hW.size
   have E30 := E10.next hW (fun _ _ h => h.elim)
   refine ⟨_, kf_fr [23], fun Lr => ?_⟩
   refine t_load Try.isAgg3 rfl rfl rfl (((hy.keep E30 (fun _ h => h)).at_ k (by omega)) 0 _ rfl) ?_
   exact dz rfl hW
  ·
   intro D ρ w31 hcD hnD hdD hW
   have zhW := hW.size
   refine ⟨_, kf_fr [20, 24], fun Lr => ?_⟩
   refine t_cmp rfl rfl rfl rfl rfl (t_samehd (v := .bool false) (by simp) ?_)
   exact dz rfl hW
  intro ρ w34 hW
  have u35 : Upd (fun _ => False) w7 w34 := hW
  have zu35 := u35.size
  refine QK.weak [(0, .slice ax xs.length cx), (1, .slice ay xs.length cy), (5, .int .i64 (k : Int)), (25, .bool false)] ⟨rfl, rfl, rfl, rfl, trivial⟩ (hK14 _ _ (c_cond_f rfl (c_skip (hK13 _ _ (c_region (t_move rfl rfl rfl (t_ari rfl rfl rfl rfl rfl (by omega) (t_assign rfl rfl rfl (t_nil' ?_)))))))))
  exact hK6 (k + 1) _ _ (by omega) ⟨rfl, rfl, rfl, trivial⟩ ⟨(u8.next u35 (fun _ _ h => h.elim)), (by omega)⟩
 ·
  refine c_exit (hK4 _ _ (c_seq fun K37 hK37 => (c_region (t_assign rfl rfl rfl (t_nil' (hK37 _ _ (c_ret (f_ret1 (v := .bool true) Try.results21 rfl ?_))))))))
  exact ⟨rfl, E10⟩

set_option maxHeartbeats 1000000 in
theorem rows_s (xs : List Hull) (W : Int) (ao : Option Addr) (b o cap n a : Nat) (w0 : World) (hp : RowsPre xs W ao b o cap n a w0) (ih : ∀ m, m + 1 = n → ∀ (a : Nat) (w0 : World), RowsPre xs W ao b o cap m a w0 → CallsV Try.prog 61 [.slice ao xs.length cap, .int .i64 (a : Int), .int .i64 W, .int .i64 (m : Int)] w0 (fun v w' => (∃ ao' b' cap', v = .tuple #[.slice ao' (rowsX W m (xs.drop a)).length cap', .int .i64 (bestR W m (xs.drop a)).2] ∧ Sl encI 1 w' ao' b' 0 (rowsX W m (xs.drop a))) ∧ Ext w0 w')) :
    CallsV Try.prog 61 [.slice ao xs.length cap, .int .i64 (a : Int), .int .i64 W, .int .i64 (n : Int)] w0 (fun v w' => (∃ ao' b' cap', v = .tuple #[.slice ao' (rowsX W n (xs.drop a)).length cap', .int .i64 (bestR W n (xs.drop a)).2] ∧ Sl encI 1 w' ao' b' 0 (rowsX W n (xs.drop a))) ∧ Ext w0 w') := by
 have hsl := hp.sl
 have q1 := hp.n10
 have q2 := hp.ale
 have q6 := hp.len
 have q8 := hp.wid
 have E0 := Upd.refl (fun _ => False) w0
 refine f_enter (N := 91) Try.func61 rfl rfl rfl ?_
 change WC _ _ _ _ _ _ [(0, .slice ao xs.length cap), (1, .int .i64 (a : Int)), (2, .int .i64 W), (3, .int .i64 (n : Int))] _
 refine c_seq fun K1 hK1 => (c_region (t_assign rfl rfl rfl (t_assign rfl rfl rfl (t_nil' (hK1 _ _ (c_seq fun K2 hK2 => (c_seq fun K3 hK3 => (c_region (t_move rfl rfl rfl (t_move rfl rfl rfl (t_len Try.underlying24 rfl rfl rfl rfl (t_cmp rfl rfl rfl rfl rfl (t_nil' (hK3 _ _ (c_condp rfl (fun g21 => ?_) (fun g21 => ?_))))))))))))))))
 ·
  refine c_seq fun K4 hK4 => (c_region (t_bslice (ps := []) (cs := []) (e := 3) rfl rfl ⟨rfl, rfl⟩ (fun w => by kernel_rfl) (fun bk5 w6 ebk5 sbk5 B7 u8 => ?_)))
  have zu8 := u8.size
  have E9 := E0.next u8 (fun _ _ h => h.elim)
  refine t_assign rfl rfl rfl (t_assign rfl rfl rfl (t_nil' (hK4 _ _ (c_ret (f_ret2 (v1 := .slice (some ⟨bk5, 0, none⟩) 0 0) (v2 := .int .i64 0) Try.results61 rfl rfl ?_)))))
  have hnil : xs.drop a = [] := List.drop_eq_nil_of_le (by omega)
  exact ⟨⟨_, 0, _, by rw [hnil, rowsX_nil, show (bestR W n []).2 = 0 by cases n <;> rfl]; rfl, by rw [hnil, rowsX_nil]; exact Sl.nil _ _ _ _ _ _⟩, E9⟩
 ·
  refine c_skip (hK2 _ _ (c_seq fun K10 hK10 => (c_region (t_bslice (ps := []) (cs := []) (e := 3) rfl rfl ⟨rfl, rfl⟩ (fun w => by kernel_rfl) (fun bk11 w12 ebk11 sbk11 B13 u14 => ?_)))))
  have zu14 := u14.size
  have E15 := E0.next u14 (fun _ _ h => h.elim)
  refine t_assign rfl rfl rfl (t_assign rfl rfl rfl (t_nil' (hK10 _ _ (c_seq fun K16 hK16 => (c_region (t_assign rfl rfl rfl (t_assign rfl rfl rfl (t_nil' (hK16 _ _ (c_seq fun K17 hK17 => (c_seq fun K18 hK18 => (c_region (t_assign rfl rfl rfl (t_nil' (hK18 _ _ (c_block (c_loop (γ := Nat × Row × Int × Int × Option Addr × Nat × Nat × List Int) (fun gg => [(0, .slice ao xs.length cap), (1, .int .i64 (a : Int)), (2, .int .i64 W), (3, .int .i64 (n : Int)), (10, .slice gg.2.2.2.2.1 gg.2.2.2.2.2.2.2.length gg.2.2.2.2.2.2.1), (11, .int .i64 gg.2.2.2.1), (12, .int .i64 gg.2.1.long), (13, .int .i64 gg.2.1.wide), (14, .int .i64 ((gg.1 : Int) + 1))]) (fun gg w => Upd (fun _ => False) w12 w ∧ (gg.1 ≤ 4 ∧ (0 < gg.1 → a + gg.1 ≤ xs.length)) ∧ (0 < n → goR (fun zs => (bestR W (n - 1) zs).2) W (4 - gg.1) gg.2.1 (gg.2.2.1, gg.2.2.2.1) gg.1 (xs.drop (a + gg.1)) = bestR W n (xs.drop a)) ∧ (n = 0 → gg.2.2.2.1 = -1 ∧ gg.2.2.1 = 0) ∧ ((0 ≤ gg.2.1.long ∧ gg.2.1.long ≤ 200) ∧ (0 ≤ gg.2.1.wide ∧ gg.2.1.wide ≤ 30 * (gg.1 : Int))) ∧ (gg.2.2.2.2.2.2.2 = lstOf W (n - 1) (xs.drop a) (gg.2.2.1, gg.2.2.2.1)) ∧ (Sl encI 1 w gg.2.2.2.2.1 gg.2.2.2.2.2.1 0 gg.2.2.2.2.2.2.2) ∧ (-1 ≤ gg.2.2.2.1 ∧ gg.2.2.2.1 ≤ 100000)) (fun gg => 5 - gg.1) (0, ⟨0, 0, 0⟩, 0, -1, some ⟨bk11, 0, none⟩, bk11, 0, []) ⟨rfl, rfl, rfl, rfl, rfl, rfl, rfl, rfl, rfl, trivial⟩ ⟨Upd.refl _ _, ⟨Nat.zero_le _, fun h => absurd h (Nat.lt_irrefl 0)⟩, (fun hn => goR_start hn (by omega)), (fun _ => ⟨rfl, rfl⟩), (by simp only []; omega), rfl, (Sl.nil _ _ _ _ _ _), (by simp only []; omega)⟩ ?_)))))))))))))))))
  intro gg w20 hW K19 hK19
  obtain ⟨k, r, f, t, al, gl, cl, l⟩ := gg
  change WC _ _ _ _ _ _ [(0, .slice ao xs.length cap), (1, .int .i64 (a : Int)), (2, .int .i64 W), (3, .int .i64 (n : Int)), (10, .slice al l.length cl), (11, .int .i64 t), (12, .int .i64 r.long), (13, .int .i64 r.wide), (14, .int .i64 ((k : Int) + 1))] _
  change Upd (fun _ => False) w12 w20 ∧ (k ≤ 4 ∧ (0 < k → a + k ≤ xs.length)) ∧ (0 < n → goR (fun zs => (bestR W (n - 1) zs).2) W (4 - k) r (f, t) k (xs.drop (a + k)) = bestR W n (xs.drop a)) ∧ (n = 0 → t = -1 ∧ f = 0) ∧ ((0 ≤ r.long ∧ r.long ≤ 200) ∧ (0 ≤ r.wide ∧ r.wide ≤ 30 * (k : Int))) ∧ (l = lstOf W (n - 1) (xs.drop a) (f, t)) ∧ (Sl encI 1 w20 al gl 0 l) ∧ (-1 ≤ t ∧ t ≤ 100000) at hW
  obtain ⟨u21, I22, I23, I24, I25, I26, I27, I28⟩ := hW
  have zu21 := u21.size
  have E29 := E15.next u21 (fun _ _ h => h.elim)
  have hk := I22; clear I22
  have hgo := I23; clear I23
  have hz := I24; clear I24
  have hrb := I25; clear I25
  have hl := I26; clear I26
  have hL := I27; clear I27
  have htb := I28; clear I28
  refine c_seq fun K30 hK30 => (c_seq fun K31 hK31 => (c_region (t_move rfl rfl rfl (t_cmp rfl rfl rfl rfl rfl (t_move rfl rfl rfl (t_splitp 26 rfl (fun g26 => ?_) (fun g26 => ?_)))))))
  ·
   refine t_move rfl rfl rfl (t_move rfl rfl rfl (t_ari rfl rfl rfl rfl rfl (by omega) (t_move rfl rfl rfl (t_len Try.underlying24 rfl rfl rfl rfl (t_cmp rfl rfl rfl rfl rfl (t_pick_t rfl rfl rfl rfl (t_move rfl rfl rfl (t_splitp 34 rfl (fun g34 => ?_) (fun g34 => ?_)))))))))
   ·
    refine t_move rfl rfl rfl (t_cmp rfl rfl rfl rfl rfl (t_pick_t rfl rfl rfl rfl (t_nil' (hK31 _ _ (c_condp rfl (fun g37 => ?_) (fun g37 => ?_))))))
    ·
     refine c_skip (hK30 _ _ (c_seq fun K32 hK32 => (c_block (c_seq fun K33 hK33 => (c_region (t_move rfl rfl rfl (t_move rfl rfl rfl (t_move rfl rfl rfl (t_ari rfl rfl rfl rfl rfl (by omega) (t_ari rfl rfl rfl rfl rfl (by omega) ?_))))))))))
     have i34 : (a + k) < xs.length := (by omega)
     refine t_index (j := (a + k)) Try.underlying24 Try.sizeOf23 rfl rfl rfl rfl ((hsl.keep E29 (fun _ h => h)).addr (by omega)) (by omega) i34 (t_loadN (vs := [.int .i64 ((nth xs (a + k)).len), .int .i64 ((nth xs (a + k)).wid), .int .i64 ((nth xs (a + k)).mass)]) Try.isAgg23 Try.sizeOf23 rfl rfl rfl (((hsl.keep E29 (fun _ h => h)).at_ (a + k) (by omega)).sub 0 3) rfl ?_)
     have hh := okHull_rng (hp.ok _ (nth_mem (xs := xs) (i := a + k) (by omega)))
     refine t_alloc (cs := [.int .i64 0, .int .i64 0, .int .i64 0]) Try.zeroValue23 rfl rfl rfl (fun bk35 w36 ebk35 sbk35 B37 u38 => ?_)
     have zu38 := u38.size
     have E39 := E29.next u38 (fun _ _ h => h.elim)
     refine t_store (vs := [.int .i64 ((nth xs (a + k)).len), .int .i64 ((nth xs (a + k)).wid), .int .i64 ((nth xs (a + k)).mass)]) Try.sizeOf23 rfl rfl rfl B37 rfl rfl (Nat.le_of_ble_eq_true rfl) (by simp [Value.oneCell']) (fun w40 sw40 B42 u41 => ?_)
     have zu41 := u41.size
     have E43 := E39.next u41 (fun i hi (h : i = bk35) => show False by first | omega | assumption)
     have B42 : Blk w40 bk35 23 [.int .i64 ((nth xs (a + k)).len), .int .i64 ((nth xs (a + k)).wid), .int .i64 ((nth xs (a + k)).mass)] := B42
     refine t_nil' (hK33 _ _ (c_seq fun K44 hK44 => (WC.weak [(0, .slice ao xs.length cap), (1, .int .i64 (a : Int)), (2, .int .i64 W), (3, .int .i64 (n : Int)), (10, .slice al l.length cl), (11, .int .i64 t), (12, .int .i64 r.long), (13, .int .i64 r.wide), (14, .int .i64 ((k : Int) + 1)), (15, .pointer (some ⟨bk35, 0, none⟩))] ⟨rfl, rfl, rfl, rfl, rfl, rfl, rfl, rfl, rfl, rfl, trivial⟩ (c_drawn follows 10 [some (47, some (.int .i64 r.long)), some (48, some (.pointer (some ⟨bk35, 0, none⟩))), some (49, some (.int .i64 ((nth xs (a + k)).len))), some (50, some (.int .i64 (max r.long ((nth xs (a + k)).len)))), some (51, some (.int .i64 r.wide)), some (52, some (.pointer (some ⟨bk35, 1, none⟩))), some (53, some (.int .i64 ((nth xs (a + k)).wid))), some (54, some (.int .i64 (r.wide + ((nth xs (a + k)).wid)))), some (12, some (.int .i64 (max r.long ((nth xs (a + k)).len)))), some (13, some (.int .i64 (r.wide + ((nth xs (a + k)).wid))))] [[],[],[1],[0,2],[],[],[5],[4,6],[3,0,1,2,3],[7,8,0,1,2,3,4,5,6,7,8]] (fun _ _ w => Upd (fun _ => False) w40 w) rfl rfl rfl (by kernel_rfl) (by kernel_rfl) (Upd.drew _).to ⟨?_, ?_, ?_, ?_, ?_, ?_, ?_, ?_, ?_, ?_, trivial⟩ ?_))))
     · exact pz rfl rfl rfl rfl fun _ _ _ h => h
     · exact pzf Try.underlying23 rfl Try.sizeOf3 (0) rfl rfl rfl rfl rfl fun _ _ _ h => h
     ·
      intro D ρ w45 hcD hnD hdD hW
      have zhW := hW.size
      refine ⟨_, kf_fr [48], fun Lr => ?_⟩
      have B48 := (B42.keep hW (fun h => h))
      refine t_load Try.isAgg3 rfl rfl rfl (B48.get rfl) ?_
      exact dz rfl hW
     ·
      intro D ρ w49 hcD hnD hdD hW
      have zhW := hW.size
      refine ⟨_, kf_fr [47, 49], fun Lr => ?_⟩
      refine t_max rfl rfl rfl rfl ?_
      exact dz rfl hW
     · exact pz rfl rfl rfl rfl fun _ _ _ h => h
     · exact pzf Try.underlying23 rfl Try.sizeOf3 (1) rfl rfl rfl rfl rfl fun _ _ _ h => h
     ·
      intro D ρ w52 hcD hnD hdD hW
      have zhW := hW.size
      refine ⟨_, kf_fr [52], fun Lr => ?_⟩
      have B55 := (B42.keep hW (fun h => h))
      refine t_load Try.isAgg3 rfl rfl rfl (B55.get rfl) ?_
      exact dz rfl hW
     ·
      intro D ρ w56 hcD hnD hdD hW
      have zhW := hW.size
      refine ⟨_, kf_fr [51, 53], fun Lr => ?_⟩
      refine t_ari rfl rfl rfl rfl rfl (by omega) ?_
      exact dz rfl hW
     · exact pz rfl rfl rfl rfl fun _ _ _ h => h
     · exact pz rfl rfl rfl rfl fun _ _ _ h => h
     intro ρ w59 hW
     have u60 : Upd (fun _ => False) w40 w59 := hW
     have zu60 := u60.size
     have E61 := E43.next u60 (fun _ _ h => h.elim)
     refine QK.weak [(0, .slice ao xs.length cap), (1, .int .i64 (a : Int)), (2, .int .i64 W), (3, .int .i64 (n : Int)), (10, .slice al l.length cl), (11, .int .i64 t), (12, .int .i64 (max r.long ((nth xs (a + k)).len))), (13, .int .i64 (r.wide + ((nth xs (a + k)).wid))), (14, .int .i64 ((k : Int) + 1))] ⟨rfl, rfl, rfl, rfl, rfl, rfl, rfl, rfl, rfl, trivial⟩ (hK44 _ _ (c_seq fun K62 hK62 => (c_seq fun K63 hK63 => (c_region (t_move rfl rfl rfl (t_move rfl rfl rfl (t_cmp rfl rfl rfl rfl rfl (t_nil' (hK63 _ _ (c_condp rfl (fun g57 => ?_) (fun g57 => ?_)))))))))))
     ·
      refine c_exit (hK17 _ _ (c_seq fun K64 hK64 => (c_region (t_move rfl rfl rfl (t_move rfl rfl rfl (t_assign rfl rfl rfl (t_assign rfl rfl rfl (t_nil' (hK64 _ _ (c_ret (f_ret2 (v1 := .slice al l.length cl) (v2 := .int .i64 t) Try.results61 rfl rfl ?_)))))))))))
      have D65 := (((hL.keep u38 (fun _ h => h)).keep u41 (fun hp => by have hlt := hL.lt hp; show ¬ (gl = bk35); first | omega | assumption)).keep u60 (fun _ h => h))
      have hfin : bestR W n (xs.drop a) = (f, t) := by rw [← hgo (by omega), goX_break (by omega) (by omega) g57]
      have hX : rowsX W n (xs.drop a) = l := by rw [rowsX_lst (by rw [List.length_drop]; omega), hfin, ← hl]
      exact ⟨⟨al, gl, cl, by rw [hX, hfin], by rw [hX]; exact D65⟩, E61⟩
     ·
      refine c_skip (hK62 _ _ (c_seq fun K66 hK66 => (c_region (t_move rfl rfl rfl (t_move rfl rfl rfl (t_move rfl rfl rfl (t_ari rfl rfl rfl rfl rfl (by omega) (t_same 62 (v := .int .i64 ((a + (k + 1) : Nat) : Int)) rfl (congrArg (Value.int .i64) (by omega)) (t_move rfl rfl rfl (t_move rfl rfl rfl (t_ari rfl rfl rfl rfl rfl (by omega) (t_same 65 (v := .int .i64 ((n - 1 : Nat) : Int)) rfl (congrArg (Value.int .i64) (by omega)) (t_call (vs := [.slice ao xs.length cap, .int .i64 ((a + (k + 1) : Nat) : Int), .int .i64 W, .int .i64 ((n - 1 : Nat) : Int)]) own61 rfl rfl rfl rfl (ih (n - 1) (by omega) (a + (k + 1)) _ ⟨by omega, by omega, (hsl.keep E61 (fun _ h => h)), hp.len, hp.ok, hp.wid⟩) (fun v68 w69 r71 => ?_))))))))))))))
      obtain ⟨⟨aoR67, bR67, cpR67, rfl, hR67⟩, u70⟩ := r71
      have zu70 := u70.size
      have hbb := bestR_bound W (n - 1) (xs.drop (a + (k + 1))) (fun h hh => hp.ok h (List.mem_of_mem_drop hh))
      have hrl := rowsX_len (W := W) (n := n - 1) (ys := xs.drop (a + (k + 1)))
      refine t_move rfl rfl rfl (t_extract (vs := [.slice aoR67 ((rowsX W (n - 1) (xs.drop (a + (k + 1)))).length) cpR67, .int .i64 ((bestR W (n - 1) (xs.drop (a + (k + 1)))).2)]) rfl rfl rfl rfl (t_extract (vs := [.slice aoR67 ((rowsX W (n - 1) (xs.drop (a + (k + 1)))).length) cpR67, .int .i64 ((bestR W (n - 1) (xs.drop (a + (k + 1)))).2)]) rfl rfl rfl rfl (t_assign rfl rfl rfl (t_assign rfl rfl rfl (t_nil' (hK66 _ _ (c_seq fun K73 hK73 => (c_region (t_move rfl rfl rfl (t_cmp rfl rfl rfl rfl rfl (t_move rfl rfl rfl (t_splitp 71 rfl (fun g71 => ?_) (fun g71 => ?_)))))))))))))
      ·
       refine t_move rfl rfl rfl (t_cmp rfl rfl rfl rfl rfl (t_move rfl rfl rfl (t_splitp 74 rfl (fun g74 => ?_) (fun g74 => ?_))))
       ·
        refine t_skip rfl rfl rfl (t_skip rfl rfl rfl (t_skip rfl rfl rfl (t_skip rfl rfl rfl (t_skip rfl rfl rfl (t_pick_t rfl rfl rfl rfl (t_pick_t rfl rfl rfl rfl (t_nil' (hK73 _ _ (c_cond_t rfl (c_region (t_move rfl rfl rfl (t_bslice (ps := [(0, .int .i64 ((k : Int) + 1))]) (cs := [.int .i64 ((k : Int) + 1)]) (e := 3) rfl rfl ⟨rfl, rfl⟩ (fun w => by kernel_rfl) (fun bk74 w75 ebk74 sbk74 B76 u77 => ?_)))))))))))))
        have zu77 := u77.size
        refine t_move rfl rfl rfl ?_
        have D79 := (hR67.keep u77 (fun _ h => h))
        refine t_appLit (enc := encI) (z := .int .i64 0) (bytes := 8) (k := 1) (xs := [((k : Int) + 1)]) (ys := (rowsX W (n - 1) (xs.drop (a + (k + 1))))) Try.underlying27 (by kernel_rfl) rfl (by decide) (fun _ => rfl) (by intro x; simp [encI, Value.oneCell']) rfl rfl rfl rfl B76 D79 (by simp) (by omega) (by decide) (fun ao80 gb81 cp82 w83 A84 u85 gegb81 => ?_)
        have zu85 := u85.size
        have lt_gb81 := A84.lt
        refine t_move rfl rfl rfl (t_move rfl rfl rfl (t_ari rfl rfl rfl rfl rfl (by omega) (t_assign rfl rfl rfl (t_assign rfl rfl rfl (t_nil' (hK32 _ _ (c_region (t_move rfl rfl rfl (t_ari rfl rfl rfl rfl rfl (by omega) (t_assign rfl rfl rfl (t_nil' ?_)))))))))))
        have hpk : pickR (f, t) k (max r.long (nth xs (a + k)).len) (bestR W (n - 1) (xs.drop (a + k + 1))).2 = (((k : Int) + 1), ((max r.long ((nth xs (a + k)).len)) + ((bestR W (n - 1) (xs.drop (a + (k + 1)))).2))) := by rw [show a + k + 1 = a + (k + 1) by omega]; unfold pickR; first | (rw [if_pos (by omega)]) | (rw [if_neg (by omega)])
        exact hK19 (k + 1, (addH r (nth xs (a + k))), ((k : Int) + 1), ((max r.long ((nth xs (a + k)).len)) + ((bestR W (n - 1) (xs.drop (a + (k + 1)))).2)), ao80, gb81, cp82, ([((k : Int) + 1)] ++ (rowsX W (n - 1) (xs.drop (a + (k + 1)))))) _ _ (by show 5 - (k + 1) < 5 - k; omega) ⟨rfl, rfl, rfl, rfl, rfl, rfl, rfl, rfl, rfl, trivial⟩ ⟨((((((u21.next u38 (fun _ _ h => h.elim)).next u41 (fun i hi (h : i = bk35) => show False by first | omega | assumption)).next u60 (fun _ _ h => h.elim)).next u70 (fun _ _ h => h.elim)).next u77 (fun _ _ h => h.elim)).next u85 (fun i hi (h : (i = bk74 ∧ bk74 ≤ i)) => show False by first | omega | assumption)), (by omega), (fun hn => by rw [← hgo hn, goX_next (by omega) (by omega) g57, hpk]), (fun hn => absurd hn (by omega)), (by have hh := okHull_rng (hp.ok _ (nth_mem (xs := xs) (i := a + k) (by omega))); show (0 ≤ max r.long (nth xs (a + k)).len ∧ max r.long (nth xs (a + k)).len ≤ 200) ∧ (0 ≤ r.wide + (nth xs (a + k)).wid ∧ r.wide + (nth xs (a + k)).wid ≤ 30 * ((k + 1 : Nat) : Int)); omega), (by show [((k : Int) + 1)] ++ rowsX W (n - 1) (xs.drop (a + (k + 1))) = lstOf W (n - 1) (xs.drop a) (((k : Int) + 1), ((max r.long ((nth xs (a + k)).len)) + ((bestR W (n - 1) (xs.drop (a + (k + 1)))).2))); rw [lstOf_pick (by omega), List.drop_drop, rowsX_pos (by omega)]; rfl), (A84.sl (fun _ => rfl)), (by show (-1 : Int) ≤ ((max r.long ((nth xs (a + k)).len)) + ((bestR W (n - 1) (xs.drop (a + (k + 1)))).2)) ∧ (((max r.long ((nth xs (a + k)).len)) + ((bestR W (n - 1) (xs.drop (a + (k + 1)))).2)) : Int) ≤ _; omega)⟩
       ·
        refine t_move rfl rfl rfl (t_move rfl rfl rfl (t_ari rfl rfl rfl rfl rfl (by omega) (t_move rfl rfl rfl (t_cmp rfl rfl rfl rfl rfl (t_pick_f rfl rfl rfl rfl (t_pick_t rfl rfl rfl rfl (t_nil' (hK73 _ _ (c_condp rfl (fun g81 => ?_) (fun g81 => ?_))))))))))
        ·
         refine c_region (t_move rfl rfl rfl (t_bslice (ps := [(0, .int .i64 ((k : Int) + 1))]) (cs := [.int .i64 ((k : Int) + 1)]) (e := 3) rfl rfl ⟨rfl, rfl⟩ (fun w => by kernel_rfl) (fun bk87 w88 ebk87 sbk87 B89 u90 => ?_)))
         have zu90 := u90.size
         refine t_move rfl rfl rfl ?_
         have D92 := (hR67.keep u90 (fun _ h => h))
         refine t_appLit (enc := encI) (z := .int .i64 0) (bytes := 8) (k := 1) (xs := [((k : Int) + 1)]) (ys := (rowsX W (n - 1) (xs.drop (a + (k + 1))))) Try.underlying27 (by kernel_rfl) rfl (by decide) (fun _ => rfl) (by intro x; simp [encI, Value.oneCell']) rfl rfl rfl rfl B89 D92 (by simp) (by omega) (by decide) (fun ao93 gb94 cp95 w96 A97 u98 gegb94 => ?_)
         have zu98 := u98.size
         have lt_gb94 := A97.lt
         refine t_move rfl rfl rfl (t_move rfl rfl rfl (t_ari rfl rfl rfl rfl rfl (by omega) (t_assign rfl rfl rfl (t_assign rfl rfl rfl (t_nil' (hK32 _ _ (c_region (t_move rfl rfl rfl (t_ari rfl rfl rfl rfl rfl (by omega) (t_assign rfl rfl rfl (t_nil' ?_)))))))))))
         have hpk : pickR (f, t) k (max r.long (nth xs (a + k)).len) (bestR W (n - 1) (xs.drop (a + k + 1))).2 = (((k : Int) + 1), ((max r.long ((nth xs (a + k)).len)) + ((bestR W (n - 1) (xs.drop (a + (k + 1)))).2))) := by rw [show a + k + 1 = a + (k + 1) by omega]; unfold pickR; first | (rw [if_pos (by omega)]) | (rw [if_neg (by omega)])
         exact hK19 (k + 1, (addH r (nth xs (a + k))), ((k : Int) + 1), ((max r.long ((nth xs (a + k)).len)) + ((bestR W (n - 1) (xs.drop (a + (k + 1)))).2)), ao93, gb94, cp95, ([((k : Int) + 1)] ++ (rowsX W (n - 1) (xs.drop (a + (k + 1)))))) _ _ (by show 5 - (k + 1) < 5 - k; omega) ⟨rfl, rfl, rfl, rfl, rfl, rfl, rfl, rfl, rfl, trivial⟩ ⟨((((((u21.next u38 (fun _ _ h => h.elim)).next u41 (fun i hi (h : i = bk35) => show False by first | omega | assumption)).next u60 (fun _ _ h => h.elim)).next u70 (fun _ _ h => h.elim)).next u90 (fun _ _ h => h.elim)).next u98 (fun i hi (h : (i = bk87 ∧ bk87 ≤ i)) => show False by first | omega | assumption)), (by omega), (fun hn => by rw [← hgo hn, goX_next (by omega) (by omega) g57, hpk]), (fun hn => absurd hn (by omega)), (by have hh := okHull_rng (hp.ok _ (nth_mem (xs := xs) (i := a + k) (by omega))); show (0 ≤ max r.long (nth xs (a + k)).len ∧ max r.long (nth xs (a + k)).len ≤ 200) ∧ (0 ≤ r.wide + (nth xs (a + k)).wid ∧ r.wide + (nth xs (a + k)).wid ≤ 30 * ((k + 1 : Nat) : Int)); omega), (by show [((k : Int) + 1)] ++ rowsX W (n - 1) (xs.drop (a + (k + 1))) = lstOf W (n - 1) (xs.drop a) (((k : Int) + 1), ((max r.long ((nth xs (a + k)).len)) + ((bestR W (n - 1) (xs.drop (a + (k + 1)))).2))); rw [lstOf_pick (by omega), List.drop_drop, rowsX_pos (by omega)]; rfl), (A97.sl (fun _ => rfl)), (by show (-1 : Int) ≤ ((max r.long ((nth xs (a + k)).len)) + ((bestR W (n - 1) (xs.drop (a + (k + 1)))).2)) ∧ (((max r.long ((nth xs (a + k)).len)) + ((bestR W (n - 1) (xs.drop (a + (k + 1)))).2)) : Int) ≤ _; omega)⟩
        ·
         refine c_skip (hK32 _ _ (c_region (t_move rfl rfl rfl (t_ari rfl rfl rfl rfl rfl (by omega) (t_assign rfl rfl rfl (t_nil' ?_))))))
         have hpk : pickR (f, t) k (max r.long (nth xs (a + k)).len) (bestR W (n - 1) (xs.drop (a + k + 1))).2 = (f, t) := by rw [show a + k + 1 = a + (k + 1) by omega]; unfold pickR; first | (rw [if_pos (by omega)]) | (rw [if_neg (by omega)])
         have D100 := ((((hL.keep u38 (fun _ h => h)).keep u41 (fun hp => by have hlt := hL.lt hp; show ¬ (gl = bk35); first | omega | assumption)).keep u60 (fun _ h => h)).keep u70 (fun _ h => h))
         exact hK19 (k + 1, (addH r (nth xs (a + k))), f, t, al, gl, cl, l) _ _ (by show 5 - (k + 1) < 5 - k; omega) ⟨rfl, rfl, rfl, rfl, rfl, rfl, rfl, rfl, rfl, trivial⟩ ⟨((((u21.next u38 (fun _ _ h => h.elim)).next u41 (fun i hi (h : i = bk35) => show False by first | omega | assumption)).next u60 (fun _ _ h => h.elim)).next u70 (fun _ _ h => h.elim)), (by omega), (fun hn => by rw [← hgo hn, goX_next (by omega) (by omega) g57, hpk]), (fun hn => absurd hn (by omega)), (by have hh := okHull_rng (hp.ok _ (nth_mem (xs := xs) (i := a + k) (by omega))); show (0 ≤ max r.long (nth xs (a + k)).len ∧ max r.long (nth xs (a + k)).len ≤ 200) ∧ (0 ≤ r.wide + (nth xs (a + k)).wid ∧ r.wide + (nth xs (a + k)).wid ≤ 30 * ((k + 1 : Nat) : Int)); omega), hl, D100, (by show (-1 : Int) ≤ t ∧ (t : Int) ≤ _; omega)⟩
      ·
       refine t_skip rfl rfl rfl (t_skip rfl rfl rfl (t_skip rfl rfl rfl (t_skip rfl rfl rfl (t_skip rfl rfl rfl (t_skip rfl rfl rfl (t_skip rfl rfl rfl (t_skip rfl rfl rfl (t_skip rfl rfl rfl (t_pick_f rfl rfl rfl rfl (t_nil' (hK73 _ _ (c_cond_f rfl (c_skip (hK32 _ _ (c_region (t_move rfl rfl rfl (t_ari rfl rfl rfl rfl rfl (by omega) (t_assign rfl rfl rfl (t_nil' ?_)))))))))))))))))))
       have hpk : pickR (f, t) k (max r.long (nth xs (a + k)).len) (bestR W (n - 1) (xs.drop (a + k + 1))).2 = (f, t) := by rw [show a + k + 1 = a + (k + 1) by omega]; unfold pickR; first | (rw [if_pos (by omega)]) | (rw [if_neg (by omega)])
       have D101 := ((((hL.keep u38 (fun _ h => h)).keep u41 (fun hp => by have hlt := hL.lt hp; show ¬ (gl = bk35); first | omega | assumption)).keep u60 (fun _ h => h)).keep u70 (fun _ h => h))
       exact hK19 (k + 1, (addH r (nth xs (a + k))), f, t, al, gl, cl, l) _ _ (by show 5 - (k + 1) < 5 - k; omega) ⟨rfl, rfl, rfl, rfl, rfl, rfl, rfl, rfl, rfl, trivial⟩ ⟨((((u21.next u38 (fun _ _ h => h.elim)).next u41 (fun i hi (h : i = bk35) => show False by first | omega | assumption)).next u60 (fun _ _ h => h.elim)).next u70 (fun _ _ h => h.elim)), (by omega), (fun hn => by rw [← hgo hn, goX_next (by omega) (by omega) g57, hpk]), (fun hn => absurd hn (by omega)), (by have hh := okHull_rng (hp.ok _ (nth_mem (xs := xs) (i := a + k) (by omega))); show (0 ≤ max r.long (nth xs (a + k)).len ∧ max r.long (nth xs (a + k)).len ≤ 200) ∧ (0 ≤ r.wide + (nth xs (a + k)).wid ∧ r.wide + (nth xs (a + k)).wid ≤ 30 * ((k + 1 : Nat) : Int)); omega), hl, D101, (by show (-1 : Int) ≤ t ∧ (t : Int) ≤ _; omega)⟩
    ·
     refine c_exit (hK17 _ _ (c_seq fun K102 hK102 => (c_region (t_move rfl rfl rfl (t_move rfl rfl rfl (t_assign rfl rfl rfl (t_assign rfl rfl rfl (t_nil' (hK102 _ _ (c_ret (f_ret2 (v1 := .slice al l.length cl) (v2 := .int .i64 t) Try.results61 rfl rfl ?_)))))))))))
     have hfin : bestR W n (xs.drop a) = (f, t) := by rcases Nat.eq_zero_or_pos n with h0 | h0; (obtain ⟨h1, h2⟩ := hz h0; rw [h0, bestR_zero (by omega), h1, h2]); (rw [← hgo h0, goX_end (by omega)])
     have hX : rowsX W n (xs.drop a) = l := by rw [rowsX_lst (by rw [List.length_drop]; omega), hfin, ← hl]
     exact ⟨⟨al, gl, cl, by rw [hX, hfin], by rw [hX]; exact hL⟩, E29⟩
   ·
    refine t_skip rfl rfl rfl (t_skip rfl rfl rfl (t_pick_f rfl rfl rfl rfl (t_nil' (hK31 _ _ (c_cond_f rfl (c_exit (hK17 _ _ (c_seq fun K103 hK103 => (c_region (t_move rfl rfl rfl (t_move rfl rfl rfl (t_assign rfl rfl rfl (t_assign rfl rfl rfl (t_nil' (hK103 _ _ (c_ret (f_ret2 (v1 := .slice al l.length cl) (v2 := .int .i64 t) Try.results61 rfl rfl ?_)))))))))))))))))
    have hfin : bestR W n (xs.drop a) = (f, t) := by rcases Nat.eq_zero_or_pos n with h0 | h0; (obtain ⟨h1, h2⟩ := hz h0; rw [h0, bestR_zero (by omega), h1, h2]); (rw [← hgo h0, goX_end (by omega)])
    have hX : rowsX W n (xs.drop a) = l := by rw [rowsX_lst (by rw [List.length_drop]; omega), hfin, ← hl]
    exact ⟨⟨al, gl, cl, by rw [hX, hfin], by rw [hX]; exact hL⟩, E29⟩
  ·
   refine t_skip rfl rfl rfl (t_skip rfl rfl rfl (t_skip rfl rfl rfl (t_skip rfl rfl rfl (t_skip rfl rfl rfl (t_skip rfl rfl rfl (t_pick_f rfl rfl rfl rfl (t_move rfl rfl rfl (t_skip rfl rfl rfl (t_skip rfl rfl rfl (t_pick_f rfl rfl rfl rfl (t_nil' (hK31 _ _ (c_cond_f rfl (c_exit (hK17 _ _ (c_seq fun K104 hK104 => (c_region (t_move rfl rfl rfl (t_move rfl rfl rfl (t_assign rfl rfl rfl (t_assign rfl rfl rfl (t_nil' (hK104 _ _ ?_)))))))))))))))))))))))
   refine c_ret (f_ret2 (v1 := .slice al l.length cl) (v2 := .int .i64 t) Try.results61 rfl rfl ?_)
   have hfin : bestR W n (xs.drop a) = (f, t) := by rcases Nat.eq_zero_or_pos n with h0 | h0; (obtain ⟨h1, h2⟩ := hz h0; rw [h0, bestR_zero (by omega), h1, h2]); (rw [← hgo h0, goX_end (by omega)])
   have hX : rowsX W n (xs.drop a) = l := by rw [rowsX_lst (by rw [List.length_drop]; omega), hfin, ← hl]
   exact ⟨⟨al, gl, cl, by rw [hX, hfin], by rw [hX]; exact hL⟩, E29⟩


theorem rows_c (xs : List Hull) (W : Int) (ao : Option Addr) (b o cap : Nat) : ∀ (n a : Nat) (w0 : World), RowsPre xs W ao b o cap n a w0 →
    CallsV Try.prog 61 [.slice ao xs.length cap, .int .i64 (a : Int), .int .i64 W, .int .i64 (n : Int)] w0 (fun v w' => (∃ ao' b' cap', v = .tuple #[.slice ao' (rowsX W n (xs.drop a)).length cap', .int .i64 (bestR W n (xs.drop a)).2] ∧ Sl encI 1 w' ao' b' 0 (rowsX W n (xs.drop a))) ∧ Ext w0 w') := by
  intro n
  induction n with
  | zero => exact fun a w0 hp => rows_s xs W ao b o cap 0 a w0 hp (fun m hm => by omega)
  | succ n ih => exact fun a w0 hp => rows_s xs W ao b o cap (n + 1) a w0 hp (fun m hm => by
      have e : m = n := by omega
      subst e
      exact ih)

theorem rStack_c (boat : Hull) (xs : List Hull) (W : Int) (ao : Option Addr) (b o cap : Nat) (w0 : World) (hs : Sl encHull 3 w0 ao b o xs) (hl : xs.length ≤ 1000000) :
    CallsV Try.prog 19 [.agg #[.int .i64 boat.len, .int .i64 boat.wid, .int .i64 boat.mass], .slice ao xs.length cap, .int .i64 W] w0 (fun v w' => ∃ ao' b' cap', v = .tuple #[.slice ao' (StkR boat xs W).length cap', .int .i64 (StkN boat xs W), .int .i64 (StkE boat xs W)] ∧ Sl encI 1 w' ao' b' 0 (StkR boat xs W) ∧ Ext w0 w') := by
 have E0 := Upd.refl (fun _ => False) w0
 refine f_enter (N := 52) Try.func19 rfl rfl rfl ?_
 change WC _ _ _ _ _ _ [(0, .agg #[.int .i64 boat.len, .int .i64 boat.wid, .int .i64 boat.mass]), (1, .slice ao xs.length cap), (2, .int .i64 W)] _
 refine c_seq fun K1 hK1 => (c_region (t_box (cs := [.int .i64 boat.len, .int .i64 boat.wid, .int .i64 boat.mass]) rfl rfl rfl rfl (fun bk2 w3 ebk2 sbk2 B4 u5 => ?_)))
 have zu5 := u5.size
 have E6 := E0.next u5 (fun _ _ h => h.elim)
 refine t_assign rfl rfl rfl (t_assign rfl rfl rfl (t_assign rfl rfl rfl (t_nil' (hK1 _ _ (c_seq fun K7 hK7 => (c_seq fun K8 hK8 => (c_region (t_loadN (vs := [.int .i64 boat.len, .int .i64 boat.wid, .int .i64 boat.mass]) Try.isAgg23 Try.sizeOf23 rfl rfl rfl (B4.at.sub 0 3) rfl (t_call (vs := [.agg #[.int .i64 boat.len, .int .i64 boat.wid, .int .i64 boat.mass]]) own20 rfl rfl rfl rfl (rHull_c boat _) (fun v9 w10 r12 => ?_))))))))))
 obtain ⟨rfl, u11⟩ := r12
 have zu11 := u11.size
 have E13 := E6.next u11 (fun _ _ h => h.elim)
 refine t_not rfl rfl rfl (t_nil' (hK8 _ _ (c_cond rfl (fun g14 => ?_) (fun g14 => ?_))))
 ·
  refine c_seq fun K14 hK14 => (c_region (t_assign rfl rfl rfl (t_assign rfl rfl rfl (t_assign rfl rfl rfl (t_nil' (hK14 _ _ (c_ret (f_ret3 (v1 := .slice none 0 0) (v2 := .int .i64 0) (v3 := .int .i64 2) Try.results19 rfl rfl rfl ?_))))))))
  have hE : StkE boat xs W = 2 := by unfold StkE; rw [if_pos (by simp at g14; simp [g14])]
  exact ⟨none, 0, 0, by rw [(stk_bad hE (by decide)).1, (stk_bad hE (by decide)).2, hE]; rfl, by rw [(stk_bad hE (by decide)).2]; exact Sl.nil _ _ _ _ _ _, E13⟩
 ·
  have hb : okHull boat = true := by simpa using g14
  have hbr := okHull_rng hb
  refine c_skip (hK7 _ _ (c_seq fun K15 hK15 => (c_seq fun K16 hK16 => (c_region (t_assign rfl rfl rfl (t_nil' (hK16 _ _ (c_block (c_loop (γ := Nat) (fun k => [(1, .slice ao xs.length cap), (2, .int .i64 W), (3, .pointer (some ⟨bk2, 0, none⟩)), (9, .int .i64 (k : Int))]) (fun k w => Upd (fun _ => False) w10 w ∧ (k ≤ xs.length) ∧ ((xs.take k).all okHull = true)) (fun k => xs.length - k) 0 ⟨rfl, rfl, rfl, rfl, trivial⟩ ⟨Upd.refl _ _, Nat.zero_le _, rfl⟩ ?_)))))))))
  intro k w18 hW K17 hK17
  obtain ⟨u19, I20, I21⟩ := hW
  have zu19 := u19.size
  have E22 := E13.next u19 (fun _ _ h => h.elim)
  have hk := I20; clear I20
  have hin := I21; clear I21
  refine c_seq fun K23 hK23 => (c_seq fun K24 hK24 => (c_region (t_move rfl rfl rfl (t_move rfl rfl rfl (t_len Try.underlying24 rfl rfl rfl rfl (t_cmp rfl rfl rfl rfl rfl (t_nil' (hK24 _ _ (c_condp rfl (fun g18 => ?_) (fun g18 => ?_))))))))))
  ·
   refine c_skip (hK23 _ _ (c_seq fun K25 hK25 => (c_block (c_seq fun K26 hK26 => (c_region (t_move rfl rfl rfl (t_move rfl rfl rfl ?_)))))))
   have i27 : k < xs.length := (by omega)
   refine t_index (j := k) Try.underlying24 Try.sizeOf23 rfl rfl rfl rfl ((hs.keep E22 (fun _ h => h)).addr (by omega)) rfl i27 (t_loadN (vs := [.int .i64 ((nth xs k).len), .int .i64 ((nth xs k).wid), .int .i64 ((nth xs k).mass)]) Try.isAgg23 Try.sizeOf23 rfl rfl rfl (((hs.keep E22 (fun _ h => h)).at_ k (by omega)).sub 0 3) rfl (t_call (vs := [.agg #[.int .i64 ((nth xs k).len), .int .i64 ((nth xs k).wid), .int .i64 ((nth xs k).mass)]]) own20 rfl rfl rfl rfl (rHull_c (nth xs k) _) (fun v28 w29 r31 => ?_)))
   obtain ⟨rfl, u30⟩ := r31
   have zu30 := u30.size
   have E32 := E22.next u30 (fun _ _ h => h.elim)
   refine t_not rfl rfl rfl (t_nil' (hK26 _ _ (c_cond rfl (fun g26 => ?_) (fun g26 => ?_))))
   ·
    refine c_seq fun K33 hK33 => (c_region (t_assign rfl rfl rfl (t_assign rfl rfl rfl (t_assign rfl rfl rfl (t_nil' (hK33 _ _ (c_ret (f_ret3 (v1 := .slice none 0 0) (v2 := .int .i64 0) (v3 := .int .i64 2) Try.results19 rfl rfl rfl ?_))))))))
    have hE : StkE boat xs W = 2 := by unfold StkE; rw [if_pos (by rw [any_at (xs := xs) (j := k) (by omega) (by simpa using g26)]; simp)]
    exact ⟨none, 0, 0, by rw [(stk_bad hE (by decide)).1, (stk_bad hE (by decide)).2, hE]; rfl, by rw [(stk_bad hE (by decide)).2]; exact Sl.nil _ _ _ _ _ _, E32⟩
   ·
    refine c_skip (hK25 _ _ (c_region (t_move rfl rfl rfl (t_ari rfl rfl rfl rfl rfl (by omega) (t_assign rfl rfl rfl (t_nil' ?_))))))
    exact hK17 (k + 1) _ _ (by omega) ⟨rfl, rfl, rfl, rfl, trivial⟩ ⟨(u19.next u30 (fun _ _ h => h.elim)), (by omega), (all_snoc (by omega) hin (by simpa using g26))⟩
  ·
   have hall : ∀ h ∈ xs, okHull h = true := by rw [List.take_of_length_le (by omega)] at hin; exact List.all_eq_true.1 hin
   have hany := any_of_all (List.all_eq_true.2 hall)
   refine c_exit (hK15 _ _ (c_seq fun K34 hK34 => (c_seq fun K35 hK35 => (c_region (t_move rfl rfl rfl (t_len Try.underlying24 rfl rfl rfl rfl (t_cmp rfl rfl rfl rfl rfl (t_nil' (hK35 _ _ (c_condp rfl (fun g29 => ?_) (fun g29 => ?_)))))))))))
   ·
    refine c_seq fun K36 hK36 => (c_region (t_assign rfl rfl rfl (t_assign rfl rfl rfl (t_assign rfl rfl rfl (t_nil' (hK36 _ _ (c_ret (f_ret3 (v1 := .slice none 0 0) (v2 := .int .i64 0) (v3 := .int .i64 5) Try.results19 rfl rfl rfl ?_))))))))
    have hE : StkE boat xs W = 5 := by unfold StkE; rw [if_neg (by simp [hb, hany]), if_pos (by omega)]
    exact ⟨none, 0, 0, by rw [(stk_bad hE (by decide)).1, (stk_bad hE (by decide)).2, hE]; rfl, by rw [(stk_bad hE (by decide)).2]; exact Sl.nil _ _ _ _ _ _, E22⟩
   ·
    refine c_skip (hK34 _ _ (c_seq fun K37 hK37 => (c_seq fun K38 hK38 => (c_region (t_move rfl rfl rfl (t_call (vs := [.int .i64 W, .int .i64 1, .int .i64 200]) own60 rfl rfl rfl rfl (rIn_c W 1 200 _) (fun v39 w40 r42 => ?_)))))))
    obtain ⟨rfl, u41⟩ := r42
    have zu41 := u41.size
    have E43 := E22.next u41 (fun _ _ h => h.elim)
    refine t_notp rfl rfl rfl (t_nil' (hK38 _ _ (c_condp rfl (fun g32 => ?_) (fun g32 => ?_))))
    ·
     refine c_seq fun K44 hK44 => (c_region (t_assign rfl rfl rfl (t_assign rfl rfl rfl (t_assign rfl rfl rfl (t_nil' (hK44 _ _ (c_ret (f_ret3 (v1 := .slice none 0 0) (v2 := .int .i64 0) (v3 := .int .i64 3) Try.results19 rfl rfl rfl ?_))))))))
     have hE : StkE boat xs W = 3 := by unfold StkE; rw [if_neg (by simp [hb, hany]), if_neg (by omega), if_pos g32]
     exact ⟨none, 0, 0, by rw [(stk_bad hE (by decide)).1, (stk_bad hE (by decide)).2, hE]; rfl, by rw [(stk_bad hE (by decide)).2]; exact Sl.nil _ _ _ _ _ _, E43⟩
    ·
     refine c_skip (hK37 _ _ (c_seq fun K45 hK45 => (c_region (t_move rfl rfl rfl (t_move rfl rfl rfl (t_call (vs := [.slice ao xs.length cap, .int .i64 0, .int .i64 W, .int .i64 10]) own61 rfl rfl rfl rfl (rows_c xs W ao b o cap 10 0 _ ⟨by omega, by omega, (hs.keep E43 (fun _ h => h)), by omega, hall, by omega⟩) (fun v46 w47 r49 => ?_)))))))
     obtain ⟨⟨aoR, bR, cpR, rfl, hR⟩, u48⟩ := r49
     have zu48 := u48.size
     have E50 := E43.next u48 (fun _ _ h => h.elim)
     have hbb := bestR_bound W 10 (xs.drop 0) (fun h hh => hall h (List.mem_of_mem_drop hh))
     refine t_move rfl rfl rfl (t_extract (vs := [.slice aoR ((rowsX W 10 (xs.drop 0)).length) cpR, .int .i64 ((bestR W 10 (xs.drop 0)).2)]) rfl rfl rfl rfl (t_extract (vs := [.slice aoR ((rowsX W 10 (xs.drop 0)).length) cpR, .int .i64 ((bestR W 10 (xs.drop 0)).2)]) rfl rfl rfl rfl (t_assign rfl rfl rfl (t_assign rfl rfl rfl (t_nil' (hK45 _ _ (c_seq fun K51 hK51 => (c_seq fun K52 hK52 => (c_region (t_field Try.underlying23 rfl Try.sizeOf3 (1) rfl rfl rfl rfl ?_))))))))))
     have B53 := ((((B4.keep u11 (fun h => h)).keep u19 (fun h => h)).keep u41 (fun h => h)).keep u48 (fun h => h))
     refine t_load Try.isAgg3 rfl rfl rfl (B53.get rfl) (t_move rfl rfl rfl (t_cmp rfl rfl rfl rfl rfl (t_move rfl rfl rfl (t_splitp 43 rfl (fun g43 => ?_) (fun g43 => ?_)))))
     ·
      refine t_skip rfl rfl rfl (t_skip rfl rfl rfl (t_pick_t rfl rfl rfl rfl (t_nil' (hK52 _ _ (c_cond_t rfl (c_seq fun K54 hK54 => (c_region (t_assign rfl rfl rfl (t_assign rfl rfl rfl (t_assign rfl rfl rfl (t_nil' (hK54 _ _ (c_ret (f_ret3 (v1 := .slice none 0 0) (v2 := .int .i64 0) (v3 := .int .i64 7) Try.results19 rfl rfl rfl ?_))))))))))))))
      have hE : StkE boat xs W = 7 := by unfold StkE; rw [if_neg (by simp [hb, hany]), if_neg (by omega), if_neg (by omega), if_pos g43]
      exact ⟨none, 0, 0, by rw [(stk_bad hE (by decide)).1, (stk_bad hE (by decide)).2, hE]; rfl, by rw [(stk_bad hE (by decide)).2]; exact Sl.nil _ _ _ _ _ _, E50⟩
     ·
      refine t_move rfl rfl rfl (t_cmp rfl rfl rfl rfl rfl (t_pick_f rfl rfl rfl rfl (t_nil' (hK52 _ _ (c_condp rfl (fun g46 => ?_) (fun g46 => ?_))))))
      ·
       refine c_seq fun K55 hK55 => (c_region (t_assign rfl rfl rfl (t_assign rfl rfl rfl (t_assign rfl rfl rfl (t_nil' (hK55 _ _ (c_ret (f_ret3 (v1 := .slice none 0 0) (v2 := .int .i64 0) (v3 := .int .i64 7) Try.results19 rfl rfl rfl ?_))))))))
       have hE : StkE boat xs W = 7 := by unfold StkE; rw [if_neg (by simp [hb, hany]), if_neg (by omega), if_neg (by omega), if_neg g43, if_pos (by simpa using g46)]
       exact ⟨none, 0, 0, by rw [(stk_bad hE (by decide)).1, (stk_bad hE (by decide)).2, hE]; rfl, by rw [(stk_bad hE (by decide)).2]; exact Sl.nil _ _ _ _ _ _, E50⟩
      ·
       refine c_skip (hK51 _ _ (c_seq fun K56 hK56 => (WC.weak [(3, .pointer (some ⟨bk2, 0, none⟩)), (10, .slice aoR ((rowsX W 10 (xs.drop 0)).length) cpR), (11, .int .i64 ((bestR W 10 (xs.drop 0)).2))] ⟨rfl, rfl, rfl, trivial⟩ (c_drawn follows 8 [some (47, some (.slice aoR ((rowsX W 10 (xs.drop 0)).length) cpR)), some (48, some (.pointer (some ⟨bk2, 0, none⟩))), some (49, some (.int .i64 boat.len)), some (50, some (.int .i64 ((bestR W 10 (xs.drop 0)).2))), some (51, some (.int .i64 (boat.len + ((bestR W 10 (xs.drop 0)).2)))), some (6, some (.slice aoR ((rowsX W 10 (xs.drop 0)).length) cpR)), some (7, some (.int .i64 (boat.len + ((bestR W 10 (xs.drop 0)).2)))), some (8, some (.int .i64 0))] [[],[],[1],[],[2,3],[0,0],[4,5,0,1,2,3,4,5],[6,0,1,2,3,4,5,6]] (fun _ _ w => Upd (fun _ => False) w47 w) rfl rfl rfl (by kernel_rfl) (by kernel_rfl) (Upd.drew _).to ⟨?_, ?_, ?_, ?_, ?_, ?_, ?_, ?_, trivial⟩ ?_))))
       · exact pz rfl rfl rfl rfl fun _ _ _ h => h
       · exact pzf Try.underlying23 rfl Try.sizeOf3 (0) rfl rfl rfl rfl rfl fun _ _ _ h => h
       ·
        intro D ρ w57 hcD hnD hdD hW
        have zhW := hW.size
        refine ⟨_, kf_fr [48], fun Lr => ?_⟩
        have B60 := (B53.keep hW (fun h => h))
        refine t_load Try.isAgg3 rfl rfl rfl (B60.get rfl) ?_
        exact dz rfl hW
       · exact pz rfl rfl rfl rfl fun _ _ _ h => h
       ·
        intro D ρ w61 hcD hnD hdD hW
        have zhW := hW.size
        refine ⟨_, kf_fr [49, 50], fun Lr => ?_⟩
        refine t_ari rfl rfl rfl rfl rfl (by omega) ?_
        exact dz rfl hW
       · exact pz rfl rfl rfl rfl fun _ _ _ h => h
       · exact pz rfl rfl rfl rfl fun _ _ _ h => h
       · exact pz rfl rfl rfl rfl fun _ _ _ h => h
       intro ρ w64 hW
       have u65 : Upd (fun _ => False) w47 w64 := hW
       have zu65 := u65.size
       have E66 := E50.next u65 (fun _ _ h => h.elim)
       refine QK.weak [(6, .slice aoR ((rowsX W 10 (xs.drop 0)).length) cpR), (7, .int .i64 (boat.len + ((bestR W 10 (xs.drop 0)).2))), (8, .int .i64 0)] ⟨rfl, rfl, rfl, trivial⟩ (hK56 _ _ (c_ret (f_ret3 (v1 := .slice aoR ((rowsX W 10 (xs.drop 0)).length) cpR) (v2 := .int .i64 (boat.len + ((bestR W 10 (xs.drop 0)).2))) (v3 := .int .i64 0) Try.results19 rfl rfl rfl ?_)))
       have D67 := (hR.keep u65 (fun _ h => h))
       have hE : StkE boat xs W = 0 := by unfold StkE; rw [if_neg (by simp [hb, hany]), if_neg (by omega), if_neg (by omega), if_neg g43, if_neg (by simpa using g46)]
       have hX : rowsX W 10 (xs.drop 0) = StkR boat xs W := by unfold StkR; rw [if_pos hE, rowsX_pos g46]; rfl
       have hN : boat.len + (bestR W 10 (xs.drop 0)).2 = StkN boat xs W := by unfold StkN; rw [if_pos hE]; rfl
       exact ⟨aoR, bR, cpR, by rw [← hX, ← hN, hE], by rw [← hX]; exact D67, E66⟩

end Go.Proofs.Ytmicjleiheoieaa
