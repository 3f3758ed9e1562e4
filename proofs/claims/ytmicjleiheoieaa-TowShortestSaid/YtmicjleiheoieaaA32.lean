/-
  The law TowShortest returns true. Conditions: none.
-/
import Derived.Test.YtmicjleiheoieaaA13
import Derived.Test.YtmicjleiheoieaaA27
import Derived.Test.YtmicjleiheoieaaA31
namespace Go.Proofs.Ytmicjleiheoieaa
open Go Go.RowKit
def xsOf (rs : List HRow) : List (List Hull) := rs.map (·.xs)
theorem MeaX_c (boat : Hull) (power : Int) (rows : List HRow) (ao : Option Addr) (b o cap : Nat) (w0 : World) (hs : Sl encHRow 1 w0 ao b o rows) (hrows : ∀ r ∈ rows, Sl encHull 3 w0 r.ao r.b r.o r.xs) (hl : rows.length ≤ 1000000) (hll : ∀ r ∈ rows, r.xs.length ≤ 1000000) :
    CallsV Try.prog 37 [.agg #[.int .i64 boat.len, .int .i64 boat.wid, .int .i64 boat.mass, .int .i64 power, .slice ao rows.length cap]] w0 (fun v w' => v = .tuple #[.agg #[.int .i64 (MeaS boat power (xsOf rows)).len, .int .i64 (MeaS boat power (xsOf rows)).wid, .int .i64 (MeaS boat power (xsOf rows)).mass, .int .i64 (MeaS boat power (xsOf rows)).hulls], .int .i64 (MeaE boat power (xsOf rows))] ∧ Ext w0 w') :=
  Measure_c boat power rows ao b o cap w0 hs hrows hl hll
theorem row_round {W : Int} {R : List Int} {xs : List Hull} {k p : Nat} (hk : k < R.length) (hd : R.drop k = rowsR W (10 - k) (xs.drop p)) (hb : 0 ≤ (bestR W (10 - k) (xs.drop p)).2) (hp : p ≤ xs.length) :
    ∃ q : Nat, nth R k = (q : Int) ∧ (1 ≤ q ∧ q ≤ 4) ∧ p + q ≤ xs.length ∧ R.drop (k + 1) = rowsR W (10 - (k + 1)) (xs.drop (p + q)) ∧ 0 ≤ (bestR W (10 - (k + 1)) (xs.drop (p + q))).2 := by
  have hy : 0 < (xs.drop p).length := by
    rcases Nat.eq_zero_or_pos (xs.drop p).length with h | h
    · rw [List.eq_nil_of_length_eq_zero h, drop_nth hk] at hd
      cases hn : 10 - k with
      | zero => rw [hn] at hd; simp [rowsR] at hd
      | succ m => rw [hn] at hd; simp [rowsR] at hd
    · exact h
  obtain ⟨q, m, e1, e2, h3, h4, h5, h6, h7⟩ := bestR_sound hy hb
  rw [rowsR_step hy hb, drop_nth hk, e2] at hd
  injection hd with d1 d2
  rw [List.length_drop] at h4
  have em : m = 10 - (k + 1) := by omega
  refine ⟨q, d1, h3, by omega, ?_, ?_⟩
  · rw [d2, show ((q : Int)).toNat = q by simp, List.drop_drop, show 10 - k - 1 = 10 - (k + 1) by omega]
  · rw [em, List.drop_drop] at h6; exact h6
theorem rows_done {W : Int} {n : Nat} {ys : List Hull} (h : rowsR W n ys = []) (hb : 0 ≤ (bestR W n ys).2) : ys = [] := by
  rcases Nat.eq_zero_or_pos ys.length with h0 | h0
  · exact List.eq_nil_of_length_eq_zero h0
  · rw [rowsR_step h0 hb] at h; cases h
theorem stk_range {boat : Hull} {xs : List Hull} {W : Int} (hl : xs.length ≤ 30) (hW : 1 ≤ W ∧ W ≤ 200) : StkE boat xs W = 0 ∨ StkE boat xs W = 2 ∨ StkE boat xs W = 7 := by
  unfold StkE; split
  · simp
  · rw [if_neg (show ¬ 30 < xs.length by omega)]
    by_cases h1 : W < boat.wid
    · rw [if_pos h1]; simp
    · rw [if_neg h1]
      by_cases h2 : (bestR W 10 xs).2 < 0
      · rw [if_pos h2]; simp
      · rw [if_neg h2]; simp
theorem stk_two {boat : Hull} {xs : List Hull} {W W' : Int} (hl : xs.length ≤ 30) (hW : 1 ≤ W ∧ W ≤ 200) (h : StkE boat xs W = 2) : StkE boat xs W' = 2 := by
  unfold StkE at h ⊢; split at h
  · rename_i hc; rw [if_pos hc]
  · rw [if_neg (show ¬ 30 < xs.length by omega)] at h
    by_cases h1 : W < boat.wid
    · rw [if_pos h1] at h; simp at h
    · rw [if_neg h1] at h
      by_cases h2 : (bestR W 10 xs).2 < 0
      · rw [if_pos h2] at h; simp at h
      · rw [if_neg h2] at h; simp at h
theorem stk_zero {boat : Hull} {xs : List Hull} {W : Int} (h : ¬ StkE boat xs W ≠ 0) : StkE boat xs W = 0 ∧ okHull boat = true ∧ (∀ h ∈ xs, okHull h = true) ∧ boat.wid ≤ W ∧ 0 ≤ (bestR W 10 xs).2 ∧ StkR boat xs W = rowsR W 10 xs ∧ StkN boat xs W = boat.len + (bestR W 10 xs).2 := by
  have h0 := Decidable.not_not.1 h
  refine ⟨h0, ?_⟩
  have hR : StkR boat xs W = rowsR W 10 xs := by unfold StkR; rw [if_pos h0]
  have hN : StkN boat xs W = boat.len + (bestR W 10 xs).2 := by unfold StkN; rw [if_pos h0]
  unfold StkE at h0; split at h0
  · simp at h0
  · rename_i hc; split at h0
    · simp at h0
    · split at h0
      · simp at h0
      · split at h0
        · simp at h0
        · split at h0
          · simp at h0
          · simp at hc; exact ⟨hc.1, hc.2, by omega, by omega, hR, hN⟩
theorem stk_of {boat : Hull} {xs : List Hull} {W : Int} (h1 : okHull boat = true) (h2 : ∀ h ∈ xs, okHull h = true) (h3 : xs.length ≤ 30) (h4 : 1 ≤ W ∧ W ≤ 200) (h5 : boat.wid ≤ W) (h6 : 0 ≤ (bestR W 10 xs).2) : StkE boat xs W = 0 ∧ StkN boat xs W = boat.len + (bestR W 10 xs).2 := by
  have h0 : StkE boat xs W = 0 := by
    unfold StkE; rw [if_neg (by simp [h1, any_of_all (List.all_eq_true.2 h2)]), if_neg (by omega), if_neg (by omega), if_neg (by omega), if_neg (by omega)]
  exact ⟨h0, by unfold StkN; rw [if_pos h0]⟩
theorem hull_pos {xs : List Hull} (h : ∀ x ∈ xs, okHull x = true) : ∀ x ∈ xs, 0 ≤ x.len ∧ 0 ≤ x.wid := fun x hx => by have := okHull_rng (h x hx); omega
/-- Rows of valid hulls that are a tow. -/
theorem tow_ok {boat : Hull} {xs : List Hull} {rs : List HRow} (h1 : okHull boat = true) (h2 : ∀ h ∈ xs, okHull h = true) (h3 : xs.length ≤ 30) (hf : (xsOf rs).flatten = xs) (hl : rs.length ≤ 10) (hr : ∀ r ∈ rs, 1 ≤ r.xs.length ∧ r.xs.length ≤ 4) :
    MeaE boat 1 (xsOf rs) = 0 ∧ (MeaS boat 1 (xsOf rs)).len = boat.len + sumLong (xsOf rs) ∧ (MeaS boat 1 (xsOf rs)).hulls = (xs.length : Int) ∧ ∀ W : Int, (MeaS boat 1 (xsOf rs)).wid ≤ W ↔ boat.wid ≤ W ∧ ∀ r ∈ xsOf rs, (rowOf r).wide ≤ W := by
  have hz := size_rows (xsOf rs) ⟨boat.len, boat.wid, boat.mass, 0⟩
  rw [hf] at hz
  have ho : okTow boat 1 (rs.map (·.xs)) = true := okTow_iff.2 ⟨h1, by decide, hl, fun r hr' => by
    have h4 := hr r hr'
    have h5 : r.xs.all okHull = true := List.all_eq_true.2 fun x hx => h2 x (by rw [← hf]; exact List.mem_flatten.2 ⟨r.xs, List.mem_map.2 ⟨r, hr', rfl⟩, hx⟩)
    simp [okRow, any_of_all h5]; omega, by
    have : (sizeOf boat (rs.map (·.xs))).hulls = 0 + (xs.length : Int) := hz.2.1
    omega⟩
  have hS := mea_ok ho
  have e1 : MeaE boat 1 (xsOf rs) = 0 := hS.1
  have e2 : MeaS boat 1 (xsOf rs) = (xsOf rs).foldl addRow ⟨boat.len, boat.wid, boat.mass, 0⟩ := hS.2
  rw [e1, e2]
  exact ⟨rfl, hz.1, by rw [hz.2.1]; simp, hz.2.2⟩
theorem lens_of {rs : List HRow} (h : ∀ r ∈ rs, 1 ≤ r.xs.length ∧ r.xs.length ≤ 4) : ∀ r ∈ rs, r.xs.length ≤ 1000000 := fun r hr => by have := h r hr; omega
theorem flat_len {rs : List HRow} (h : ∀ r ∈ rs, 1 ≤ r.xs.length) : rs.length ≤ (xsOf rs).flatten.length := by
  induction rs with
  | nil => simp
  | cons r rs ih =>
    have h1 := ih (fun q hq => h q (by simp [hq]))
    have h2 := h r (by simp)
    simp only [xsOf, List.map_cons, List.flatten_cons, List.length_append, List.length_cons] at h1 ⊢
    omega

theorem own9 : Own Try.prog 9 := ⟨Try.f9, Try.func9, by kernel_rfl, by kernel_rfl⟩

set_option maxHeartbeats 4000000 in
theorem TowShortest_c (boat : Hull) (xs : List Hull) (pk : List Int) (ao : Option Addr) (b o cap : Nat) (apk : Option Addr) (bpk opk cpk : Nat) (w0 : World) (hs : Sl encHull 3 w0 ao b o xs) (hcap : xs.length ≤ cap) (hkk : Sl encU8 1 w0 apk bpk opk pk) (hk8 : ∀ x ∈ pk, 0 ≤ x ∧ x ≤ 255) (hkl : pk.length ≤ 9223372036854775807) :
    CallsV Try.prog 9 [.agg #[.int .i64 boat.len, .int .i64 boat.wid, .int .i64 boat.mass], .slice ao xs.length cap, .slice apk pk.length cpk] w0 (fun v w' => v = .bool true ∧ Ext w0 w') := by
 have E0 := Upd.refl (fun _ => False) w0
 refine f_enter (N := 234) Try.func9 rfl rfl rfl ?_
 change WC _ _ _ _ _ _ [(0, .agg #[.int .i64 boat.len, .int .i64 boat.wid, .int .i64 boat.mass]), (1, .slice ao xs.length cap), (2, .slice apk pk.length cpk)] _
 refine c_seq fun K1 hK1 => (c_region (t_box (cs := [.int .i64 boat.len, .int .i64 boat.wid, .int .i64 boat.mass]) rfl rfl rfl rfl (fun bk2 w3 ebk2 sbk2 B4 u5 => ?_)))
 have zu5 := u5.size
 have E6 := E0.next u5 (fun _ _ h => h.elim)
 refine t_assign rfl rfl rfl (t_nil' (hK1 _ _ (c_seq fun K7 hK7 => (c_seq fun K8 hK8 => (c_region (t_move rfl rfl rfl (t_len Try.underlying24 rfl rfl rfl rfl (t_cmp rfl rfl rfl rfl rfl (t_nil' (hK8 _ _ (c_condp rfl (fun g25 => ?_) (fun g25 => ?_))))))))))))
 ·
  refine c_seq fun K9 hK9 => (c_region (t_call (vs := []) own16 rfl rfl rfl rfl (known_c _) (fun v10 w11 r13 => ?_)))
  obtain ⟨rfl, u12⟩ := r13
  have zu12 := u12.size
  have E14 := E6.next u12 (fun _ _ h => h.elim)
  refine t_assign rfl rfl rfl (t_nil' (hK9 _ _ (c_ret (f_ret1 (v := .bool true) Try.results9 rfl ?_))))
  exact ⟨rfl, E14⟩
 ·
  have hx30 : xs.length ≤ 30 := by omega
  have hq0 := prt_rng (l := pk) (i := 0) hk8
  have hq1 := prt_rng (l := pk) (i := 1) hk8
  refine c_skip (hK7 _ _ (c_seq fun K15 hK15 => (c_region (t_move rfl rfl rfl (t_call (vs := [.slice apk pk.length cpk, .int .i64 0]) own45 rfl rfl rfl rfl (part_c pk 0 apk bpk opk cpk _ (hkk.keep E6 (fun _ h => h)) hkl) (fun v16 w17 r19 => ?_))))))
  obtain ⟨rfl, u18⟩ := r19
  have zu18 := u18.size
  have E20 := E6.next u18 (fun _ _ h => h.elim)
  refine t_conv Try.underlying5 Try.underlying3 rfl rfl rfl (IntWalk.i64_in _ (by omega)) (t_rem rfl rfl rfl rfl (by omega) (by omega) (t_ari rfl rfl rfl rfl rfl (by omega) ?_))
  obtain ⟨W, hW0⟩ : ∃ y : Int, y = (1 + ((prt pk 0) % 200)) := ⟨_, rfl⟩
  refine t_same 31 (v := .int .i64 W) rfl (congrArg (Value.int .i64) hW0.symm) (t_assign rfl rfl rfl (t_nil' (hK15 _ _ (c_seq fun K21 hK21 => ?_))))
  have B22 := (B4.keep u18 (fun h => h))
  refine WC.weak [(1, .slice ao xs.length cap), (2, .slice apk pk.length cpk), (3, .pointer (some ⟨bk2, 0, none⟩)), (6, .bool false), (7, .int .i64 W)] ⟨rfl, rfl, rfl, rfl, rfl, trivial⟩ (c_drawn follows 12 [some (33, some (.agg #[.int .i64 boat.len, .int .i64 boat.wid, .int .i64 boat.mass])), some (34, some (.slice ao xs.length cap)), some (35, none), some (36, some (.int .i64 W)), some (37, none), some (32, none), some (38, none), some (39, some (.int .i64 (StkN boat xs W))), some (40, some (.int .i64 (StkE boat xs W))), some (8, none), some (9, some (.int .i64 (StkN boat xs W))), some (10, some (.int .i64 (StkE boat xs W)))] [[],[],[1],[],[0,2,3,2],[4],[5],[5],[5],[6,4,0,1,2,3,4,5,6],[7,9,0,1,2,3,4,5,6,7,9],[8,10,0,1,2,3,4,5,6,7,8,9,10]] (fun D ρ w => Upd (fun _ => False) w17 w ∧ (D 2 = true → ∃ aoC23 bC23 cpC23, ρ 2 = .slice aoC23 ((xs).length) cpC23 ∧ (D 4 = false → (Sl encHull 3 w aoC23 bC23 0 xs ∧ w17.heap.size ≤ bC23 ∧ (xs).length ≤ cpC23))) ∧ (D 4 = true → ∃ aoS bS cpS, ρ 4 = .tuple #[.slice aoS ((StkR boat xs W).length) cpS, .int .i64 (StkN boat xs W), .int .i64 (StkE boat xs W)] ∧ Sl encI 1 w aoS bS 0 (StkR boat xs W) ∧ (D 5 = true → ρ 5 = .tuple #[.slice aoS ((StkR boat xs W).length) cpS, .int .i64 (StkN boat xs W), .int .i64 (StkE boat xs W)]) ∧ (D 6 = true → ρ 6 = .slice aoS ((StkR boat xs W).length) cpS) ∧ (D 9 = true → ρ 9 = .slice aoS ((StkR boat xs W).length) cpS))) rfl rfl rfl (by kernel_rfl) (by kernel_rfl) ⟨(Upd.drew _).to, (fun h => by cases h), (fun h => by cases h)⟩ ⟨?_, ?_, ?_, ?_, ?_, ?_, ?_, ?_, ?_, ?_, ?_, ?_, trivial⟩ ?_)
  ·
   intro D ρ w34 hcD hnD hdD hW
   obtain ⟨u35, F36, F37⟩ := hW
   have zu35 := u35.size
   refine ⟨[(3, .pointer (some ⟨bk2, 0, none⟩))], ⟨fo rfl rfl, trivial⟩, fun Lr => ?_⟩
   show WL _ _ _ _ _ _ _ ((3, .pointer (some ⟨bk2, 0, none⟩)) :: Lr) _
   have B39 := (B22.keep u35 (fun h => h))
   refine t_loadN (vs := [.int .i64 boat.len, .int .i64 boat.wid, .int .i64 boat.mass]) Try.isAgg23 Try.sizeOf23 rfl rfl rfl (B39.at.sub 0 3) rfl ?_
   exact dz rfl ⟨u35, F36, F37⟩
  · exact fun D ρ w _ _ _ hW => ⟨[(1, .slice ao xs.length cap)], ⟨fo rfl rfl, trivial⟩, fun Lr => t_move rfl rfl rfl (dz rfl hW)⟩
  ·
   intro D ρ w40 hcD hnD hdD hW
   obtain ⟨u41, F42, F43⟩ := hW
   have zu41 := u41.size
   have E44 := E20.next u41 (fun _ _ h => h.elim)
   refine ⟨[(34, .slice ao xs.length cap)], ⟨fi 1 rfl rfl rfl, trivial⟩, fun Lr => ?_⟩
   show WL _ _ _ _ _ _ _ ((34, .slice ao xs.length cap) :: Lr) _
   refine t_call (vs := [.slice ao xs.length cap]) own17 rfl rfl rfl rfl (hulls_c xs ao b o cap _ (hs.keep E44 (fun _ h => h)) (by first | omega | (simp only [List.length_take, List.length_drop]; omega))) (fun v46 w47 r49 => ?_)
   obtain ⟨⟨aoC45, bC45, cpC45, rfl, hC45, gebC45, lecpC45⟩, u48⟩ := r49
   have zu48 := u48.size
   exact dzn rfl ⟨(u41.next u48 (fun _ _ h => h.elim)), (fun _ => ⟨aoC45, bC45, cpC45, rfl, fun _ => ⟨hC45, by omega, lecpC45⟩⟩), (fun h => by obtain ⟨aoS, bS, cpS, e, hB, k5_, k6_, k9_⟩ := F43 h; exact ⟨aoS, bS, cpS, e, (hB.keep u48 (fun _ h => h)), k5_, k6_, k9_⟩)⟩
  · exact fun D ρ w _ _ _ hW => ⟨[(7, .int .i64 W)], ⟨fo rfl rfl, trivial⟩, fun Lr => t_move rfl rfl rfl (dz rfl hW)⟩
  ·
   intro D ρ w51 hcD hnD hdD hW
   obtain ⟨u52, F53, F54⟩ := hW
   have zu52 := u52.size
   obtain ⟨aoC23, bC23, cpC23, e56, H57⟩ := F53 (hdD 2 rfl)
   have H58 := H57 hnD
   have lecpC23 := H58.2.2
   have hsH58 := H58.1
   have hgH58 := H58.2.1
   refine ⟨[(33, .agg #[.int .i64 boat.len, .int .i64 boat.wid, .int .i64 boat.mass]), (35, .slice aoC23 ((xs).length) cpC23), (36, .int .i64 W)], ⟨fi 0 rfl rfl rfl, fi 2 rfl rfl e56.symm, fi 3 rfl rfl rfl, trivial⟩, fun Lr => ?_⟩
   show WL _ _ _ _ _ _ _ ((33, .agg #[.int .i64 boat.len, .int .i64 boat.wid, .int .i64 boat.mass]) :: (35, .slice aoC23 ((xs).length) cpC23) :: (36, .int .i64 W) :: Lr) _
   refine t_call (vs := [.agg #[.int .i64 boat.len, .int .i64 boat.wid, .int .i64 boat.mass], .slice aoC23 ((xs).length) cpC23, .int .i64 W]) own18 rfl rfl rfl rfl (Stack_c boat xs W aoC23 bC23 0 cpC23 _ hsH58 (by omega) lecpC23 (by omega)) (fun v59 w60 r62 => ?_)
   obtain ⟨aoS, bS, cpS, rfl, hS, u61⟩ := r62
   have zu61 := u61.size
   exact dzn rfl ⟨(u52.next u61 (fun _ _ h => h.elim)), (fun h => by obtain ⟨aoC23, bC23, cpC23, e, _⟩ := F53 h; exact ⟨aoC23, bC23, cpC23, e, fun h => by cases h⟩), (fun _ => ⟨aoS, bS, cpS, rfl, hS, (fun h => absurd ((hcD.late 5 hnD rfl).symm.trans h) (by decide)), (fun h => absurd ((hcD.late 6 (hcD.late 5 hnD rfl) rfl).symm.trans h) (by decide)), (fun h => absurd ((hcD.late 9 hnD rfl).symm.trans h) (by decide))⟩)⟩
  ·
   intro D ρ w64 hcD hnD hdD hW
   obtain ⟨u65, F66, F67⟩ := hW
   have zu65 := u65.size
   obtain ⟨aoS, bS, cpS, e69, H70, k71, k72, k73⟩ := F67 (hdD 4 rfl)
   refine ⟨[(37, .tuple #[.slice aoS ((StkR boat xs W).length) cpS, .int .i64 (StkN boat xs W), .int .i64 (StkE boat xs W)])], ⟨fi 4 rfl rfl e69.symm, trivial⟩, fun Lr => ?_⟩
   show WL _ _ _ _ _ _ _ ((37, .tuple #[.slice aoS ((StkR boat xs W).length) cpS, .int .i64 (StkN boat xs W), .int .i64 (StkE boat xs W)]) :: Lr) _
   refine t_move rfl rfl rfl ?_
   exact dzn rfl ⟨u65, F66, (fun _ => ⟨aoS, bS, cpS, e69, H70, (fun _ => rfl), k72, k73⟩)⟩
  ·
   intro D ρ w74 hcD hnD hdD hW
   obtain ⟨u75, F76, F77⟩ := hW
   have zu75 := u75.size
   obtain ⟨aoS, bS, cpS, e79, H80, k81, k82, k83⟩ := F77 (hcD 5 (hdD 5 rfl) 4 (memB_iff.1 rfl))
   refine ⟨[(32, .tuple #[.slice aoS ((StkR boat xs W).length) cpS, .int .i64 (StkN boat xs W), .int .i64 (StkE boat xs W)])], ⟨fi 5 rfl rfl (k81 (hdD 5 rfl)).symm, trivial⟩, fun Lr => ?_⟩
   show WL _ _ _ _ _ _ _ ((32, .tuple #[.slice aoS ((StkR boat xs W).length) cpS, .int .i64 (StkN boat xs W), .int .i64 (StkE boat xs W)]) :: Lr) _
   refine t_extract (vs := [.slice aoS ((StkR boat xs W).length) cpS, .int .i64 (StkN boat xs W), .int .i64 (StkE boat xs W)]) rfl rfl rfl rfl ?_
   exact dzn rfl ⟨u75, F76, (fun _ => ⟨aoS, bS, cpS, e79, H80, k81, (fun _ => rfl), k83⟩)⟩
  ·
   intro D ρ w84 hcD hnD hdD hW
   obtain ⟨u85, F86, F87⟩ := hW
   have zu85 := u85.size
   obtain ⟨aoS, bS, cpS, e89, H90, k91, k92, k93⟩ := F87 (hcD 5 (hdD 5 rfl) 4 (memB_iff.1 rfl))
   refine ⟨[(32, .tuple #[.slice aoS ((StkR boat xs W).length) cpS, .int .i64 (StkN boat xs W), .int .i64 (StkE boat xs W)])], ⟨fi 5 rfl rfl (k91 (hdD 5 rfl)).symm, trivial⟩, fun Lr => ?_⟩
   show WL _ _ _ _ _ _ _ ((32, .tuple #[.slice aoS ((StkR boat xs W).length) cpS, .int .i64 (StkN boat xs W), .int .i64 (StkE boat xs W)]) :: Lr) _
   refine t_extract (vs := [.slice aoS ((StkR boat xs W).length) cpS, .int .i64 (StkN boat xs W), .int .i64 (StkE boat xs W)]) rfl rfl rfl rfl ?_
   exact dz rfl ⟨u85, F86, F87⟩
  ·
   intro D ρ w94 hcD hnD hdD hW
   obtain ⟨u95, F96, F97⟩ := hW
   have zu95 := u95.size
   obtain ⟨aoS, bS, cpS, e99, H100, k101, k102, k103⟩ := F97 (hcD 5 (hdD 5 rfl) 4 (memB_iff.1 rfl))
   refine ⟨[(32, .tuple #[.slice aoS ((StkR boat xs W).length) cpS, .int .i64 (StkN boat xs W), .int .i64 (StkE boat xs W)])], ⟨fi 5 rfl rfl (k101 (hdD 5 rfl)).symm, trivial⟩, fun Lr => ?_⟩
   show WL _ _ _ _ _ _ _ ((32, .tuple #[.slice aoS ((StkR boat xs W).length) cpS, .int .i64 (StkN boat xs W), .int .i64 (StkE boat xs W)]) :: Lr) _
   refine t_extract (vs := [.slice aoS ((StkR boat xs W).length) cpS, .int .i64 (StkN boat xs W), .int .i64 (StkE boat xs W)]) rfl rfl rfl rfl ?_
   exact dz rfl ⟨u95, F96, F97⟩
  ·
   intro D ρ w104 hcD hnD hdD hW
   obtain ⟨u105, F106, F107⟩ := hW
   have zu105 := u105.size
   obtain ⟨aoS, bS, cpS, e109, H110, k111, k112, k113⟩ := F107 (hdD 4 rfl)
   refine ⟨[(38, .slice aoS ((StkR boat xs W).length) cpS)], ⟨fi 6 rfl rfl (k112 (hdD 6 rfl)).symm, trivial⟩, fun Lr => ?_⟩
   show WL _ _ _ _ _ _ _ ((38, .slice aoS ((StkR boat xs W).length) cpS) :: Lr) _
   refine t_assign rfl rfl rfl ?_
   exact dzn rfl ⟨u105, F106, (fun _ => ⟨aoS, bS, cpS, e109, H110, k111, k112, (fun _ => rfl)⟩)⟩
  · exact fun D ρ w _ _ _ hW => ⟨[(39, .int .i64 (StkN boat xs W))], ⟨fi 7 rfl rfl rfl, trivial⟩, fun Lr => t_assign rfl rfl rfl (dz rfl hW)⟩
  · exact fun D ρ w _ _ _ hW => ⟨[(40, .int .i64 (StkE boat xs W))], ⟨fi 8 rfl rfl rfl, trivial⟩, fun Lr => t_assign rfl rfl rfl (dz rfl hW)⟩
  intro ρ w114 hW
  obtain ⟨u115, F116, F117⟩ := hW
  have zu115 := u115.size
  have E118 := E20.next u115 (fun _ _ h => h.elim)
  obtain ⟨aoS, bS, cpS, e120, H121, k122, k123, k124⟩ := F117 rfl
  refine QK.weak [(1, .slice ao xs.length cap), (2, .slice apk pk.length cpk), (3, .pointer (some ⟨bk2, 0, none⟩)), (6, .bool false), (7, .int .i64 W), (8, .slice aoS ((StkR boat xs W).length) cpS), (9, .int .i64 (StkN boat xs W)), (10, .int .i64 (StkE boat xs W))] ⟨rfl, rfl, rfl, rfl, rfl, (look_nd (j := 9) rfl rfl rfl (k124 rfl)), rfl, rfl, trivial⟩ (hK21 _ _ (c_seq fun K125 hK125 => ?_))
  have B126 := (B22.keep u115 (fun h => h))
  refine WC.weak [(1, .slice ao xs.length cap), (2, .slice apk pk.length cpk), (3, .pointer (some ⟨bk2, 0, none⟩)), (6, .bool false), (7, .int .i64 W), (8, .slice aoS ((StkR boat xs W).length) cpS), (9, .int .i64 (StkN boat xs W)), (10, .int .i64 (StkE boat xs W))] ⟨rfl, rfl, rfl, rfl, rfl, rfl, rfl, rfl, trivial⟩ (c_drawn follows 17 [some (42, some (.agg #[.int .i64 boat.len, .int .i64 boat.wid, .int .i64 boat.mass])), some (43, some (.slice ao xs.length cap)), some (44, none), some (45, some (.int .i64 W)), some (46, some (.slice apk pk.length cpk)), some (47, some (.int .u8 (prt pk 1))), some (48, some (.int .i64 (prt pk 1))), some (49, some (.int .i64 (W + (prt pk 1)))), some (50, some (.int .i64 (min 200 (W + (prt pk 1))))), some (51, none), some (41, none), some (52, none), some (53, some (.int .i64 (StkN boat xs (min 200 (W + (prt pk 1)))))), some (54, some (.int .i64 (StkE boat xs (min 200 (W + (prt pk 1)))))), some (11, none), some (12, some (.int .i64 (StkN boat xs (min 200 (W + (prt pk 1)))))), some (13, some (.int .i64 (StkE boat xs (min 200 (W + (prt pk 1))))))] [[],[],[1],[],[],[4,2],[5],[3,6],[7],[0,2,8,5],[9],[10],[10],[10],[11,9,0,1,2,3,4,5,6,7,8,9,10,11],[12,14,0,1,2,3,4,5,6,7,8,9,10,11,12,14],[13,15,0,1,2,3,4,5,6,7,8,9,10,11,12,13,14,15]] (fun D ρ w => Upd (fun _ => False) w114 w ∧ (D 2 = true → ∃ aoC127 bC127 cpC127, ρ 2 = .slice aoC127 ((xs).length) cpC127 ∧ (D 9 = false → (Sl encHull 3 w aoC127 bC127 0 xs ∧ w114.heap.size ≤ bC127 ∧ (xs).length ≤ cpC127))) ∧ (D 9 = true → ∃ aoT bT cpT, ρ 9 = .tuple #[.slice aoT ((StkR boat xs (min 200 (W + (prt pk 1)))).length) cpT, .int .i64 (StkN boat xs (min 200 (W + (prt pk 1)))), .int .i64 (StkE boat xs (min 200 (W + (prt pk 1))))] ∧ Sl encI 1 w aoT bT 0 (StkR boat xs (min 200 (W + (prt pk 1)))) ∧ (D 10 = true → ρ 10 = .tuple #[.slice aoT ((StkR boat xs (min 200 (W + (prt pk 1)))).length) cpT, .int .i64 (StkN boat xs (min 200 (W + (prt pk 1)))), .int .i64 (StkE boat xs (min 200 (W + (prt pk 1))))]) ∧ (D 11 = true → ρ 11 = .slice aoT ((StkR boat xs (min 200 (W + (prt pk 1)))).length) cpT) ∧ (D 14 = true → ρ 14 = .slice aoT ((StkR boat xs (min 200 (W + (prt pk 1)))).length) cpT))) rfl rfl rfl (by kernel_rfl) (by kernel_rfl) ⟨(Upd.drew _).to, (fun h => by cases h), (fun h => by cases h)⟩ ⟨?_, ?_, ?_, ?_, ?_, ?_, ?_, ?_, ?_, ?_, ?_, ?_, ?_, ?_, ?_, ?_, ?_, trivial⟩ ?_)
  ·
   intro D ρ w144 hcD hnD hdD hW
   obtain ⟨u145, F146, F147⟩ := hW
   have zu145 := u145.size
   refine ⟨[(3, .pointer (some ⟨bk2, 0, none⟩))], ⟨fo rfl rfl, trivial⟩, fun Lr => ?_⟩
   show WL _ _ _ _ _ _ _ ((3, .pointer (some ⟨bk2, 0, none⟩)) :: Lr) _
   have B149 := (B126.keep u145 (fun h => h))
   refine t_loadN (vs := [.int .i64 boat.len, .int .i64 boat.wid, .int .i64 boat.mass]) Try.isAgg23 Try.sizeOf23 rfl rfl rfl (B149.at.sub 0 3) rfl ?_
   exact dz rfl ⟨u145, F146, F147⟩
  · exact fun D ρ w _ _ _ hW => ⟨[(1, .slice ao xs.length cap)], ⟨fo rfl rfl, trivial⟩, fun Lr => t_move rfl rfl rfl (dz rfl hW)⟩
  ·
   intro D ρ w150 hcD hnD hdD hW
   obtain ⟨u151, F152, F153⟩ := hW
   have zu151 := u151.size
   have E154 := E118.next u151 (fun _ _ h => h.elim)
   refine ⟨[(43, .slice ao xs.length cap)], ⟨fi 1 rfl rfl rfl, trivial⟩, fun Lr => ?_⟩
   show WL _ _ _ _ _ _ _ ((43, .slice ao xs.length cap) :: Lr) _
   refine t_call (vs := [.slice ao xs.length cap]) own17 rfl rfl rfl rfl (hulls_c xs ao b o cap _ (hs.keep E154 (fun _ h => h)) (by first | omega | (simp only [List.length_take, List.length_drop]; omega))) (fun v156 w157 r159 => ?_)
   obtain ⟨⟨aoC155, bC155, cpC155, rfl, hC155, gebC155, lecpC155⟩, u158⟩ := r159
   have zu158 := u158.size
   exact dzn rfl ⟨(u151.next u158 (fun _ _ h => h.elim)), (fun _ => ⟨aoC155, bC155, cpC155, rfl, fun _ => ⟨hC155, by omega, lecpC155⟩⟩), (fun h => by obtain ⟨aoT, bT, cpT, e, hB, k10_, k11_, k14_⟩ := F153 h; exact ⟨aoT, bT, cpT, e, (hB.keep u158 (fun _ h => h)), k10_, k11_, k14_⟩)⟩
  · exact fun D ρ w _ _ _ hW => ⟨[(7, .int .i64 W)], ⟨fo rfl rfl, trivial⟩, fun Lr => t_move rfl rfl rfl (dz rfl hW)⟩
  · exact fun D ρ w _ _ _ hW => ⟨[(2, .slice apk pk.length cpk)], ⟨fo rfl rfl, trivial⟩, fun Lr => t_move rfl rfl rfl (dz rfl hW)⟩
  ·
   intro D ρ w161 hcD hnD hdD hW
   obtain ⟨u162, F163, F164⟩ := hW
   have zu162 := u162.size
   have E165 := E118.next u162 (fun _ _ h => h.elim)
   refine ⟨[(46, .slice apk pk.length cpk)], ⟨fi 4 rfl rfl rfl, trivial⟩, fun Lr => ?_⟩
   show WL _ _ _ _ _ _ _ ((46, .slice apk pk.length cpk) :: Lr) _
   refine t_call (vs := [.slice apk pk.length cpk, .int .i64 1]) own45 rfl rfl rfl rfl (part_c pk 1 apk bpk opk cpk _ (hkk.keep E165 (fun _ h => h)) hkl) (fun v166 w167 r169 => ?_)
   obtain ⟨rfl, u168⟩ := r169
   have zu168 := u168.size
   exact dz rfl ⟨(u162.next u168 (fun _ _ h => h.elim)), (fun h => by obtain ⟨aoC127, bC127, cpC127, e, hB⟩ := F163 h; exact ⟨aoC127, bC127, cpC127, e, fun h2 => ⟨((hB h2).1.keep u168 (fun _ h => h)), (hB h2).2.1, (hB h2).2.2⟩⟩), (fun h => by obtain ⟨aoT, bT, cpT, e, hB, k10_, k11_, k14_⟩ := F164 h; exact ⟨aoT, bT, cpT, e, (hB.keep u168 (fun _ h => h)), k10_, k11_, k14_⟩)⟩
  ·
   intro D ρ w171 hcD hnD hdD hW
   obtain ⟨u172, F173, F174⟩ := hW
   have zu172 := u172.size
   refine ⟨[(47, .int .u8 (prt pk 1))], ⟨fi 5 rfl rfl rfl, trivial⟩, fun Lr => ?_⟩
   show WL _ _ _ _ _ _ _ ((47, .int .u8 (prt pk 1)) :: Lr) _
   refine t_conv Try.underlying5 Try.underlying3 rfl rfl rfl (IntWalk.i64_in _ (by omega)) ?_
   exact dz rfl ⟨u172, F173, F174⟩
  ·
   intro D ρ w176 hcD hnD hdD hW
   obtain ⟨u177, F178, F179⟩ := hW
   have zu177 := u177.size
   refine ⟨[(45, .int .i64 W), (48, .int .i64 (prt pk 1))], ⟨fi 3 rfl rfl rfl, fi 6 rfl rfl rfl, trivial⟩, fun Lr => ?_⟩
   show WL _ _ _ _ _ _ _ ((45, .int .i64 W) :: (48, .int .i64 (prt pk 1)) :: Lr) _
   refine t_ari rfl rfl rfl rfl rfl (by omega) ?_
   exact dz rfl ⟨u177, F178, F179⟩
  ·
   intro D ρ w181 hcD hnD hdD hW
   obtain ⟨u182, F183, F184⟩ := hW
   have zu182 := u182.size
   refine ⟨[(49, .int .i64 (W + (prt pk 1)))], ⟨fi 7 rfl rfl rfl, trivial⟩, fun Lr => ?_⟩
   show WL _ _ _ _ _ _ _ ((49, .int .i64 (W + (prt pk 1))) :: Lr) _
   refine t_min rfl rfl rfl rfl ?_
   exact dz rfl ⟨u182, F183, F184⟩
  ·
   intro D ρ w186 hcD hnD hdD hW
   obtain ⟨u187, F188, F189⟩ := hW
   have zu187 := u187.size
   obtain ⟨aoC127, bC127, cpC127, e191, H192⟩ := F188 (hdD 2 rfl)
   have H193 := H192 hnD
   have lecpC127 := H193.2.2
   have hsH193 := H193.1
   have hgH193 := H193.2.1
   refine ⟨[(42, .agg #[.int .i64 boat.len, .int .i64 boat.wid, .int .i64 boat.mass]), (44, .slice aoC127 ((xs).length) cpC127), (50, .int .i64 (min 200 (W + (prt pk 1))))], ⟨fi 0 rfl rfl rfl, fi 2 rfl rfl e191.symm, fi 8 rfl rfl rfl, trivial⟩, fun Lr => ?_⟩
   show WL _ _ _ _ _ _ _ ((42, .agg #[.int .i64 boat.len, .int .i64 boat.wid, .int .i64 boat.mass]) :: (44, .slice aoC127 ((xs).length) cpC127) :: (50, .int .i64 (min 200 (W + (prt pk 1)))) :: Lr) _
   refine t_call (vs := [.agg #[.int .i64 boat.len, .int .i64 boat.wid, .int .i64 boat.mass], .slice aoC127 ((xs).length) cpC127, .int .i64 (min 200 (W + (prt pk 1)))]) own18 rfl rfl rfl rfl (Stack_c boat xs (min 200 (W + (prt pk 1))) aoC127 bC127 0 cpC127 _ hsH193 (by omega) lecpC127 (by omega)) (fun v194 w195 r197 => ?_)
   obtain ⟨aoT, bT, cpT, rfl, hT, u196⟩ := r197
   have zu196 := u196.size
   exact dzn rfl ⟨(u187.next u196 (fun _ _ h => h.elim)), (fun h => by obtain ⟨aoC127, bC127, cpC127, e, _⟩ := F188 h; exact ⟨aoC127, bC127, cpC127, e, fun h => by cases h⟩), (fun _ => ⟨aoT, bT, cpT, rfl, hT, (fun h => absurd ((hcD.late 10 hnD rfl).symm.trans h) (by decide)), (fun h => absurd ((hcD.late 11 (hcD.late 10 hnD rfl) rfl).symm.trans h) (by decide)), (fun h => absurd ((hcD.late 14 hnD rfl).symm.trans h) (by decide))⟩)⟩
  ·
   intro D ρ w199 hcD hnD hdD hW
   obtain ⟨u200, F201, F202⟩ := hW
   have zu200 := u200.size
   obtain ⟨aoT, bT, cpT, e204, H205, k206, k207, k208⟩ := F202 (hdD 9 rfl)
   refine ⟨[(51, .tuple #[.slice aoT ((StkR boat xs (min 200 (W + (prt pk 1)))).length) cpT, .int .i64 (StkN boat xs (min 200 (W + (prt pk 1)))), .int .i64 (StkE boat xs (min 200 (W + (prt pk 1))))])], ⟨fi 9 rfl rfl e204.symm, trivial⟩, fun Lr => ?_⟩
   show WL _ _ _ _ _ _ _ ((51, .tuple #[.slice aoT ((StkR boat xs (min 200 (W + (prt pk 1)))).length) cpT, .int .i64 (StkN boat xs (min 200 (W + (prt pk 1)))), .int .i64 (StkE boat xs (min 200 (W + (prt pk 1))))]) :: Lr) _
   refine t_move rfl rfl rfl ?_
   exact dzn rfl ⟨u200, F201, (fun _ => ⟨aoT, bT, cpT, e204, H205, (fun _ => rfl), k207, k208⟩)⟩
  ·
   intro D ρ w209 hcD hnD hdD hW
   obtain ⟨u210, F211, F212⟩ := hW
   have zu210 := u210.size
   obtain ⟨aoT, bT, cpT, e214, H215, k216, k217, k218⟩ := F212 (hcD 10 (hdD 10 rfl) 9 (memB_iff.1 rfl))
   refine ⟨[(41, .tuple #[.slice aoT ((StkR boat xs (min 200 (W + (prt pk 1)))).length) cpT, .int .i64 (StkN boat xs (min 200 (W + (prt pk 1)))), .int .i64 (StkE boat xs (min 200 (W + (prt pk 1))))])], ⟨fi 10 rfl rfl (k216 (hdD 10 rfl)).symm, trivial⟩, fun Lr => ?_⟩
   show WL _ _ _ _ _ _ _ ((41, .tuple #[.slice aoT ((StkR boat xs (min 200 (W + (prt pk 1)))).length) cpT, .int .i64 (StkN boat xs (min 200 (W + (prt pk 1)))), .int .i64 (StkE boat xs (min 200 (W + (prt pk 1))))]) :: Lr) _
   refine t_extract (vs := [.slice aoT ((StkR boat xs (min 200 (W + (prt pk 1)))).length) cpT, .int .i64 (StkN boat xs (min 200 (W + (prt pk 1)))), .int .i64 (StkE boat xs (min 200 (W + (prt pk 1))))]) rfl rfl rfl rfl ?_
   exact dzn rfl ⟨u210, F211, (fun _ => ⟨aoT, bT, cpT, e214, H215, k216, (fun _ => rfl), k218⟩)⟩
  ·
   intro D ρ w219 hcD hnD hdD hW
   obtain ⟨u220, F221, F222⟩ := hW
   have zu220 := u220.size
   obtain ⟨aoT, bT, cpT, e224, H225, k226, k227, k228⟩ := F222 (hcD 10 (hdD 10 rfl) 9 (memB_iff.1 rfl))
   refine ⟨[(41, .tuple #[.slice aoT ((StkR boat xs (min 200 (W + (prt pk 1)))).length) cpT, .int .i64 (StkN boat xs (min 200 (W + (prt pk 1)))), .int .i64 (StkE boat xs (min 200 (W + (prt pk 1))))])], ⟨fi 10 rfl rfl (k226 (hdD 10 rfl)).symm, trivial⟩, fun Lr => ?_⟩
   show WL _ _ _ _ _ _ _ ((41, .tuple #[.slice aoT ((StkR boat xs (min 200 (W + (prt pk 1)))).length) cpT, .int .i64 (StkN boat xs (min 200 (W + (prt pk 1)))), .int .i64 (StkE boat xs (min 200 (W + (prt pk 1))))]) :: Lr) _
   refine t_extract (vs := [.slice aoT ((StkR boat xs (min 200 (W + (prt pk 1)))).length) cpT, .int .i64 (StkN boat xs (min 200 (W + (prt pk 1)))), .int .i64 (StkE boat xs (min 200 (W + (prt pk 1))))]) rfl rfl rfl rfl ?_
   exact dz rfl ⟨u220, F221, F222⟩
  ·
   intro D ρ w229 hcD hnD hdD hW
   obtain ⟨u230, F231, F232⟩ := hW
   have zu230 := u230.size
   obtain ⟨aoT, bT, cpT, e234, H235, k236, k237, k238⟩ := F232 (hcD 10 (hdD 10 rfl) 9 (memB_iff.1 rfl))
   refine ⟨[(41, .tuple #[.slice aoT ((StkR boat xs (min 200 (W + (prt pk 1)))).length) cpT, .int .i64 (StkN boat xs (min 200 (W + (prt pk 1)))), .int .i64 (StkE boat xs (min 200 (W + (prt pk 1))))])], ⟨fi 10 rfl rfl (k236 (hdD 10 rfl)).symm, trivial⟩, fun Lr => ?_⟩
   show WL _ _ _ _ _ _ _ ((41, .tuple #[.slice aoT ((StkR boat xs (min 200 (W + (prt pk 1)))).length) cpT, .int .i64 (StkN boat xs (min 200 (W + (prt pk 1)))), .int .i64 (StkE boat xs (min 200 (W + (prt pk 1))))]) :: Lr) _
   refine t_extract (vs := [.slice aoT ((StkR boat xs (min 200 (W + (prt pk 1)))).length) cpT, .int .i64 (StkN boat xs (min 200 (W + (prt pk 1)))), .int .i64 (StkE boat xs (min 200 (W + (prt pk 1))))]) rfl rfl rfl rfl ?_
   exact dz rfl ⟨u230, F231, F232⟩
  ·
   intro D ρ w239 hcD hnD hdD hW
   obtain ⟨u240, F241, F242⟩ := hW
   have zu240 := u240.size
   obtain ⟨aoT, bT, cpT, e244, H245, k246, k247, k248⟩ := F242 (hdD 9 rfl)
   refine ⟨[(52, .slice aoT ((StkR boat xs (min 200 (W + (prt pk 1)))).length) cpT)], ⟨fi 11 rfl rfl (k247 (hdD 11 rfl)).symm, trivial⟩, fun Lr => ?_⟩
   show WL _ _ _ _ _ _ _ ((52, .slice aoT ((StkR boat xs (min 200 (W + (prt pk 1)))).length) cpT) :: Lr) _
   refine t_assign rfl rfl rfl ?_
   exact dzn rfl ⟨u240, F241, (fun _ => ⟨aoT, bT, cpT, e244, H245, k246, k247, (fun _ => rfl)⟩)⟩
  · exact fun D ρ w _ _ _ hW => ⟨[(53, .int .i64 (StkN boat xs (min 200 (W + (prt pk 1)))))], ⟨fi 12 rfl rfl rfl, trivial⟩, fun Lr => t_assign rfl rfl rfl (dz rfl hW)⟩
  · exact fun D ρ w _ _ _ hW => ⟨[(54, .int .i64 (StkE boat xs (min 200 (W + (prt pk 1)))))], ⟨fi 13 rfl rfl rfl, trivial⟩, fun Lr => t_assign rfl rfl rfl (dz rfl hW)⟩
  intro ρ w249 hW
  obtain ⟨u250, F251, F252⟩ := hW
  have zu250 := u250.size
  have E253 := E118.next u250 (fun _ _ h => h.elim)
  obtain ⟨aoT, bT, cpT, e255, H256, k257, k258, k259⟩ := F252 rfl
  refine QK.weak [(1, .slice ao xs.length cap), (2, .slice apk pk.length cpk), (3, .pointer (some ⟨bk2, 0, none⟩)), (6, .bool false), (7, .int .i64 W), (8, .slice aoS ((StkR boat xs W).length) cpS), (9, .int .i64 (StkN boat xs W)), (10, .int .i64 (StkE boat xs W)), (12, .int .i64 (StkN boat xs (min 200 (W + (prt pk 1))))), (13, .int .i64 (StkE boat xs (min 200 (W + (prt pk 1)))))] ⟨rfl, rfl, rfl, rfl, rfl, rfl, rfl, rfl, rfl, rfl, trivial⟩ (hK125 _ _ (c_seq fun K260 hK260 => (c_seq fun K261 hK261 => (c_region (t_move rfl rfl rfl (t_cmp rfl rfl rfl rfl rfl (t_nil' (hK261 _ _ (c_condp rfl (fun g56 => ?_) (fun g56 => ?_))))))))))
  ·
   have hWr : 1 ≤ W ∧ W ≤ 200 := by omega
   have hcs := stk_range (boat := boat) hx30 hWr
   obtain ⟨hN0, hR0⟩ := stk_bad (e := StkE boat xs W) rfl g56
   have hRl : (StkR boat xs W).length = 0 := by rw [hR0]; rfl
   refine c_seq fun K262 hK262 => (c_region (t_move rfl rfl rfl (t_cmp rfl rfl rfl rfl rfl (t_move rfl rfl rfl (t_splitp 59 rfl (fun g59 => ?_) (fun g59 => ?_))))))
   ·
    have ht2 := stk_two (W' := (min 200 (W + (prt pk 1)))) hx30 hWr g59
    refine t_move rfl rfl rfl (t_move rfl rfl rfl (t_cmp rfl rfl rfl rfl rfl (t_same 62 (v := .bool true) rfl (congrArg Value.bool (decide_eq_true (ht2.trans g59.symm))) (t_pick_t rfl rfl rfl rfl (t_move rfl rfl rfl (t_skip rfl rfl rfl (t_skip rfl rfl rfl (t_pick_t rfl rfl rfl rfl (t_move rfl rfl rfl (t_move rfl rfl rfl (t_len Try.underlying27 rfl rfl rfl rfl (t_cmp rfl rfl rfl rfl rfl (t_same 71 (v := .bool true) rfl (congrArg Value.bool (decide_eq_true (by omega))) (t_pick_t rfl rfl rfl rfl (t_move rfl rfl rfl (t_move rfl rfl rfl (t_cmp rfl rfl rfl rfl rfl (t_same 75 (v := .bool true) rfl (congrArg Value.bool (decide_eq_true (by omega))) (t_pick_t rfl rfl rfl rfl (t_move rfl rfl rfl (t_call (vs := []) own16 rfl rfl rfl rfl (known_c _) (fun v263 w264 r266 => ?_))))))))))))))))))))))
    obtain ⟨rfl, u265⟩ := r266
    have zu265 := u265.size
    have E267 := E253.next u265 (fun _ _ h => h.elim)
    refine t_pick_t rfl rfl rfl rfl (t_assign rfl rfl rfl (t_nil' (hK262 _ _ (c_ret (f_ret1 (v := .bool true) Try.results9 rfl ?_)))))
    exact ⟨rfl, E267⟩
   ·
    refine t_skip rfl rfl rfl (t_skip rfl rfl rfl (t_skip rfl rfl rfl (t_pick_f rfl rfl rfl rfl (t_move rfl rfl rfl (t_move rfl rfl rfl (t_cmp rfl rfl rfl rfl rfl (t_same 66 (v := .bool true) rfl (congrArg Value.bool (decide_eq_true (by omega))) (t_pick_f rfl rfl rfl rfl (t_move rfl rfl rfl (t_move rfl rfl rfl (t_len Try.underlying27 rfl rfl rfl rfl (t_cmp rfl rfl rfl rfl rfl (t_same 71 (v := .bool true) rfl (congrArg Value.bool (decide_eq_true (by omega))) (t_pick_t rfl rfl rfl rfl (t_move rfl rfl rfl (t_move rfl rfl rfl (t_cmp rfl rfl rfl rfl rfl (t_same 75 (v := .bool true) rfl (congrArg Value.bool (decide_eq_true (by omega))) (t_pick_t rfl rfl rfl rfl (t_move rfl rfl rfl (t_call (vs := []) own16 rfl rfl rfl rfl (known_c _) (fun v268 w269 r271 => ?_))))))))))))))))))))))
    obtain ⟨rfl, u270⟩ := r271
    have zu270 := u270.size
    have E272 := E253.next u270 (fun _ _ h => h.elim)
    refine t_pick_t rfl rfl rfl rfl (t_assign rfl rfl rfl (t_nil' (hK262 _ _ (c_ret (f_ret1 (v := .bool true) Try.results9 rfl ?_)))))
    exact ⟨rfl, E272⟩
  ·
   have hWr : 1 ≤ W ∧ W ≤ 200 := by omega
   obtain ⟨hE0, hb1, hb2, hb3, hb4, hb5, hb6⟩ := stk_zero g56
   have hpos := hull_pos hb2
   have hwd := bestR_wider (W' := (min 200 (W + (prt pk 1)))) (by omega) hpos hb4
   have hs2 := stk_of (W := (min 200 (W + (prt pk 1)))) hb1 hb2 hx30 (by omega) (by omega) hwd.1
   have hRb : (StkR boat xs W).length ≤ 10 := by rw [hb5]; exact rowsR_len 10 xs
   refine c_skip (hK260 _ _ (c_seq fun K273 hK273 => (c_region ?_)))
   have B274 := (B126.keep u250 (fun h => h))
   refine t_loadN (vs := [.int .i64 boat.len, .int .i64 boat.wid, .int .i64 boat.mass]) Try.isAgg23 Try.sizeOf23 rfl rfl rfl (B274.at.sub 0 3) rfl (t_build (ps := [(0, .agg #[.int .i64 boat.len, .int .i64 boat.wid, .int .i64 boat.mass]), (1, .int .i64 1)]) (v := .agg #[.int .i64 boat.len, .int .i64 boat.wid, .int .i64 boat.mass, .int .i64 1, .slice none 0 0]) rfl rfl ⟨rfl, rfl⟩ (fun w => by kernel_rfl) (t_alloc (cs := [.int .i64 0, .int .i64 0, .int .i64 0, .int .i64 0, .slice none 0 0]) Try.zeroValue64 rfl rfl rfl (fun bk275 w276 ebk275 sbk275 B277 u278 => ?_)))
   have zu278 := u278.size
   have E279 := E253.next u278 (fun _ _ h => h.elim)
   refine t_store (vs := [.int .i64 boat.len, .int .i64 boat.wid, .int .i64 boat.mass, .int .i64 1, .slice none 0 0]) Try.sizeOf64 rfl rfl rfl B277 rfl rfl (Nat.le_of_ble_eq_true rfl) (by simp [Value.oneCell']) (fun w280 sw280 B282 u281 => ?_)
   have zu281 := u281.size
   have E283 := E279.next u281 (fun i hi (h : i = bk275) => show False by first | omega | assumption)
   have B282 : Blk w280 bk275 64 [.int .i64 boat.len, .int .i64 boat.wid, .int .i64 boat.mass, .int .i64 1, .slice none 0 0] := B282
   refine t_assign rfl rfl rfl (t_nil' (hK273 _ _ (c_seq fun K284 hK284 => (c_seq fun K285 hK285 => (c_region (t_assign rfl rfl rfl (t_nil' (hK285 _ _ (c_block (c_loop (γ := Nat × Nat × Option Addr × Nat × Nat × List HRow) (fun gg => [(1, .slice ao xs.length cap), (2, .slice apk pk.length cpk), (3, .pointer (some ⟨bk2, 0, none⟩)), (7, .int .i64 W), (8, .slice aoS ((StkR boat xs W).length) cpS), (9, .int .i64 (StkN boat xs W)), (10, .int .i64 (StkE boat xs W)), (12, .int .i64 (StkN boat xs (min 200 (W + (prt pk 1))))), (13, .int .i64 (StkE boat xs (min 200 (W + (prt pk 1))))), (14, .pointer (some ⟨bk275, 0, none⟩)), (15, .int .i64 (gg.2.1 : Int)), (16, .int .i64 (gg.1 : Int))]) (fun gg w => Upd (fun i => i = bk275) w280 w ∧ Blk w bk275 64 [.int .i64 boat.len, .int .i64 boat.wid, .int .i64 boat.mass, .int .i64 1, .slice gg.2.2.1 gg.2.2.2.2.2.length gg.2.2.2.2.1] ∧ (gg.1 ≤ (StkR boat xs W).length) ∧ (gg.2.1 ≤ xs.length) ∧ ((StkR boat xs W).drop gg.1 = rowsR W (10 - gg.1) (xs.drop gg.2.1)) ∧ (0 ≤ (bestR W (10 - gg.1) (xs.drop gg.2.1)).2) ∧ (xsOf gg.2.2.2.2.2 ++ splitR ((StkR boat xs W).drop gg.1) (xs.drop gg.2.1) = splitR (StkR boat xs W) xs) ∧ (gg.2.2.2.2.2.length = gg.1) ∧ (Acc encHRow 1 24 w280.heap.size w gg.2.2.1 gg.2.2.2.1 gg.2.2.2.2.1 gg.2.2.2.2.2) ∧ (Fam encHull 3 HRow.ao HRow.b HRow.o HRow.xs w280.heap.size gg.2.2.2.1 w.heap.size gg.2.2.2.2.2 w)) (fun gg => (StkR boat xs W).length - gg.1) (0, 0, none, 0, 0, []) ⟨rfl, rfl, rfl, rfl, rfl, rfl, rfl, rfl, rfl, rfl, rfl, rfl, trivial⟩ ⟨Upd.refl _ _, B282, (Nat.zero_le _), (Nat.zero_le _), hb5, hb4, rfl, rfl, (Acc.nil _ _ _ _ _ (by omega) (Nat.le_refl _)), Fam.nil⟩ ?_))))))))))
   intro gg w287 hW K286 hK286
   obtain ⟨k, p, ao2, g2, c2, rs⟩ := gg
   change WC _ _ _ _ _ _ [(1, .slice ao xs.length cap), (2, .slice apk pk.length cpk), (3, .pointer (some ⟨bk2, 0, none⟩)), (7, .int .i64 W), (8, .slice aoS ((StkR boat xs W).length) cpS), (9, .int .i64 (StkN boat xs W)), (10, .int .i64 (StkE boat xs W)), (12, .int .i64 (StkN boat xs (min 200 (W + (prt pk 1))))), (13, .int .i64 (StkE boat xs (min 200 (W + (prt pk 1))))), (14, .pointer (some ⟨bk275, 0, none⟩)), (15, .int .i64 (p : Int)), (16, .int .i64 (k : Int))] _
   change Upd (fun i => i = bk275) w280 w287 ∧ Blk w287 bk275 64 [.int .i64 boat.len, .int .i64 boat.wid, .int .i64 boat.mass, .int .i64 1, .slice ao2 rs.length c2] ∧ (k ≤ (StkR boat xs W).length) ∧ (p ≤ xs.length) ∧ ((StkR boat xs W).drop k = rowsR W (10 - k) (xs.drop p)) ∧ (0 ≤ (bestR W (10 - k) (xs.drop p)).2) ∧ (xsOf rs ++ splitR ((StkR boat xs W).drop k) (xs.drop p) = splitR (StkR boat xs W) xs) ∧ (rs.length = k) ∧ (Acc encHRow 1 24 w280.heap.size w287 ao2 g2 c2 rs) ∧ (Fam encHull 3 HRow.ao HRow.b HRow.o HRow.xs w280.heap.size g2 w287.heap.size rs w287) at hW
   obtain ⟨u288, I289, I290, I291, I292, I293, I294, I295, I296, I297⟩ := hW
   have zu288 := u288.size
   have E298 := E283.next u288 (fun i hi (h : i = bk275) => show False by first | omega | assumption)
   have hk := I290; clear I290
   have hp := I291; clear I291
   have hd := I292; clear I292
   have hbb := I293; clear I293
   have hjn := I294; clear I294
   have hrl := I295; clear I295
   have hacc := I296; clear I296
   have hfam := I297; clear I297
   have lt_g2 := hacc.lt
   refine c_seq fun K299 hK299 => (c_seq fun K300 hK300 => (c_region (t_move rfl rfl rfl (t_move rfl rfl rfl (t_len Try.underlying27 rfl rfl rfl rfl (t_cmp rfl rfl rfl rfl rfl (t_nil' (hK300 _ _ (c_condp rfl (fun g85 => ?_) (fun g85 => ?_))))))))))
   ·
    obtain ⟨q, hr1, hr2, hr3, hr4, hr5⟩ := row_round (by omega) hd hbb hp
    refine c_skip (hK299 _ _ (c_seq fun K301 hK301 => (c_block (c_seq fun K302 hK302 => (c_seq fun K303 hK303 => (c_region (t_move rfl rfl rfl (t_move rfl rfl rfl ?_))))))))
    have D304 := ((((H121.keep u250 (fun _ h => h)).keep u278 (fun _ h => h)).keep u281 (fun hp => by have hlt := H121.lt hp; show ¬ (bS = bk275); first | omega | assumption)).keep u288 (fun hp => by have hlt := H121.lt hp; show ¬ (bS = bk275); first | omega | assumption))
    have i305 : k < (StkR boat xs W).length := (by omega)
    refine t_index (j := k) Try.underlying27 Try.sizeOf3 rfl rfl rfl rfl (D304.addr (by omega)) rfl i305 (t_load Try.isAgg3 rfl rfl rfl ((D304.at_ k (by omega)) 0 _ rfl) (t_same 91 (v := .int .i64 (q : Int)) rfl (congrArg (Value.int .i64) hr1) (t_cmp rfl rfl rfl rfl rfl (t_same 92 (v := .bool false) rfl (congrArg Value.bool (decide_eq_false (by omega))) (t_move rfl rfl rfl (t_move rfl rfl rfl (t_move rfl rfl rfl ?_)))))))
    have i306 : k < (StkR boat xs W).length := (by omega)
    refine t_index (j := k) Try.underlying27 Try.sizeOf3 rfl rfl rfl rfl (D304.addr (by omega)) rfl i306 (t_load Try.isAgg3 rfl rfl rfl ((D304.at_ k (by omega)) 0 _ rfl) (t_same 97 (v := .int .i64 (q : Int)) rfl (congrArg (Value.int .i64) hr1) (t_cmp rfl rfl rfl rfl rfl (t_same 98 (v := .bool false) rfl (congrArg Value.bool (decide_eq_false (by omega))) (t_pick_f rfl rfl rfl rfl (t_move rfl rfl rfl (t_move rfl rfl rfl (t_move rfl rfl rfl ?_))))))))
    have i307 : k < (StkR boat xs W).length := (by omega)
    refine t_index (j := k) Try.underlying27 Try.sizeOf3 rfl rfl rfl rfl (D304.addr (by omega)) rfl i307 (t_load Try.isAgg3 rfl rfl rfl ((D304.at_ k (by omega)) 0 _ rfl) (t_same 104 (v := .int .i64 (q : Int)) rfl (congrArg (Value.int .i64) hr1) (t_move rfl rfl rfl (t_len Try.underlying24 rfl rfl rfl rfl (t_move rfl rfl rfl (t_ari rfl rfl rfl rfl rfl (by omega) (t_cmp rfl rfl rfl rfl rfl (t_same 109 (v := .bool false) rfl (congrArg Value.bool (decide_eq_false (by omega))) (t_pick_f rfl rfl rfl rfl (t_nil' (hK303 _ _ (c_cond_f rfl (c_skip (hK302 _ _ (WC.weak [(1, .slice ao xs.length cap), (2, .slice apk pk.length cpk), (3, .pointer (some ⟨bk2, 0, none⟩)), (7, .int .i64 W), (8, .slice aoS ((StkR boat xs W).length) cpS), (9, .int .i64 (StkN boat xs W)), (10, .int .i64 (StkE boat xs W)), (12, .int .i64 (StkN boat xs (min 200 (W + (prt pk 1))))), (13, .int .i64 (StkE boat xs (min 200 (W + (prt pk 1))))), (14, .pointer (some ⟨bk275, 0, none⟩)), (15, .int .i64 (p : Int)), (16, .int .i64 (k : Int)), (82, .int .i64 (k : Int)), (83, .slice aoS ((StkR boat xs W).length) cpS), (84, .int .i64 ((StkR boat xs W).length : Int)), (85, .bool (decide ((k : Int) < ((StkR boat xs W).length : Int)))), (88, .slice aoS ((StkR boat xs W).length) cpS), (89, .int .i64 (k : Int)), (90, .pointer (some ⟨bS, 0 + k * 1, none⟩)), (91, .int .i64 (q : Int)), (92, .bool false), (93, .bool false), (94, .slice aoS ((StkR boat xs W).length) cpS), (95, .int .i64 (k : Int)), (96, .pointer (some ⟨bS, 0 + k * 1, none⟩)), (97, .int .i64 (q : Int)), (98, .bool false), (99, .bool false), (100, .bool false), (101, .slice aoS ((StkR boat xs W).length) cpS), (102, .int .i64 (k : Int)), (103, .pointer (some ⟨bS, 0 + k * 1, none⟩)), (104, .int .i64 (q : Int)), (105, .slice ao xs.length cap), (106, .int .i64 (xs.length : Int)), (107, .int .i64 (p : Int)), (108, .int .i64 ((xs.length : Int) - (p : Int))), (109, .bool false), (110, .bool false)] ⟨rfl, rfl, rfl, rfl, rfl, rfl, rfl, rfl, rfl, rfl, rfl, rfl, rfl, rfl, rfl, rfl, rfl, rfl, rfl, rfl, rfl, rfl, rfl, rfl, rfl, rfl, rfl, rfl, rfl, rfl, rfl, rfl, rfl, rfl, rfl, rfl, rfl, rfl, rfl, trivial⟩ (c_drawn follows 23 [some (111, some (.pointer (some ⟨bk275, 4, none⟩))), some (112, some (.slice ao2 rs.length c2)), some (113, some (.slice ao xs.length cap)), some (114, some (.int .i64 (p : Int))), some (115, some (.int .i64 (p : Int))), some (116, some (.slice aoS ((StkR boat xs W).length) cpS)), some (117, some (.int .i64 (k : Int))), some (118, some (.pointer (some ⟨bS, 0 + k * 1, none⟩))), some (119, some (.int .i64 (nth (StkR boat xs W) k))), some (120, some (.int .i64 ((p : Int) + (nth (StkR boat xs W) k)))), some (121, some (.slice (subAddr ao cap p 3) (((xs.drop p).take q).length) (cap - p))), some (122, none), some (123, none), some (124, none), some (125, some (.int .i64 (p : Int))), some (126, some (.slice aoS ((StkR boat xs W).length) cpS)), some (127, some (.int .i64 (k : Int))), some (128, some (.pointer (some ⟨bS, 0 + k * 1, none⟩))), some (129, some (.int .i64 (nth (StkR boat xs W) k))), some (130, some (.int .i64 ((p : Int) + (nth (StkR boat xs W) k)))), some (131, some (.pointer (some ⟨bk275, 4, none⟩))), none, some (15, some (.int .i64 ((p : Int) + (nth (StkR boat xs W) k))))] [[],[0],[],[],[],[],[],[5,6],[7],[4,8],[2,3,9],[10],[11],[1,12,11],[],[],[],[15,16],[17],[14,18],[0,1,2,3,4,5,6,7,8,9,10,11,12,13],[20,13,13,0,1,2,3,4,5,6,7,8,9,10,11,12,13],[19,21,0,1,2,3,4,5,6,7,8,9,10,11,12,13,14,15,16,17,18,19,20,21]] (fun D ρ w => Upd (fun i => i = bk275 ∨ (i = g2 ∧ w280.heap.size ≤ i)) w287 w ∧ (D 13 = false → Acc encHRow 1 24 w280.heap.size w ao2 g2 c2 rs) ∧ (D 13 = false → Blk w bk275 64 [.int .i64 boat.len, .int .i64 boat.wid, .int .i64 boat.mass, .int .i64 1, .slice ao2 rs.length c2]) ∧ (D 11 = true → ∃ aoC309 bC309 cpC309, ρ 11 = .slice aoC309 (((((xs).drop p).take q)).length) cpC309 ∧ (D 12 = false → (Sl encHull 3 w aoC309 bC309 0 (((xs).drop p).take q) ∧ w287.heap.size ≤ bC309 ∧ ((((xs).drop p).take q)).length ≤ cpC309))) ∧ (D 12 = true → ∃ aoC309 bC309 cpC309 bk315, ρ 12 = .slice (some ⟨bk315, 0, none⟩) 1 1 ∧ w287.heap.size ≤ bk315 ∧ Blk w bk315 24 [.slice aoC309 (((((xs).drop p).take q)).length) cpC309] ∧ (Sl encHull 3 w aoC309 bC309 0 (((xs).drop p).take q) ∧ w287.heap.size ≤ bC309 ∧ ((((xs).drop p).take q)).length ≤ cpC309)) ∧ (D 13 = true → ∃ aoC309 bC309 cpC309 ao321 gb322 cp323, ρ 13 = .slice ao321 (((rs ++ [(⟨aoC309, bC309, 0, cpC309, (((xs).drop p).take q)⟩ : HRow)])).length) cp323 ∧ Acc encHRow 1 24 w280.heap.size w ao321 gb322 cp323 (rs ++ [(⟨aoC309, bC309, 0, cpC309, (((xs).drop p).take q)⟩ : HRow)]) ∧ (gb322 = g2 ∨ w287.heap.size ≤ gb322) ∧ (Sl encHull 3 w aoC309 bC309 0 (((xs).drop p).take q) ∧ w287.heap.size ≤ bC309 ∧ ((((xs).drop p).take q)).length ≤ cpC309) ∧ (0 < ((xs.drop p).take q).length → bC309 ≠ gb322) ∧ Blk w bk275 64 [.int .i64 boat.len, .int .i64 boat.wid, .int .i64 boat.mass, .int .i64 1, (bif D 21 then .slice ao321 (((rs ++ [(⟨aoC309, bC309, 0, cpC309, (((xs).drop p).take q)⟩ : HRow)])).length) cp323 else .slice ao2 rs.length c2)])) rfl rfl rfl (by kernel_rfl) (by kernel_rfl) ⟨(Upd.drew _).to, (fun _ => hacc.keep (Upd.drew _) (fun _ h => h)), (fun _ => I289.keep (Upd.drew _) (fun h => h)), (fun h => by cases h), (fun h => by cases h), (fun h => by cases h)⟩ ⟨?_, ?_, ?_, ?_, ?_, ?_, ?_, ?_, ?_, ?_, ?_, ?_, ?_, ?_, ?_, ?_, ?_, ?_, ?_, ?_, ?_, ?_, ?_, trivial⟩ ?_))))))))))))))))
    · exact fun D ρ w _ _ _ hW => ⟨[(14, .pointer (some ⟨bk275, 0, none⟩))], ⟨fo rfl rfl, trivial⟩, fun Lr => t_field Try.underlying64 rfl Try.sizeOf62 (4) rfl rfl rfl rfl (dz rfl hW)⟩
    ·
     intro D ρ w330 hcD hnD hdD hW
     obtain ⟨u331, C332, T333, F334, F335, F336⟩ := hW
     have zu331 := u331.size
     have B338 := T333 (hcD.late 13 hnD rfl)
     refine ⟨[(111, .pointer (some ⟨bk275, 4, none⟩))], ⟨fi 0 rfl rfl rfl, trivial⟩, fun Lr => ?_⟩
     show WL _ _ _ _ _ _ _ ((111, .pointer (some ⟨bk275, 4, none⟩)) :: Lr) _
     refine t_load Try.isAgg62 rfl rfl rfl (B338.get rfl) ?_
     exact dz rfl ⟨u331, C332, T333, F334, F335, F336⟩
    · exact fun D ρ w _ _ _ hW => ⟨[(1, .slice ao xs.length cap)], ⟨fo rfl rfl, trivial⟩, fun Lr => t_move rfl rfl rfl (dz rfl hW)⟩
    · exact fun D ρ w _ _ _ hW => ⟨[(15, .int .i64 (p : Int))], ⟨fo rfl rfl, trivial⟩, fun Lr => t_move rfl rfl rfl (dz rfl hW)⟩
    · exact fun D ρ w _ _ _ hW => ⟨[(15, .int .i64 (p : Int))], ⟨fo rfl rfl, trivial⟩, fun Lr => t_move rfl rfl rfl (dz rfl hW)⟩
    · exact fun D ρ w _ _ _ hW => ⟨[(8, .slice aoS ((StkR boat xs W).length) cpS)], ⟨fo rfl rfl, trivial⟩, fun Lr => t_move rfl rfl rfl (dz rfl hW)⟩
    · exact fun D ρ w _ _ _ hW => ⟨[(16, .int .i64 (k : Int))], ⟨fo rfl rfl, trivial⟩, fun Lr => t_move rfl rfl rfl (dz rfl hW)⟩
    ·
     intro D ρ w339 hcD hnD hdD hW
     obtain ⟨u340, C341, T342, F343, F344, F345⟩ := hW
     have zu340 := u340.size
     refine ⟨[(116, .slice aoS ((StkR boat xs W).length) cpS), (117, .int .i64 (k : Int))], ⟨fi 5 rfl rfl rfl, fi 6 rfl rfl rfl, trivial⟩, fun Lr => ?_⟩
     show WL _ _ _ _ _ _ _ ((116, .slice aoS ((StkR boat xs W).length) cpS) :: (117, .int .i64 (k : Int)) :: Lr) _
     have D348 := (D304.keep u340 (fun hp => by have hlt := H121.lt hp; show ¬ (bS = bk275 ∨ (bS = g2 ∧ w280.heap.size ≤ bS)); first | omega | assumption))
     have i349 : k < (StkR boat xs W).length := (by omega)
     refine t_index (j := k) Try.underlying27 Try.sizeOf3 rfl rfl rfl rfl (D348.addr (by omega)) rfl i349 ?_
     exact dz rfl ⟨u340, C341, T342, F343, F344, F345⟩
    ·
     intro D ρ w350 hcD hnD hdD hW
     obtain ⟨u351, C352, T353, F354, F355, F356⟩ := hW
     have zu351 := u351.size
     refine ⟨[(118, .pointer (some ⟨bS, 0 + k * 1, none⟩))], ⟨fi 7 rfl rfl rfl, trivial⟩, fun Lr => ?_⟩
     show WL _ _ _ _ _ _ _ ((118, .pointer (some ⟨bS, 0 + k * 1, none⟩)) :: Lr) _
     have D359 := (D304.keep u351 (fun hp => by have hlt := H121.lt hp; show ¬ (bS = bk275 ∨ (bS = g2 ∧ w280.heap.size ≤ bS)); first | omega | assumption))
     refine t_load Try.isAgg3 rfl rfl rfl ((D359.at_ k (by omega)) 0 _ rfl) ?_
     exact dz rfl ⟨u351, C352, T353, F354, F355, F356⟩
    ·
     intro D ρ w360 hcD hnD hdD hW
     obtain ⟨u361, C362, T363, F364, F365, F366⟩ := hW
     have zu361 := u361.size
     refine ⟨[(115, .int .i64 (p : Int)), (119, .int .i64 (nth (StkR boat xs W) k))], ⟨fi 4 rfl rfl rfl, fi 8 rfl rfl rfl, trivial⟩, fun Lr => ?_⟩
     show WL _ _ _ _ _ _ _ ((115, .int .i64 (p : Int)) :: (119, .int .i64 (nth (StkR boat xs W) k)) :: Lr) _
     refine t_ari rfl rfl rfl rfl rfl (by omega) ?_
     exact dz rfl ⟨u361, C362, T363, F364, F365, F366⟩
    ·
     intro D ρ w369 hcD hnD hdD hW
     obtain ⟨u370, C371, T372, F373, F374, F375⟩ := hW
     have zu370 := u370.size
     refine ⟨[(113, .slice ao xs.length cap), (114, .int .i64 (p : Int)), (120, .int .i64 ((p : Int) + (nth (StkR boat xs W) k)))], ⟨fi 2 rfl rfl rfl, fi 3 rfl rfl rfl, fi 9 rfl rfl rfl, trivial⟩, fun Lr => ?_⟩
     show WL _ _ _ _ _ _ _ ((113, .slice ao xs.length cap) :: (114, .int .i64 (p : Int)) :: (120, .int .i64 ((p : Int) + (nth (StkR boat xs W) k))) :: Lr) _
     refine t_sliceM (p) (((xs.drop p).take q).length) Try.underlying24 Try.sizeOf23 rfl rfl rfl rfl rfl rfl (by simp only [List.length_take, List.length_drop]; omega) (by simp only [List.length_take, List.length_drop]; omega) ?_
     exact dz rfl ⟨u370, C371, T372, F373, F374, F375⟩
    ·
     intro D ρ w378 hcD hnD hdD hW
     obtain ⟨u379, C380, T381, F382, F383, F384⟩ := hW
     have zu379 := u379.size
     have E385 := E298.next u379 (fun i hi (h : i = bk275 ∨ (i = g2 ∧ w280.heap.size ≤ i)) => show False by first | omega | assumption)
     refine ⟨[(121, .slice (subAddr ao cap p 3) (((xs.drop p).take q).length) (cap - p))], ⟨fi 10 rfl rfl rfl, trivial⟩, fun Lr => ?_⟩
     show WL _ _ _ _ _ _ _ ((121, .slice (subAddr ao cap p 3) (((xs.drop p).take q).length) (cap - p)) :: Lr) _
     refine t_call (vs := [.slice (subAddr ao cap p 3) (((xs.drop p).take q).length) (cap - p)]) own17 rfl rfl rfl rfl (hulls_c (((xs).drop p).take q) (subAddr ao cap p 3) b (o + p * 3) (cap - p) _ ((hs.keep E385 (fun _ h => h)).sub cap p q hcap) (by first | omega | (simp only [List.length_take, List.length_drop]; omega))) (fun v388 w389 r391 => ?_)
     obtain ⟨⟨aoC387, bC387, cpC387, rfl, hC387, gebC387, lecpC387⟩, u390⟩ := r391
     have zu390 := u390.size
     exact dzn rfl ⟨(u379.next u390 (fun _ _ h => h.elim)), (fun h => ((C380 h).keep u390 (fun _ h => h))), (fun h => ((T381 h).keep u390 (fun h => h))), (fun _ => ⟨aoC387, bC387, cpC387, rfl, fun _ => ⟨hC387, by omega, lecpC387⟩⟩), (fun h => by obtain ⟨aoC309, bC309, cpC309, b, e, hge, hB, hF11⟩ := F383 h; exact ⟨aoC309, bC309, cpC309, b, e, hge, (hB.keep u390 (fun h => h)), ⟨(hF11.1.keep u390 (fun _ h => h)), hF11.2.1, hF11.2.2⟩⟩), (fun h => by obtain ⟨aoC309, bC309, cpC309, ao321, gb322, cp323, e, hA, hg, hF11, hX, hQ⟩ := F384 h; exact ⟨aoC309, bC309, cpC309, ao321, gb322, cp323, e, (hA.keep u390 (fun _ h => h)), hg, ⟨(hF11.1.keep u390 (fun _ h => h)), hF11.2.1, hF11.2.2⟩, hX, (hQ.keep u390 (fun h => h))⟩)⟩
    ·
     intro D ρ w393 hcD hnD hdD hW
     obtain ⟨u394, C395, T396, F397, F398, F399⟩ := hW
     have zu394 := u394.size
     obtain ⟨aoC309, bC309, cpC309, e402, H403⟩ := F397 (hdD 11 rfl)
     have H404 := H403 hnD
     have lecpC309 := H404.2.2
     have hsH404 := H404.1
     have hgH404 := H404.2.1
     refine ⟨[(122, .slice aoC309 (((((xs).drop p).take q)).length) cpC309)], ⟨fi 11 rfl rfl e402.symm, trivial⟩, fun Lr => ?_⟩
     show WL _ _ _ _ _ _ _ ((122, .slice aoC309 (((((xs).drop p).take q)).length) cpC309) :: Lr) _
     refine t_bslice (ps := [(0, .slice aoC309 (((((xs).drop p).take q)).length) cpC309)]) (cs := [.slice aoC309 (((((xs).drop p).take q)).length) cpC309]) (e := 24) rfl rfl ⟨rfl, rfl⟩ (fun w => by kernel_rfl) (fun bk405 w406 ebk405 sbk405 B407 u408 => ?_)
     have zu408 := u408.size
     exact dzn rfl ⟨(u394.next u408 (fun _ _ h => h.elim)), (fun h => ((C395 h).keep u408 (fun _ h => h))), (fun h => ((T396 h).keep u408 (fun h => h))), (fun h => by obtain ⟨aoC309, bC309, cpC309, e, _⟩ := F397 h; exact ⟨aoC309, bC309, cpC309, e, fun h => by cases h⟩), (fun _ => ⟨aoC309, bC309, cpC309, bk405, rfl, (by omega), (by show Blk w406 bk405 24 [.slice aoC309 (((((xs).drop p).take q)).length) cpC309]; exact B407), ⟨(H404.1.keep u408 (fun _ h => h)), H404.2.1, H404.2.2⟩⟩), (fun h => by obtain ⟨aoC309, bC309, cpC309, ao321, gb322, cp323, e, hA, hg, hF11, hX, hQ⟩ := F399 h; exact ⟨aoC309, bC309, cpC309, ao321, gb322, cp323, e, (hA.keep u408 (fun _ h => h)), hg, ⟨(hF11.1.keep u408 (fun _ h => h)), hF11.2.1, hF11.2.2⟩, hX, (hQ.keep u408 (fun h => h))⟩)⟩
    ·
     intro D ρ w410 hcD hnD hdD hW
     obtain ⟨u411, C412, T413, F414, F415, F416⟩ := hW
     have zu411 := u411.size
     have B418 := T413 hnD
     have C419 := C412 hnD
     obtain ⟨aoC309, bC309, cpC309, bk315, e420, gebk315, B421, fcB421_11⟩ := F415 (hdD 12 rfl)
     have lecpC309 := fcB421_11.2.2
     have hsfcB421_11 := fcB421_11.1
     have hgfcB421_11 := fcB421_11.2.1
     refine ⟨[(112, .slice ao2 rs.length c2), (123, .slice (some ⟨bk315, 0, none⟩) 1 1)], ⟨fi 1 rfl rfl rfl, fi 12 rfl rfl e420.symm, trivial⟩, fun Lr => ?_⟩
     show WL _ _ _ _ _ _ _ ((112, .slice ao2 rs.length c2) :: (123, .slice (some ⟨bk315, 0, none⟩) 1 1) :: Lr) _
     refine t_append (z := .slice none 0 0) (bytes := 24) (k := 1) (base := w280.heap.size) (⟨aoC309, bC309, 0, cpC309, (((xs).drop p).take q)⟩ : HRow) Try.underlying62 (by kernel_rfl) rfl (by decide) (fun _ => rfl) (by intro x; simp [encHRow, Value.oneCell']) rfl rfl rfl rfl C419 B421 (by omega) (by omega) (by decide) (fun ao422 gb423 cp424 w425 A426 u427 gegb423 lngb423 => ?_)
     have zu427 := u427.size
     have lt_gb423 := A426.lt
     have d21 := (hcD.late 21 hnD rfl)
     have B429 := (B418.keep u427 (show ¬ ((bk275 = g2 ∧ w280.heap.size ≤ bk275)) by first | omega | assumption))
     exact dzn rfl ⟨(u411.next u427 (fun i hi (h : (i = g2 ∧ w280.heap.size ≤ i)) => show i = bk275 ∨ (i = g2 ∧ w280.heap.size ≤ i) by first | omega | assumption)), (fun h => by cases h), (fun h => by cases h), (fun h => by obtain ⟨aoC309, bC309, cpC309, e, _⟩ := F414 h; exact ⟨aoC309, bC309, cpC309, e, fun h2 => absurd ((hdD 12 rfl).symm.trans h2) (by decide)⟩), (fun h => by obtain ⟨aoC309, bC309, cpC309, b, e, hge, hB, hF11⟩ := F415 h; exact ⟨aoC309, bC309, cpC309, b, e, hge, (hB.keep u427 (show ¬ ((b = g2 ∧ w280.heap.size ≤ b)) by first | omega | assumption)), ⟨(hF11.1.keep u427 (fun hp => by have hlt := hF11.1.lt hp; have hgg := hF11.2.1; show ¬ ((bC309 = g2 ∧ w280.heap.size ≤ bC309)); omega)), hF11.2.1, hF11.2.2⟩⟩), (fun _ => ⟨aoC309, bC309, cpC309, ao422, gb423, cp424, rfl, A426, (by omega), ⟨(fcB421_11.1.keep u427 (fun hp => by have hlt := fcB421_11.1.lt hp; have hgg := fcB421_11.2.1; show ¬ ((bC309 = g2 ∧ w280.heap.size ≤ bC309)); omega)), fcB421_11.2.1, fcB421_11.2.2⟩, (fun hp => by have hlt := fcB421_11.1.lt hp; omega), (by show Blk w425 bk275 64 [.int .i64 boat.len, .int .i64 boat.wid, .int .i64 boat.mass, .int .i64 1, (bif D 21 then .slice ao422 (((rs ++ [(⟨aoC309, bC309, 0, cpC309, (((xs).drop p).take q)⟩ : HRow)])).length) cp424 else .slice ao2 rs.length c2)]; simp only [d21, cond_false]; exact B429)⟩)⟩
    · exact fun D ρ w _ _ _ hW => ⟨[(15, .int .i64 (p : Int))], ⟨fo rfl rfl, trivial⟩, fun Lr => t_move rfl rfl rfl (dz rfl hW)⟩
    · exact fun D ρ w _ _ _ hW => ⟨[(8, .slice aoS ((StkR boat xs W).length) cpS)], ⟨fo rfl rfl, trivial⟩, fun Lr => t_move rfl rfl rfl (dz rfl hW)⟩
    · exact fun D ρ w _ _ _ hW => ⟨[(16, .int .i64 (k : Int))], ⟨fo rfl rfl, trivial⟩, fun Lr => t_move rfl rfl rfl (dz rfl hW)⟩
    ·
     intro D ρ w430 hcD hnD hdD hW
     obtain ⟨u431, C432, T433, F434, F435, F436⟩ := hW
     have zu431 := u431.size
     refine ⟨[(126, .slice aoS ((StkR boat xs W).length) cpS), (127, .int .i64 (k : Int))], ⟨fi 15 rfl rfl rfl, fi 16 rfl rfl rfl, trivial⟩, fun Lr => ?_⟩
     show WL _ _ _ _ _ _ _ ((126, .slice aoS ((StkR boat xs W).length) cpS) :: (127, .int .i64 (k : Int)) :: Lr) _
     have D438 := (D304.keep u431 (fun hp => by have hlt := H121.lt hp; show ¬ (bS = bk275 ∨ (bS = g2 ∧ w280.heap.size ≤ bS)); first | omega | assumption))
     have i439 : k < (StkR boat xs W).length := (by omega)
     refine t_index (j := k) Try.underlying27 Try.sizeOf3 rfl rfl rfl rfl (D438.addr (by omega)) rfl i439 ?_
     exact dz rfl ⟨u431, C432, T433, F434, F435, F436⟩
    ·
     intro D ρ w440 hcD hnD hdD hW
     obtain ⟨u441, C442, T443, F444, F445, F446⟩ := hW
     have zu441 := u441.size
     refine ⟨[(128, .pointer (some ⟨bS, 0 + k * 1, none⟩))], ⟨fi 17 rfl rfl rfl, trivial⟩, fun Lr => ?_⟩
     show WL _ _ _ _ _ _ _ ((128, .pointer (some ⟨bS, 0 + k * 1, none⟩)) :: Lr) _
     have D448 := (D304.keep u441 (fun hp => by have hlt := H121.lt hp; show ¬ (bS = bk275 ∨ (bS = g2 ∧ w280.heap.size ≤ bS)); first | omega | assumption))
     refine t_load Try.isAgg3 rfl rfl rfl ((D448.at_ k (by omega)) 0 _ rfl) ?_
     exact dz rfl ⟨u441, C442, T443, F444, F445, F446⟩
    ·
     intro D ρ w449 hcD hnD hdD hW
     obtain ⟨u450, C451, T452, F453, F454, F455⟩ := hW
     have zu450 := u450.size
     refine ⟨[(125, .int .i64 (p : Int)), (129, .int .i64 (nth (StkR boat xs W) k))], ⟨fi 14 rfl rfl rfl, fi 18 rfl rfl rfl, trivial⟩, fun Lr => ?_⟩
     show WL _ _ _ _ _ _ _ ((125, .int .i64 (p : Int)) :: (129, .int .i64 (nth (StkR boat xs W) k)) :: Lr) _
     refine t_ari rfl rfl rfl rfl rfl (by omega) ?_
     exact dz rfl ⟨u450, C451, T452, F453, F454, F455⟩
    · exact fun D ρ w _ _ _ hW => ⟨[(14, .pointer (some ⟨bk275, 0, none⟩))], ⟨fo rfl rfl, trivial⟩, fun Lr => t_field Try.underlying64 rfl Try.sizeOf62 (4) rfl rfl rfl rfl (dz rfl hW)⟩
    ·
     intro D ρ w457 hcD hnD hdD hW
     obtain ⟨u458, C459, T460, F461, F462, F463⟩ := hW
     have zu458 := u458.size
     obtain ⟨aoC309, bC309, cpC309, ao321, gb322, cp323, e465, A466, h467, fcA466_11, x468, B469⟩ := F463 (hdD 13 rfl)
     simp only [hnD, cond_false] at B469
     refine ⟨[(124, .slice ao321 (((rs ++ [(⟨aoC309, bC309, 0, cpC309, (((xs).drop p).take q)⟩ : HRow)])).length) cp323), (131, .pointer (some ⟨bk275, 4, none⟩))], ⟨fi 13 rfl rfl e465.symm, fi 20 rfl rfl rfl, trivial⟩, fun Lr => ?_⟩
     show WL _ _ _ _ _ _ _ ((124, .slice ao321 (((rs ++ [(⟨aoC309, bC309, 0, cpC309, (((xs).drop p).take q)⟩ : HRow)])).length) cp323) :: (131, .pointer (some ⟨bk275, 4, none⟩)) :: Lr) _
     refine t_store (vs := [.slice ao321 (((rs ++ [(⟨aoC309, bC309, 0, cpC309, (((xs).drop p).take q)⟩ : HRow)])).length) cp323]) Try.sizeOf62 rfl rfl rfl B469 rfl rfl (Nat.le_of_ble_eq_true rfl) (by simp [Value.oneCell']) (fun w470 sw470 B472 u471 => ?_)
     have zu471 := u471.size
     have B472 : Blk w470 bk275 64 [.int .i64 boat.len, .int .i64 boat.wid, .int .i64 boat.mass, .int .i64 1, .slice ao321 (((rs ++ [(⟨aoC309, bC309, 0, cpC309, (((xs).drop p).take q)⟩ : HRow)])).length) cp323] := B472
     exact dz0 rfl ⟨(u458.next u471 (fun i hi (h : i = bk275) => show i = bk275 ∨ (i = g2 ∧ w280.heap.size ≤ i) by first | omega | assumption)), (fun h => absurd ((hdD 13 rfl).symm.trans h) (by decide)), (fun h => absurd ((hdD 13 rfl).symm.trans h) (by decide)), (fun h => by obtain ⟨aoC309, bC309, cpC309, e, _⟩ := F461 h; exact ⟨aoC309, bC309, cpC309, e, fun h2 => absurd ((hdD 12 rfl).symm.trans h2) (by decide)⟩), (fun h => by obtain ⟨aoC309, bC309, cpC309, b, e, hge, hB, hF11⟩ := F462 h; exact ⟨aoC309, bC309, cpC309, b, e, hge, (hB.keep u471 (show ¬ (b = bk275) by first | omega | assumption)), ⟨(hF11.1.keep u471 (fun hp => by have hlt := hF11.1.lt hp; have hgg := hF11.2.1; show ¬ (bC309 = bk275); omega)), hF11.2.1, hF11.2.2⟩⟩), (fun _ => ⟨aoC309, bC309, cpC309, ao321, gb322, cp323, e465, (A466.keep u471 (fun _ => show ¬ (gb322 = bk275) by first | omega | assumption)), h467, ⟨(fcA466_11.1.keep u471 (fun hp => by have hlt := fcA466_11.1.lt hp; have hgg := fcA466_11.2.1; show ¬ (bC309 = bk275); omega)), fcA466_11.2.1, fcA466_11.2.2⟩, x468, B472⟩)⟩
    · exact fun D ρ w _ _ _ hW => ⟨[(130, .int .i64 ((p : Int) + (nth (StkR boat xs W) k)))], ⟨fi 19 rfl rfl rfl, trivial⟩, fun Lr => t_assign rfl rfl rfl (dz rfl hW)⟩
    intro ρ w474 hW
    obtain ⟨u475, C476, T477, F478, F479, F480⟩ := hW
    have zu475 := u475.size
    clear C476
    obtain ⟨aoC309, bC309, cpC309, ao321, gb322, cp323, e484, A485, gegb322, fcA485_11, xtgb322, bkgb322⟩ := F480 rfl
    have bkgb322 : Blk w474 bk275 64 [.int .i64 boat.len, .int .i64 boat.wid, .int .i64 boat.mass, .int .i64 1, .slice ao321 (((rs ++ [(⟨aoC309, bC309, 0, cpC309, (((xs).drop p).take q)⟩ : HRow)])).length) cp323] := bkgb322
    have lt_gb322 := A485.lt
    have lecpC309 := fcA485_11.2.2
    have hsfcA485_11 := fcA485_11.1
    have hgfcA485_11 := fcA485_11.2.1
    have D486 := (hfam.keep u475 (fun i h1 h2 h3 => show ¬ (i = bk275 ∨ (i = g2 ∧ w280.heap.size ≤ i)) by omega))
    have fm487 := D486.snoc (⟨aoC309, bC309, 0, cpC309, (((xs).drop p).take q)⟩ : HRow) gb322 w474.heap.size (by omega) hsfcA485_11 (fun hp => by have hlt := hsfcA485_11.lt hp; have hx := xtgb322 hp; have hgg := hgfcA485_11; refine ⟨?_, hx, hlt⟩; show w280.heap.size ≤ bC309; omega) (by omega)
    refine QK.weak [(1, .slice ao xs.length cap), (2, .slice apk pk.length cpk), (3, .pointer (some ⟨bk2, 0, none⟩)), (7, .int .i64 W), (8, .slice aoS ((StkR boat xs W).length) cpS), (9, .int .i64 (StkN boat xs W)), (10, .int .i64 (StkE boat xs W)), (12, .int .i64 (StkN boat xs (min 200 (W + (prt pk 1))))), (13, .int .i64 (StkE boat xs (min 200 (W + (prt pk 1))))), (14, .pointer (some ⟨bk275, 0, none⟩)), (15, .int .i64 ((p : Int) + (nth (StkR boat xs W) k))), (16, .int .i64 (k : Int)), (82, .int .i64 (k : Int)), (83, .slice aoS ((StkR boat xs W).length) cpS), (84, .int .i64 ((StkR boat xs W).length : Int)), (85, .bool (decide ((k : Int) < ((StkR boat xs W).length : Int)))), (88, .slice aoS ((StkR boat xs W).length) cpS), (89, .int .i64 (k : Int)), (90, .pointer (some ⟨bS, 0 + k * 1, none⟩)), (91, .int .i64 (q : Int)), (92, .bool false), (93, .bool false), (94, .slice aoS ((StkR boat xs W).length) cpS), (95, .int .i64 (k : Int)), (96, .pointer (some ⟨bS, 0 + k * 1, none⟩)), (97, .int .i64 (q : Int)), (98, .bool false), (99, .bool false), (100, .bool false), (101, .slice aoS ((StkR boat xs W).length) cpS), (102, .int .i64 (k : Int)), (103, .pointer (some ⟨bS, 0 + k * 1, none⟩)), (104, .int .i64 (q : Int)), (105, .slice ao xs.length cap), (106, .int .i64 (xs.length : Int)), (107, .int .i64 (p : Int)), (108, .int .i64 ((xs.length : Int) - (p : Int))), (109, .bool false), (110, .bool false), (111, .pointer (some ⟨bk275, 4, none⟩)), (112, .slice ao2 rs.length c2), (113, .slice ao xs.length cap), (114, .int .i64 (p : Int)), (115, .int .i64 (p : Int)), (116, .slice aoS ((StkR boat xs W).length) cpS), (117, .int .i64 (k : Int)), (118, .pointer (some ⟨bS, 0 + k * 1, none⟩)), (119, .int .i64 (nth (StkR boat xs W) k)), (120, .int .i64 ((p : Int) + (nth (StkR boat xs W) k))), (121, .slice (subAddr ao cap p 3) (((xs.drop p).take q).length) (cap - p)), (124, .slice ao321 (((rs ++ [(⟨aoC309, bC309, 0, cpC309, (((xs).drop p).take q)⟩ : HRow)])).length) cp323), (125, .int .i64 (p : Int)), (126, .slice aoS ((StkR boat xs W).length) cpS), (127, .int .i64 (k : Int)), (128, .pointer (some ⟨bS, 0 + k * 1, none⟩)), (129, .int .i64 (nth (StkR boat xs W) k)), (130, .int .i64 ((p : Int) + (nth (StkR boat xs W) k))), (131, .pointer (some ⟨bk275, 4, none⟩))] ⟨rfl, rfl, rfl, rfl, rfl, rfl, rfl, rfl, rfl, rfl, rfl, rfl, rfl, rfl, rfl, rfl, rfl, rfl, rfl, rfl, rfl, rfl, rfl, rfl, rfl, rfl, rfl, rfl, rfl, rfl, rfl, rfl, rfl, rfl, rfl, rfl, rfl, rfl, rfl, rfl, rfl, rfl, rfl, rfl, rfl, rfl, rfl, rfl, rfl, rfl, (look_nd (j := 13) rfl rfl rfl e484), rfl, rfl, rfl, rfl, rfl, rfl, rfl, trivial⟩ (hK301 _ _ (c_region (t_move rfl rfl rfl (t_ari rfl rfl rfl rfl rfl (by omega) (t_assign rfl rfl rfl (t_nil' ?_))))))
    exact hK286 (k + 1, p + q, ao321, gb322, cp323, (rs ++ [(⟨aoC309, bC309, 0, cpC309, (((xs).drop p).take q)⟩ : HRow)])) _ _ (by show (StkR boat xs W).length - (k + 1) < (StkR boat xs W).length - k; omega) ⟨rfl, rfl, rfl, rfl, rfl, rfl, rfl, rfl, rfl, rfl, (by exact congrArg some (congrArg (Value.int .i64) (by show (p : Int) + nth (StkR boat xs W) k = ((p + q : Nat) : Int); rw [hr1]; omega))), rfl, trivial⟩ ⟨(u288.next u475 (fun i hi (h : i = bk275 ∨ (i = g2 ∧ w280.heap.size ≤ i)) => show i = bk275 by first | omega | assumption)), bkgb322, (by show k + 1 ≤ (StkR boat xs W).length; omega), (by show p + q ≤ xs.length; omega), hr4, hr5, (by rw [← hjn, drop_nth (show k < (StkR boat xs W).length by omega), hr1]; simp [xsOf, splitR, List.drop_drop]), (by show (rs ++ [_]).length = k + 1; simp [hrl]), A485, (fm487.mono (by omega))⟩
   ·
    have hnil : (StkR boat xs W).drop k = [] := List.drop_eq_nil_of_le (by omega)
    have hpe : xs.drop p = [] := rows_done (by rw [← hd]; exact hnil) hbb
    have hpl : xs.length ≤ p := by have := congrArg List.length hpe; rw [List.length_drop] at this; simp at this; omega
    have hsp : xsOf rs = splitR (StkR boat xs W) xs := by rw [← hjn, hnil]; simp [splitR, xsOf]
    have hsnd := rows_sound 10 xs hb4
    rw [← hb5, ← hsp] at hsnd
    have hr4 : ∀ r ∈ rs, 1 ≤ r.xs.length ∧ r.xs.length ≤ 4 := fun r hr => (hsnd.2.1 r.xs (List.mem_map.2 ⟨r, hr, rfl⟩)).1
    have hT := tow_ok hb1 hb2 hx30 hsnd.1 (by omega) hr4
    have hTw := (hT.2.2.2 W).2 ⟨hb3, fun r hr => (hsnd.2.1 r hr).2⟩
    have hTl : (MeaS boat 1 (xsOf rs)).len = StkN boat xs W := by rw [hT.2.1, hsnd.2.2, hb6]
    refine c_exit (hK284 _ _ (c_seq fun K488 hK488 => (c_region (t_loadN (vs := [.int .i64 boat.len, .int .i64 boat.wid, .int .i64 boat.mass, .int .i64 1, .slice ao2 rs.length c2]) Try.isAgg64 Try.sizeOf64 rfl rfl rfl (I289.at.sub 0 5) rfl (t_call (vs := [.agg #[.int .i64 boat.len, .int .i64 boat.wid, .int .i64 boat.mass, .int .i64 1, .slice ao2 rs.length c2]]) own37 rfl rfl rfl rfl (MeaX_c boat 1 rs ao2 g2 0 c2 _ (hacc.sl (fun _ => rfl)) (fun r hr => (hfam r hr).1) (by omega) (lens_of hr4)) (fun v489 w490 r492 => ?_))))))
    obtain ⟨rfl, u491⟩ := r492
    have zu491 := u491.size
    have E493 := E298.next u491 (fun _ _ h => h.elim)
    refine t_move rfl rfl rfl (t_extract (vs := [.agg #[.int .i64 ((MeaS boat 1 (xsOf rs)).len), .int .i64 ((MeaS boat 1 (xsOf rs)).wid), .int .i64 ((MeaS boat 1 (xsOf rs)).mass), .int .i64 ((MeaS boat 1 (xsOf rs)).hulls)], .int .i64 (MeaE boat 1 (xsOf rs))]) rfl rfl rfl rfl (t_extract (vs := [.agg #[.int .i64 ((MeaS boat 1 (xsOf rs)).len), .int .i64 ((MeaS boat 1 (xsOf rs)).wid), .int .i64 ((MeaS boat 1 (xsOf rs)).mass), .int .i64 ((MeaS boat 1 (xsOf rs)).hulls)], .int .i64 (MeaE boat 1 (xsOf rs))]) rfl rfl rfl rfl (t_alloc (cs := [.int .i64 0, .int .i64 0, .int .i64 0, .int .i64 0]) Try.zeroValue66 rfl rfl rfl (fun bk494 w495 ebk494 sbk494 B496 u497 => ?_))))
    have zu497 := u497.size
    have E498 := E493.next u497 (fun _ _ h => h.elim)
    refine t_store (vs := [.int .i64 ((MeaS boat 1 (xsOf rs)).len), .int .i64 ((MeaS boat 1 (xsOf rs)).wid), .int .i64 ((MeaS boat 1 (xsOf rs)).mass), .int .i64 ((MeaS boat 1 (xsOf rs)).hulls)]) Try.sizeOf66 rfl rfl rfl B496 rfl rfl (Nat.le_of_ble_eq_true rfl) (by simp [Value.oneCell']) (fun w499 sw499 B501 u500 => ?_)
    have zu500 := u500.size
    have E502 := E498.next u500 (fun i hi (h : i = bk494) => show False by first | omega | assumption)
    have B501 : Blk w499 bk494 66 [.int .i64 ((MeaS boat 1 (xsOf rs)).len), .int .i64 ((MeaS boat 1 (xsOf rs)).wid), .int .i64 ((MeaS boat 1 (xsOf rs)).mass), .int .i64 ((MeaS boat 1 (xsOf rs)).hulls)] := B501
    refine t_assign rfl rfl rfl (t_nil' (hK488 _ _ (c_seq fun K503 hK503 => (c_seq fun K504 hK504 => (c_region (t_same 10 (v := .int .i64 0) rfl (congrArg (Value.int .i64) hT.1) (t_move rfl rfl rfl (t_cmp rfl rfl rfl rfl rfl (t_samehd (v := .bool false) rfl (t_move rfl rfl rfl (t_move rfl rfl rfl (t_move rfl rfl rfl (t_len Try.underlying24 rfl rfl rfl rfl (t_cmp rfl rfl rfl rfl rfl (t_same 143 (v := .bool false) rfl (congrArg Value.bool (decide_eq_false (by omega))) (t_pick_f rfl rfl rfl rfl (t_move rfl rfl rfl (t_field Try.underlying66 rfl Try.sizeOf3 (0) rfl rfl rfl rfl (t_load Try.isAgg3 rfl rfl rfl (B501.get rfl) (t_move rfl rfl rfl (t_cmp rfl rfl rfl rfl rfl (t_same 149 (v := .bool false) rfl (congrArg Value.bool (decide_eq_false (by omega))) (t_pick_f rfl rfl rfl rfl ?_)))))))))))))))))))))))
    refine t_move rfl rfl rfl (t_field Try.underlying66 rfl Try.sizeOf3 (1) rfl rfl rfl rfl (t_load Try.isAgg3 rfl rfl rfl (B501.get rfl) (t_move rfl rfl rfl (t_cmp rfl rfl rfl rfl rfl (t_same 155 (v := .bool false) rfl (congrArg Value.bool (decide_eq_false (by omega))) (t_pick_f rfl rfl rfl rfl (t_move rfl rfl rfl (t_field Try.underlying66 rfl Try.sizeOf3 (3) rfl rfl rfl rfl (t_load Try.isAgg3 rfl rfl rfl (B501.get rfl) (t_move rfl rfl rfl (t_len Try.underlying24 rfl rfl rfl rfl (t_cmp rfl rfl rfl rfl rfl (t_same 162 (v := .bool false) rfl (congrArg Value.bool (decide_eq_false (by have := hT.2.2.1; omega))) (t_pick_f rfl rfl rfl rfl (t_move rfl rfl rfl (t_move rfl rfl rfl (t_cmp rfl rfl rfl rfl rfl (t_same 166 (v := .bool false) rfl (congrArg Value.bool (decide_eq_false (by have := hs2.1; omega))) (t_pick_f rfl rfl rfl rfl (t_move rfl rfl rfl (t_move rfl rfl rfl (t_move rfl rfl rfl (t_cmp rfl rfl rfl rfl rfl ?_)))))))))))))))))))))))
    refine t_same 171 (v := .bool false) rfl (congrArg Value.bool (decide_eq_false (by have := hs2.2; omega))) (t_pick_f rfl rfl rfl rfl (t_nil' (hK504 _ _ (c_cond_f rfl (c_skip (hK503 _ _ (c_seq fun K505 hK505 => (c_region ?_))))))))
    have B506 := ((((((B274.keep u278 (fun h => h)).keep u281 (show ¬ (bk2 = bk275) by first | omega | assumption)).keep u288 (show ¬ (bk2 = bk275) by first | omega | assumption)).keep u491 (fun h => h)).keep u497 (fun h => h)).keep u500 (show ¬ (bk2 = bk494) by first | omega | assumption))
    refine t_loadN (vs := [.int .i64 boat.len, .int .i64 boat.wid, .int .i64 boat.mass]) Try.isAgg23 Try.sizeOf23 rfl rfl rfl (B506.at.sub 0 3) rfl (t_build (ps := [(0, .agg #[.int .i64 boat.len, .int .i64 boat.wid, .int .i64 boat.mass]), (1, .int .i64 1)]) (v := .agg #[.int .i64 boat.len, .int .i64 boat.wid, .int .i64 boat.mass, .int .i64 1, .slice none 0 0]) rfl rfl ⟨rfl, rfl⟩ (fun w => by kernel_rfl) (t_alloc (cs := [.int .i64 0, .int .i64 0, .int .i64 0, .int .i64 0, .slice none 0 0]) Try.zeroValue64 rfl rfl rfl (fun bk507 w508 ebk507 sbk507 B509 u510 => ?_)))
    have zu510 := u510.size
    have E511 := E502.next u510 (fun _ _ h => h.elim)
    refine t_store (vs := [.int .i64 boat.len, .int .i64 boat.wid, .int .i64 boat.mass, .int .i64 1, .slice none 0 0]) Try.sizeOf64 rfl rfl rfl B509 rfl rfl (Nat.le_of_ble_eq_true rfl) (by simp [Value.oneCell']) (fun w512 sw512 B514 u513 => ?_)
    have zu513 := u513.size
    have E515 := E511.next u513 (fun i hi (h : i = bk507) => show False by first | omega | assumption)
    have B514 : Blk w512 bk507 64 [.int .i64 boat.len, .int .i64 boat.wid, .int .i64 boat.mass, .int .i64 1, .slice none 0 0] := B514
    refine t_nil' (hK505 _ _ (c_seq fun K516 hK516 => (c_seq fun K517 hK517 => (c_region (t_assign rfl rfl rfl (t_assign rfl rfl rfl (t_nil' (hK517 _ _ (c_block (c_loop (γ := Nat × Nat × Option Addr × Nat × Nat × List HRow) (fun gg => [(1, .slice ao xs.length cap), (2, .slice apk pk.length cpk), (7, .int .i64 W), (9, .int .i64 (StkN boat xs W)), (10, .int .i64 0), (18, .pointer (some ⟨bk507, 0, none⟩)), (19, .int .i64 (gg.1 : Int)), (20, .int .i64 (gg.2.1 : Int))]) (fun gg w => Upd (fun i => i = bk507) w512 w ∧ Blk w bk507 64 [.int .i64 boat.len, .int .i64 boat.wid, .int .i64 boat.mass, .int .i64 1, .slice gg.2.2.1 gg.2.2.2.2.2.length gg.2.2.2.2.1] ∧ (gg.1 ≤ xs.length) ∧ (2 ≤ gg.2.1 ∧ gg.2.1 ≤ gg.1 + 2) ∧ (∀ r ∈ gg.2.2.2.2.2, 1 ≤ r.xs.length ∧ r.xs.length ≤ 4) ∧ ((xsOf gg.2.2.2.2.2).flatten ++ xs.drop gg.1 = xs) ∧ (gg.2.2.2.2.2.length ≤ gg.1) ∧ (Acc encHRow 1 24 w512.heap.size w gg.2.2.1 gg.2.2.2.1 gg.2.2.2.2.1 gg.2.2.2.2.2) ∧ (Fam encHull 3 HRow.ao HRow.b HRow.o HRow.xs w512.heap.size gg.2.2.2.1 w.heap.size gg.2.2.2.2.2 w)) (fun gg => xs.length - gg.1) (0, 2, none, 0, 0, []) ⟨rfl, rfl, rfl, rfl, rfl, rfl, rfl, rfl, trivial⟩ ⟨Upd.refl _ _, B514, (Nat.zero_le _), (by simp only []; omega), (fun r hr => by cases hr), rfl, (Nat.zero_le _), (Acc.nil _ _ _ _ _ (by omega) (Nat.le_refl _)), Fam.nil⟩ ?_))))))))))
    intro gg w519 hW K518 hK518
    obtain ⟨p, j, ao3, g3, c3, rs2⟩ := gg
    change WC _ _ _ _ _ _ [(1, .slice ao xs.length cap), (2, .slice apk pk.length cpk), (7, .int .i64 W), (9, .int .i64 (StkN boat xs W)), (10, .int .i64 0), (18, .pointer (some ⟨bk507, 0, none⟩)), (19, .int .i64 (p : Int)), (20, .int .i64 (j : Int))] _
    change Upd (fun i => i = bk507) w512 w519 ∧ Blk w519 bk507 64 [.int .i64 boat.len, .int .i64 boat.wid, .int .i64 boat.mass, .int .i64 1, .slice ao3 rs2.length c3] ∧ (p ≤ xs.length) ∧ (2 ≤ j ∧ j ≤ p + 2) ∧ (∀ r ∈ rs2, 1 ≤ r.xs.length ∧ r.xs.length ≤ 4) ∧ ((xsOf rs2).flatten ++ xs.drop p = xs) ∧ (rs2.length ≤ p) ∧ (Acc encHRow 1 24 w512.heap.size w519 ao3 g3 c3 rs2) ∧ (Fam encHull 3 HRow.ao HRow.b HRow.o HRow.xs w512.heap.size g3 w519.heap.size rs2 w519) at hW
    obtain ⟨u520, I521, I522, I523, I524, I525, I526, I527, I528⟩ := hW
    have zu520 := u520.size
    have E529 := E515.next u520 (fun i hi (h : i = bk507) => show False by first | omega | assumption)
    have hp := I522; clear I522
    have hj := I523; clear I523
    have hr42 := I524; clear I524
    have hfl2 := I525; clear I525
    have hrl2 := I526; clear I526
    have hacc2 := I527; clear I527
    have hfam2 := I528; clear I528
    have lt_g3 := hacc2.lt
    have hqj := prt_rng (l := pk) (i := j) hk8
    refine c_seq fun K530 hK530 => (c_seq fun K531 hK531 => (c_region (t_move rfl rfl rfl (t_move rfl rfl rfl (t_len Try.underlying24 rfl rfl rfl rfl (t_cmp rfl rfl rfl rfl rfl (t_nil' (hK531 _ _ (c_condp rfl (fun g178 => ?_) (fun g178 => ?_))))))))))
    ·
     refine c_skip (hK530 _ _ (c_seq fun K532 hK532 => (c_block (c_seq fun K533 hK533 => (c_region (t_move rfl rfl rfl (t_len Try.underlying24 rfl rfl rfl rfl (t_move rfl rfl rfl (t_ari rfl rfl rfl rfl rfl (by omega) (t_move rfl rfl rfl (t_move rfl rfl rfl (t_call (vs := [.slice apk pk.length cpk, .int .i64 (j : Int)]) own45 rfl rfl rfl rfl (part_c pk j apk bpk opk cpk _ (hkk.keep E529 (fun _ h => h)) hkl) (fun v534 w535 r537 => ?_)))))))))))))
     obtain ⟨rfl, u536⟩ := r537
     have zu536 := u536.size
     have E538 := E529.next u536 (fun _ _ h => h.elim)
     refine t_conv Try.underlying5 Try.underlying3 rfl rfl rfl (IntWalk.i64_in _ (by omega)) (t_rem rfl rfl rfl rfl (by omega) (by omega) (t_ari rfl rfl rfl rfl rfl (by omega) (t_min rfl rfl rfl rfl ?_)))
     obtain ⟨q, hqe⟩ : ∃ q : Nat, (q : Int) = (min ((xs.length : Int) - (p : Int)) (1 + ((prt pk j) % 4))) := ⟨((min ((xs.length : Int) - (p : Int)) (1 + ((prt pk j) % 4)))).toNat, by omega⟩
     have hqq : 1 ≤ q ∧ q ≤ 4 ∧ p + q ≤ xs.length := by omega
     refine t_same 191 (v := .int .i64 (q : Int)) rfl (congrArg (Value.int .i64) hqe.symm) (t_assign rfl rfl rfl (t_nil' (hK533 _ _ ?_)))
     have B539 := (I521.keep u536 (fun h => h))
     have D551 := (hacc2.keep u536 (fun _ h => h))
     refine WC.weak [(1, .slice ao xs.length cap), (2, .slice apk pk.length cpk), (7, .int .i64 W), (9, .int .i64 (StkN boat xs W)), (10, .int .i64 0), (18, .pointer (some ⟨bk507, 0, none⟩)), (19, .int .i64 (p : Int)), (20, .int .i64 (j : Int)), (21, .int .i64 (q : Int)), (175, .int .i64 (p : Int)), (176, .slice ao xs.length cap), (177, .int .i64 (xs.length : Int)), (178, .bool (decide ((p : Int) < (xs.length : Int)))), (181, .slice ao xs.length cap), (182, .int .i64 (xs.length : Int)), (183, .int .i64 (p : Int)), (184, .int .i64 ((xs.length : Int) - (p : Int))), (185, .slice apk pk.length cpk), (186, .int .i64 (j : Int)), (187, .int .u8 (prt pk j)), (188, .int .i64 (prt pk j)), (189, .int .i64 ((prt pk j) % 4)), (190, .int .i64 (1 + ((prt pk j) % 4))), (191, .int .i64 (q : Int))] ⟨rfl, rfl, rfl, rfl, rfl, rfl, rfl, rfl, rfl, rfl, rfl, rfl, rfl, rfl, rfl, rfl, rfl, rfl, rfl, rfl, rfl, rfl, rfl, rfl, trivial⟩ (c_drawn follows 17 [some (192, some (.pointer (some ⟨bk507, 4, none⟩))), some (193, some (.slice ao3 rs2.length c3)), some (194, some (.slice ao xs.length cap)), some (195, some (.int .i64 (p : Int))), some (196, some (.int .i64 (p : Int))), some (197, some (.int .i64 (q : Int))), some (198, some (.int .i64 ((p : Int) + (q : Int)))), some (199, some (.slice (subAddr ao cap p 3) (((xs.drop p).take q).length) (cap - p))), some (200, none), some (201, none), some (202, none), some (203, some (.int .i64 (p : Int))), some (204, some (.int .i64 (q : Int))), some (205, some (.int .i64 ((p : Int) + (q : Int)))), some (206, some (.pointer (some ⟨bk507, 4, none⟩))), none, some (19, some (.int .i64 ((p : Int) + (q : Int))))] [[],[0],[],[],[],[],[4,5],[2,3,6],[7],[8],[1,9,8],[],[],[11,12],[0,1,2,3,4,5,6,7,8,9,10],[14,10,10,0,1,2,3,4,5,6,7,8,9,10],[13,15,0,1,2,3,4,5,6,7,8,9,10,11,12,13,14,15]] (fun D ρ w => Upd (fun i => i = bk507 ∨ (i = g3 ∧ w512.heap.size ≤ i)) w535 w ∧ (D 10 = false → Acc encHRow 1 24 w512.heap.size w ao3 g3 c3 rs2) ∧ (D 10 = false → Blk w bk507 64 [.int .i64 boat.len, .int .i64 boat.wid, .int .i64 boat.mass, .int .i64 1, .slice ao3 rs2.length c3]) ∧ (D 8 = true → ∃ aoC540 bC540 cpC540, ρ 8 = .slice aoC540 (((((xs).drop p).take q)).length) cpC540 ∧ (D 9 = false → (Sl encHull 3 w aoC540 bC540 0 (((xs).drop p).take q) ∧ w535.heap.size ≤ bC540 ∧ ((((xs).drop p).take q)).length ≤ cpC540))) ∧ (D 9 = true → ∃ aoC540 bC540 cpC540 bk546, ρ 9 = .slice (some ⟨bk546, 0, none⟩) 1 1 ∧ w535.heap.size ≤ bk546 ∧ Blk w bk546 24 [.slice aoC540 (((((xs).drop p).take q)).length) cpC540] ∧ (Sl encHull 3 w aoC540 bC540 0 (((xs).drop p).take q) ∧ w535.heap.size ≤ bC540 ∧ ((((xs).drop p).take q)).length ≤ cpC540)) ∧ (D 10 = true → ∃ aoC540 bC540 cpC540 ao553 gb554 cp555, ρ 10 = .slice ao553 (((rs2 ++ [(⟨aoC540, bC540, 0, cpC540, (((xs).drop p).take q)⟩ : HRow)])).length) cp555 ∧ Acc encHRow 1 24 w512.heap.size w ao553 gb554 cp555 (rs2 ++ [(⟨aoC540, bC540, 0, cpC540, (((xs).drop p).take q)⟩ : HRow)]) ∧ (gb554 = g3 ∨ w535.heap.size ≤ gb554) ∧ (Sl encHull 3 w aoC540 bC540 0 (((xs).drop p).take q) ∧ w535.heap.size ≤ bC540 ∧ ((((xs).drop p).take q)).length ≤ cpC540) ∧ (0 < ((xs.drop p).take q).length → bC540 ≠ gb554) ∧ Blk w bk507 64 [.int .i64 boat.len, .int .i64 boat.wid, .int .i64 boat.mass, .int .i64 1, (bif D 15 then .slice ao553 (((rs2 ++ [(⟨aoC540, bC540, 0, cpC540, (((xs).drop p).take q)⟩ : HRow)])).length) cp555 else .slice ao3 rs2.length c3)])) rfl rfl rfl (by kernel_rfl) (by kernel_rfl) ⟨(Upd.drew _).to, (fun _ => D551.keep (Upd.drew _) (fun _ h => h)), (fun _ => B539.keep (Upd.drew _) (fun h => h)), (fun h => by cases h), (fun h => by cases h), (fun h => by cases h)⟩ ⟨?_, ?_, ?_, ?_, ?_, ?_, ?_, ?_, ?_, ?_, ?_, ?_, ?_, ?_, ?_, ?_, ?_, trivial⟩ ?_)
     · exact fun D ρ w _ _ _ hW => ⟨[(18, .pointer (some ⟨bk507, 0, none⟩))], ⟨fo rfl rfl, trivial⟩, fun Lr => t_field Try.underlying64 rfl Try.sizeOf62 (4) rfl rfl rfl rfl (dz rfl hW)⟩
     ·
      intro D ρ w560 hcD hnD hdD hW
      obtain ⟨u561, C562, T563, F564, F565, F566⟩ := hW
      have zu561 := u561.size
      have B568 := T563 (hcD.late 10 hnD rfl)
      refine ⟨[(192, .pointer (some ⟨bk507, 4, none⟩))], ⟨fi 0 rfl rfl rfl, trivial⟩, fun Lr => ?_⟩
      show WL _ _ _ _ _ _ _ ((192, .pointer (some ⟨bk507, 4, none⟩)) :: Lr) _
      refine t_load Try.isAgg62 rfl rfl rfl (B568.get rfl) ?_
      exact dz rfl ⟨u561, C562, T563, F564, F565, F566⟩
     · exact fun D ρ w _ _ _ hW => ⟨[(1, .slice ao xs.length cap)], ⟨fo rfl rfl, trivial⟩, fun Lr => t_move rfl rfl rfl (dz rfl hW)⟩
     · exact fun D ρ w _ _ _ hW => ⟨[(19, .int .i64 (p : Int))], ⟨fo rfl rfl, trivial⟩, fun Lr => t_move rfl rfl rfl (dz rfl hW)⟩
     · exact fun D ρ w _ _ _ hW => ⟨[(19, .int .i64 (p : Int))], ⟨fo rfl rfl, trivial⟩, fun Lr => t_move rfl rfl rfl (dz rfl hW)⟩
     · exact fun D ρ w _ _ _ hW => ⟨[(21, .int .i64 (q : Int))], ⟨fo rfl rfl, trivial⟩, fun Lr => t_move rfl rfl rfl (dz rfl hW)⟩
     ·
      intro D ρ w569 hcD hnD hdD hW
      obtain ⟨u570, C571, T572, F573, F574, F575⟩ := hW
      have zu570 := u570.size
      refine ⟨[(196, .int .i64 (p : Int)), (197, .int .i64 (q : Int))], ⟨fi 4 rfl rfl rfl, fi 5 rfl rfl rfl, trivial⟩, fun Lr => ?_⟩
      show WL _ _ _ _ _ _ _ ((196, .int .i64 (p : Int)) :: (197, .int .i64 (q : Int)) :: Lr) _
      refine t_ari rfl rfl rfl rfl rfl (by omega) ?_
      exact dz rfl ⟨u570, C571, T572, F573, F574, F575⟩
     ·
      intro D ρ w578 hcD hnD hdD hW
      obtain ⟨u579, C580, T581, F582, F583, F584⟩ := hW
      have zu579 := u579.size
      refine ⟨[(194, .slice ao xs.length cap), (195, .int .i64 (p : Int)), (198, .int .i64 ((p : Int) + (q : Int)))], ⟨fi 2 rfl rfl rfl, fi 3 rfl rfl rfl, fi 6 rfl rfl rfl, trivial⟩, fun Lr => ?_⟩
      show WL _ _ _ _ _ _ _ ((194, .slice ao xs.length cap) :: (195, .int .i64 (p : Int)) :: (198, .int .i64 ((p : Int) + (q : Int))) :: Lr) _
      refine t_sliceM (p) (((xs.drop p).take q).length) Try.underlying24 Try.sizeOf23 rfl rfl rfl rfl rfl rfl (by simp only [List.length_take, List.length_drop]; omega) (by simp only [List.length_take, List.length_drop]; omega) ?_
      exact dz rfl ⟨u579, C580, T581, F582, F583, F584⟩
     ·
      intro D ρ w587 hcD hnD hdD hW
      obtain ⟨u588, C589, T590, F591, F592, F593⟩ := hW
      have zu588 := u588.size
      have E594 := E538.next u588 (fun i hi (h : i = bk507 ∨ (i = g3 ∧ w512.heap.size ≤ i)) => show False by first | omega | assumption)
      refine ⟨[(199, .slice (subAddr ao cap p 3) (((xs.drop p).take q).length) (cap - p))], ⟨fi 7 rfl rfl rfl, trivial⟩, fun Lr => ?_⟩
      show WL _ _ _ _ _ _ _ ((199, .slice (subAddr ao cap p 3) (((xs.drop p).take q).length) (cap - p)) :: Lr) _
      refine t_call (vs := [.slice (subAddr ao cap p 3) (((xs.drop p).take q).length) (cap - p)]) own17 rfl rfl rfl rfl (hulls_c (((xs).drop p).take q) (subAddr ao cap p 3) b (o + p * 3) (cap - p) _ ((hs.keep E594 (fun _ h => h)).sub cap p q hcap) (by first | omega | (simp only [List.length_take, List.length_drop]; omega))) (fun v597 w598 r600 => ?_)
      obtain ⟨⟨aoC596, bC596, cpC596, rfl, hC596, gebC596, lecpC596⟩, u599⟩ := r600
      have zu599 := u599.size
      exact dzn rfl ⟨(u588.next u599 (fun _ _ h => h.elim)), (fun h => ((C589 h).keep u599 (fun _ h => h))), (fun h => ((T590 h).keep u599 (fun h => h))), (fun _ => ⟨aoC596, bC596, cpC596, rfl, fun _ => ⟨hC596, by omega, lecpC596⟩⟩), (fun h => by obtain ⟨aoC540, bC540, cpC540, b, e, hge, hB, hF8⟩ := F592 h; exact ⟨aoC540, bC540, cpC540, b, e, hge, (hB.keep u599 (fun h => h)), ⟨(hF8.1.keep u599 (fun _ h => h)), hF8.2.1, hF8.2.2⟩⟩), (fun h => by obtain ⟨aoC540, bC540, cpC540, ao553, gb554, cp555, e, hA, hg, hF8, hX, hQ⟩ := F593 h; exact ⟨aoC540, bC540, cpC540, ao553, gb554, cp555, e, (hA.keep u599 (fun _ h => h)), hg, ⟨(hF8.1.keep u599 (fun _ h => h)), hF8.2.1, hF8.2.2⟩, hX, (hQ.keep u599 (fun h => h))⟩)⟩
     ·
      intro D ρ w602 hcD hnD hdD hW
      obtain ⟨u603, C604, T605, F606, F607, F608⟩ := hW
      have zu603 := u603.size
      obtain ⟨aoC540, bC540, cpC540, e611, H612⟩ := F606 (hdD 8 rfl)
      have H613 := H612 hnD
      have lecpC540 := H613.2.2
      have hsH613 := H613.1
      have hgH613 := H613.2.1
      refine ⟨[(200, .slice aoC540 (((((xs).drop p).take q)).length) cpC540)], ⟨fi 8 rfl rfl e611.symm, trivial⟩, fun Lr => ?_⟩
      show WL _ _ _ _ _ _ _ ((200, .slice aoC540 (((((xs).drop p).take q)).length) cpC540) :: Lr) _
      refine t_bslice (ps := [(0, .slice aoC540 (((((xs).drop p).take q)).length) cpC540)]) (cs := [.slice aoC540 (((((xs).drop p).take q)).length) cpC540]) (e := 24) rfl rfl ⟨rfl, rfl⟩ (fun w => by kernel_rfl) (fun bk614 w615 ebk614 sbk614 B616 u617 => ?_)
      have zu617 := u617.size
      exact dzn rfl ⟨(u603.next u617 (fun _ _ h => h.elim)), (fun h => ((C604 h).keep u617 (fun _ h => h))), (fun h => ((T605 h).keep u617 (fun h => h))), (fun h => by obtain ⟨aoC540, bC540, cpC540, e, _⟩ := F606 h; exact ⟨aoC540, bC540, cpC540, e, fun h => by cases h⟩), (fun _ => ⟨aoC540, bC540, cpC540, bk614, rfl, (by omega), (by show Blk w615 bk614 24 [.slice aoC540 (((((xs).drop p).take q)).length) cpC540]; exact B616), ⟨(H613.1.keep u617 (fun _ h => h)), H613.2.1, H613.2.2⟩⟩), (fun h => by obtain ⟨aoC540, bC540, cpC540, ao553, gb554, cp555, e, hA, hg, hF8, hX, hQ⟩ := F608 h; exact ⟨aoC540, bC540, cpC540, ao553, gb554, cp555, e, (hA.keep u617 (fun _ h => h)), hg, ⟨(hF8.1.keep u617 (fun _ h => h)), hF8.2.1, hF8.2.2⟩, hX, (hQ.keep u617 (fun h => h))⟩)⟩
     ·
      intro D ρ w619 hcD hnD hdD hW
      obtain ⟨u620, C621, T622, F623, F624, F625⟩ := hW
      have zu620 := u620.size
      have B627 := T622 hnD
      have C628 := C621 hnD
      obtain ⟨aoC540, bC540, cpC540, bk546, e629, gebk546, B630, fcB630_8⟩ := F624 (hdD 9 rfl)
      have lecpC540 := fcB630_8.2.2
      have hsfcB630_8 := fcB630_8.1
      have hgfcB630_8 := fcB630_8.2.1
      refine ⟨[(193, .slice ao3 rs2.length c3), (201, .slice (some ⟨bk546, 0, none⟩) 1 1)], ⟨fi 1 rfl rfl rfl, fi 9 rfl rfl e629.symm, trivial⟩, fun Lr => ?_⟩
      show WL _ _ _ _ _ _ _ ((193, .slice ao3 rs2.length c3) :: (201, .slice (some ⟨bk546, 0, none⟩) 1 1) :: Lr) _
      refine t_append (z := .slice none 0 0) (bytes := 24) (k := 1) (base := w512.heap.size) (⟨aoC540, bC540, 0, cpC540, (((xs).drop p).take q)⟩ : HRow) Try.underlying62 (by kernel_rfl) rfl (by decide) (fun _ => rfl) (by intro x; simp [encHRow, Value.oneCell']) rfl rfl rfl rfl C628 B630 (by omega) (by omega) (by decide) (fun ao631 gb632 cp633 w634 A635 u636 gegb632 lngb632 => ?_)
      have zu636 := u636.size
      have lt_gb632 := A635.lt
      have d15 := (hcD.late 15 hnD rfl)
      have B638 := (B627.keep u636 (show ¬ ((bk507 = g3 ∧ w512.heap.size ≤ bk507)) by first | omega | assumption))
      exact dzn rfl ⟨(u620.next u636 (fun i hi (h : (i = g3 ∧ w512.heap.size ≤ i)) => show i = bk507 ∨ (i = g3 ∧ w512.heap.size ≤ i) by first | omega | assumption)), (fun h => by cases h), (fun h => by cases h), (fun h => by obtain ⟨aoC540, bC540, cpC540, e, _⟩ := F623 h; exact ⟨aoC540, bC540, cpC540, e, fun h2 => absurd ((hdD 9 rfl).symm.trans h2) (by decide)⟩), (fun h => by obtain ⟨aoC540, bC540, cpC540, b, e, hge, hB, hF8⟩ := F624 h; exact ⟨aoC540, bC540, cpC540, b, e, hge, (hB.keep u636 (show ¬ ((b = g3 ∧ w512.heap.size ≤ b)) by first | omega | assumption)), ⟨(hF8.1.keep u636 (fun hp => by have hlt := hF8.1.lt hp; have hgg := hF8.2.1; show ¬ ((bC540 = g3 ∧ w512.heap.size ≤ bC540)); omega)), hF8.2.1, hF8.2.2⟩⟩), (fun _ => ⟨aoC540, bC540, cpC540, ao631, gb632, cp633, rfl, A635, (by omega), ⟨(fcB630_8.1.keep u636 (fun hp => by have hlt := fcB630_8.1.lt hp; have hgg := fcB630_8.2.1; show ¬ ((bC540 = g3 ∧ w512.heap.size ≤ bC540)); omega)), fcB630_8.2.1, fcB630_8.2.2⟩, (fun hp => by have hlt := fcB630_8.1.lt hp; omega), (by show Blk w634 bk507 64 [.int .i64 boat.len, .int .i64 boat.wid, .int .i64 boat.mass, .int .i64 1, (bif D 15 then .slice ao631 (((rs2 ++ [(⟨aoC540, bC540, 0, cpC540, (((xs).drop p).take q)⟩ : HRow)])).length) cp633 else .slice ao3 rs2.length c3)]; simp only [d15, cond_false]; exact B638)⟩)⟩
     · exact fun D ρ w _ _ _ hW => ⟨[(19, .int .i64 (p : Int))], ⟨fo rfl rfl, trivial⟩, fun Lr => t_move rfl rfl rfl (dz rfl hW)⟩
     · exact fun D ρ w _ _ _ hW => ⟨[(21, .int .i64 (q : Int))], ⟨fo rfl rfl, trivial⟩, fun Lr => t_move rfl rfl rfl (dz rfl hW)⟩
     ·
      intro D ρ w639 hcD hnD hdD hW
      obtain ⟨u640, C641, T642, F643, F644, F645⟩ := hW
      have zu640 := u640.size
      refine ⟨[(203, .int .i64 (p : Int)), (204, .int .i64 (q : Int))], ⟨fi 11 rfl rfl rfl, fi 12 rfl rfl rfl, trivial⟩, fun Lr => ?_⟩
      show WL _ _ _ _ _ _ _ ((203, .int .i64 (p : Int)) :: (204, .int .i64 (q : Int)) :: Lr) _
      refine t_ari rfl rfl rfl rfl rfl (by omega) ?_
      exact dz rfl ⟨u640, C641, T642, F643, F644, F645⟩
     · exact fun D ρ w _ _ _ hW => ⟨[(18, .pointer (some ⟨bk507, 0, none⟩))], ⟨fo rfl rfl, trivial⟩, fun Lr => t_field Try.underlying64 rfl Try.sizeOf62 (4) rfl rfl rfl rfl (dz rfl hW)⟩
     ·
      intro D ρ w647 hcD hnD hdD hW
      obtain ⟨u648, C649, T650, F651, F652, F653⟩ := hW
      have zu648 := u648.size
      obtain ⟨aoC540, bC540, cpC540, ao553, gb554, cp555, e655, A656, h657, fcA656_8, x658, B659⟩ := F653 (hdD 10 rfl)
      simp only [hnD, cond_false] at B659
      refine ⟨[(202, .slice ao553 (((rs2 ++ [(⟨aoC540, bC540, 0, cpC540, (((xs).drop p).take q)⟩ : HRow)])).length) cp555), (206, .pointer (some ⟨bk507, 4, none⟩))], ⟨fi 10 rfl rfl e655.symm, fi 14 rfl rfl rfl, trivial⟩, fun Lr => ?_⟩
      show WL _ _ _ _ _ _ _ ((202, .slice ao553 (((rs2 ++ [(⟨aoC540, bC540, 0, cpC540, (((xs).drop p).take q)⟩ : HRow)])).length) cp555) :: (206, .pointer (some ⟨bk507, 4, none⟩)) :: Lr) _
      refine t_store (vs := [.slice ao553 (((rs2 ++ [(⟨aoC540, bC540, 0, cpC540, (((xs).drop p).take q)⟩ : HRow)])).length) cp555]) Try.sizeOf62 rfl rfl rfl B659 rfl rfl (Nat.le_of_ble_eq_true rfl) (by simp [Value.oneCell']) (fun w660 sw660 B662 u661 => ?_)
      have zu661 := u661.size
      have B662 : Blk w660 bk507 64 [.int .i64 boat.len, .int .i64 boat.wid, .int .i64 boat.mass, .int .i64 1, .slice ao553 (((rs2 ++ [(⟨aoC540, bC540, 0, cpC540, (((xs).drop p).take q)⟩ : HRow)])).length) cp555] := B662
      exact dz0 rfl ⟨(u648.next u661 (fun i hi (h : i = bk507) => show i = bk507 ∨ (i = g3 ∧ w512.heap.size ≤ i) by first | omega | assumption)), (fun h => absurd ((hdD 10 rfl).symm.trans h) (by decide)), (fun h => absurd ((hdD 10 rfl).symm.trans h) (by decide)), (fun h => by obtain ⟨aoC540, bC540, cpC540, e, _⟩ := F651 h; exact ⟨aoC540, bC540, cpC540, e, fun h2 => absurd ((hdD 9 rfl).symm.trans h2) (by decide)⟩), (fun h => by obtain ⟨aoC540, bC540, cpC540, b, e, hge, hB, hF8⟩ := F652 h; exact ⟨aoC540, bC540, cpC540, b, e, hge, (hB.keep u661 (show ¬ (b = bk507) by first | omega | assumption)), ⟨(hF8.1.keep u661 (fun hp => by have hlt := hF8.1.lt hp; have hgg := hF8.2.1; show ¬ (bC540 = bk507); omega)), hF8.2.1, hF8.2.2⟩⟩), (fun _ => ⟨aoC540, bC540, cpC540, ao553, gb554, cp555, e655, (A656.keep u661 (fun _ => show ¬ (gb554 = bk507) by first | omega | assumption)), h657, ⟨(fcA656_8.1.keep u661 (fun hp => by have hlt := fcA656_8.1.lt hp; have hgg := fcA656_8.2.1; show ¬ (bC540 = bk507); omega)), fcA656_8.2.1, fcA656_8.2.2⟩, x658, B662⟩)⟩
     · exact fun D ρ w _ _ _ hW => ⟨[(205, .int .i64 ((p : Int) + (q : Int)))], ⟨fi 13 rfl rfl rfl, trivial⟩, fun Lr => t_assign rfl rfl rfl (dz rfl hW)⟩
     intro ρ w664 hW
     obtain ⟨u665, C666, T667, F668, F669, F670⟩ := hW
     have zu665 := u665.size
     clear C666
     obtain ⟨aoC540, bC540, cpC540, ao553, gb554, cp555, e674, A675, gegb554, fcA675_8, xtgb554, bkgb554⟩ := F670 rfl
     have bkgb554 : Blk w664 bk507 64 [.int .i64 boat.len, .int .i64 boat.wid, .int .i64 boat.mass, .int .i64 1, .slice ao553 (((rs2 ++ [(⟨aoC540, bC540, 0, cpC540, (((xs).drop p).take q)⟩ : HRow)])).length) cp555] := bkgb554
     have lt_gb554 := A675.lt
     have lecpC540 := fcA675_8.2.2
     have hsfcA675_8 := fcA675_8.1
     have hgfcA675_8 := fcA675_8.2.1
     have D676 := ((hfam2.keep u536 (fun _ _ _ _ h => h)).keep u665 (fun i h1 h2 h3 => show ¬ (i = bk507 ∨ (i = g3 ∧ w512.heap.size ≤ i)) by omega))
     have fm677 := D676.snoc (⟨aoC540, bC540, 0, cpC540, (((xs).drop p).take q)⟩ : HRow) gb554 w664.heap.size (by omega) hsfcA675_8 (fun hp => by have hlt := hsfcA675_8.lt hp; have hx := xtgb554 hp; have hgg := hgfcA675_8; refine ⟨?_, hx, hlt⟩; show w512.heap.size ≤ bC540; omega) (by omega)
     refine QK.weak [(1, .slice ao xs.length cap), (2, .slice apk pk.length cpk), (7, .int .i64 W), (9, .int .i64 (StkN boat xs W)), (10, .int .i64 0), (18, .pointer (some ⟨bk507, 0, none⟩)), (19, .int .i64 ((p : Int) + (q : Int))), (20, .int .i64 (j : Int)), (21, .int .i64 (q : Int)), (175, .int .i64 (p : Int)), (176, .slice ao xs.length cap), (177, .int .i64 (xs.length : Int)), (178, .bool (decide ((p : Int) < (xs.length : Int)))), (181, .slice ao xs.length cap), (182, .int .i64 (xs.length : Int)), (183, .int .i64 (p : Int)), (184, .int .i64 ((xs.length : Int) - (p : Int))), (185, .slice apk pk.length cpk), (186, .int .i64 (j : Int)), (187, .int .u8 (prt pk j)), (188, .int .i64 (prt pk j)), (189, .int .i64 ((prt pk j) % 4)), (190, .int .i64 (1 + ((prt pk j) % 4))), (191, .int .i64 (q : Int)), (192, .pointer (some ⟨bk507, 4, none⟩)), (193, .slice ao3 rs2.length c3), (194, .slice ao xs.length cap), (195, .int .i64 (p : Int)), (196, .int .i64 (p : Int)), (197, .int .i64 (q : Int)), (198, .int .i64 ((p : Int) + (q : Int))), (199, .slice (subAddr ao cap p 3) (((xs.drop p).take q).length) (cap - p)), (202, .slice ao553 (((rs2 ++ [(⟨aoC540, bC540, 0, cpC540, (((xs).drop p).take q)⟩ : HRow)])).length) cp555), (203, .int .i64 (p : Int)), (204, .int .i64 (q : Int)), (205, .int .i64 ((p : Int) + (q : Int))), (206, .pointer (some ⟨bk507, 4, none⟩))] ⟨rfl, rfl, rfl, rfl, rfl, rfl, rfl, rfl, rfl, rfl, rfl, rfl, rfl, rfl, rfl, rfl, rfl, rfl, rfl, rfl, rfl, rfl, rfl, rfl, rfl, rfl, rfl, rfl, rfl, rfl, rfl, rfl, (look_nd (j := 10) rfl rfl rfl e674), rfl, rfl, rfl, rfl, trivial⟩ (hK532 _ _ (c_region (t_move rfl rfl rfl (t_ari rfl rfl rfl rfl rfl (by omega) (t_assign rfl rfl rfl (t_nil' ?_))))))
     exact hK518 (p + q, j + 1, ao553, gb554, cp555, (rs2 ++ [(⟨aoC540, bC540, 0, cpC540, (((xs).drop p).take q)⟩ : HRow)])) _ _ (by show xs.length - (p + q) < xs.length - p; omega) ⟨rfl, rfl, rfl, rfl, rfl, rfl, rfl, rfl, trivial⟩ ⟨((u520.next u536 (fun _ _ h => h.elim)).next u665 (fun i hi (h : i = bk507 ∨ (i = g3 ∧ w512.heap.size ≤ i)) => show i = bk507 by first | omega | assumption)), bkgb554, (by show p + q ≤ xs.length; omega), (by show 2 ≤ j + 1 ∧ j + 1 ≤ p + q + 2; omega), (fun r hr => by rcases List.mem_append.1 hr with h | h; (exact hr42 r h); (have e := List.mem_singleton.1 h; rw [e]; show 1 ≤ ((xs.drop p).take q).length ∧ ((xs.drop p).take q).length ≤ 4; rw [List.length_take, List.length_drop]; omega)), (by show (xsOf (rs2 ++ [_])).flatten ++ xs.drop (p + q) = xs; rw [← List.drop_drop]; simp only [xsOf, List.map_append, List.map_cons, List.map_nil, List.flatten_append, List.flatten_cons, List.flatten_nil, List.append_nil, List.append_assoc, List.take_append_drop]; exact hfl2), (by show (rs2 ++ [_]).length ≤ p + q; simp; omega), A675, (fm677.mono (by omega))⟩
    ·
     have hf2 : (xsOf rs2).flatten = xs := by rw [List.drop_eq_nil_of_le (by omega), List.append_nil] at hfl2; exact hfl2
     refine c_exit (hK516 _ _ (c_seq fun K678 hK678 => (c_seq fun K679 hK679 => (c_region (t_field Try.underlying64 rfl Try.sizeOf62 (4) rfl rfl rfl rfl (t_load Try.isAgg62 rfl rfl rfl (I521.get rfl) (t_len Try.underlying62 rfl rfl rfl rfl (t_cmp rfl rfl rfl rfl rfl (t_nil' (hK679 _ _ (c_condp rfl (fun g210 => ?_) (fun g210 => ?_))))))))))))
     ·
      refine c_seq fun K680 hK680 => (c_region (t_call (vs := []) own16 rfl rfl rfl rfl (known_c _) (fun v681 w682 r684 => ?_)))
      obtain ⟨rfl, u683⟩ := r684
      have zu683 := u683.size
      have E685 := E529.next u683 (fun _ _ h => h.elim)
      refine t_assign rfl rfl rfl (t_nil' (hK680 _ _ (c_ret (f_ret1 (v := .bool true) Try.results9 rfl ?_))))
      exact ⟨rfl, E685⟩
     ·
      have hT2 := tow_ok hb1 hb2 hx30 hf2 (by omega) hr42
      have hfin : (MeaS boat 1 (xsOf rs2)).wid ≤ W → StkN boat xs W ≤ (MeaS boat 1 (xsOf rs2)).len := fun hw => by
       have h1 := (hT2.2.2.2 W).1 hw
       have h2 := bestR_low (xsOf rs2) 10 (by show (rs2.map _).length ≤ 10; rw [List.length_map]; omega) (fun r hr => ⟨by obtain ⟨z, hz, rfl⟩ := List.mem_map.1 hr; exact hr42 z hz, h1.2 r hr⟩) (by rw [hf2]; exact hpos)
       rw [hf2] at h2
       rw [hT2.2.1, hb6]; omega
      refine c_skip (hK678 _ _ (c_seq fun K686 hK686 => (c_region (t_loadN (vs := [.int .i64 boat.len, .int .i64 boat.wid, .int .i64 boat.mass, .int .i64 1, .slice ao3 rs2.length c3]) Try.isAgg64 Try.sizeOf64 rfl rfl rfl (I521.at.sub 0 5) rfl (t_call (vs := [.agg #[.int .i64 boat.len, .int .i64 boat.wid, .int .i64 boat.mass, .int .i64 1, .slice ao3 rs2.length c3]]) own37 rfl rfl rfl rfl (MeaX_c boat 1 rs2 ao3 g3 0 c3 _ (hacc2.sl (fun _ => rfl)) (fun r hr => (hfam2 r hr).1) (by omega) (lens_of hr42)) (fun v687 w688 r690 => ?_))))))
      obtain ⟨rfl, u689⟩ := r690
      have zu689 := u689.size
      have E691 := E529.next u689 (fun _ _ h => h.elim)
      refine t_move rfl rfl rfl (t_extract (vs := [.agg #[.int .i64 ((MeaS boat 1 (xsOf rs2)).len), .int .i64 ((MeaS boat 1 (xsOf rs2)).wid), .int .i64 ((MeaS boat 1 (xsOf rs2)).mass), .int .i64 ((MeaS boat 1 (xsOf rs2)).hulls)], .int .i64 (MeaE boat 1 (xsOf rs2))]) rfl rfl rfl rfl (t_extract (vs := [.agg #[.int .i64 ((MeaS boat 1 (xsOf rs2)).len), .int .i64 ((MeaS boat 1 (xsOf rs2)).wid), .int .i64 ((MeaS boat 1 (xsOf rs2)).mass), .int .i64 ((MeaS boat 1 (xsOf rs2)).hulls)], .int .i64 (MeaE boat 1 (xsOf rs2))]) rfl rfl rfl rfl (t_alloc (cs := [.int .i64 0, .int .i64 0, .int .i64 0, .int .i64 0]) Try.zeroValue66 rfl rfl rfl (fun bk692 w693 ebk692 sbk692 B694 u695 => ?_))))
      have zu695 := u695.size
      have E696 := E691.next u695 (fun _ _ h => h.elim)
      refine t_store (vs := [.int .i64 ((MeaS boat 1 (xsOf rs2)).len), .int .i64 ((MeaS boat 1 (xsOf rs2)).wid), .int .i64 ((MeaS boat 1 (xsOf rs2)).mass), .int .i64 ((MeaS boat 1 (xsOf rs2)).hulls)]) Try.sizeOf66 rfl rfl rfl B694 rfl rfl (Nat.le_of_ble_eq_true rfl) (by simp [Value.oneCell']) (fun w697 sw697 B699 u698 => ?_)
      have zu698 := u698.size
      have E700 := E696.next u698 (fun i hi (h : i = bk692) => show False by first | omega | assumption)
      have B699 : Blk w697 bk692 66 [.int .i64 ((MeaS boat 1 (xsOf rs2)).len), .int .i64 ((MeaS boat 1 (xsOf rs2)).wid), .int .i64 ((MeaS boat 1 (xsOf rs2)).mass), .int .i64 ((MeaS boat 1 (xsOf rs2)).hulls)] := B699
      refine t_assign rfl rfl rfl (t_nil' (hK686 _ _ (c_seq fun K701 hK701 => (c_region (t_same 10 (v := .int .i64 0) rfl (congrArg (Value.int .i64) hT2.1) (t_move rfl rfl rfl (t_cmp rfl rfl rfl rfl rfl (t_samehd (v := .bool true) rfl (t_move rfl rfl rfl (t_field Try.underlying66 rfl Try.sizeOf3 (1) rfl rfl rfl rfl (t_load Try.isAgg3 rfl rfl rfl (B699.get rfl) (t_move rfl rfl rfl (t_cmp rfl rfl rfl rfl rfl (t_move rfl rfl rfl (t_splitp 224 rfl (fun g224 => ?_) (fun g224 => ?_))))))))))))))))
      ·
       refine t_skip rfl rfl rfl (t_skip rfl rfl rfl (t_skip rfl rfl rfl (t_skip rfl rfl rfl (t_pick_t rfl rfl rfl rfl (t_pick_t rfl rfl rfl rfl (t_move rfl rfl rfl (t_call (vs := []) own16 rfl rfl rfl rfl (known_c _) (fun v702 w703 r705 => ?_))))))))
       obtain ⟨rfl, u704⟩ := r705
       have zu704 := u704.size
       have E706 := E700.next u704 (fun _ _ h => h.elim)
       refine t_pick_t rfl rfl rfl rfl (t_assign rfl rfl rfl (t_nil' (hK701 _ _ (c_ret (f_ret1 (v := .bool true) Try.results9 rfl ?_)))))
       exact ⟨rfl, E706⟩
      ·
       refine t_field Try.underlying66 rfl Try.sizeOf3 (0) rfl rfl rfl rfl (t_load Try.isAgg3 rfl rfl rfl (B699.get rfl) (t_move rfl rfl rfl (t_cmp rfl rfl rfl rfl rfl (t_same 228 (v := .bool true) rfl (congrArg Value.bool (decide_eq_true (by have := hfin (by omega); omega))) (t_pick_f rfl rfl rfl rfl (t_pick_t rfl rfl rfl rfl (t_move rfl rfl rfl (t_call (vs := []) own16 rfl rfl rfl rfl (known_c _) (fun v707 w708 r710 => ?_)))))))))
       obtain ⟨rfl, u709⟩ := r710
       have zu709 := u709.size
       have E711 := E700.next u709 (fun _ _ h => h.elim)
       refine t_pick_t rfl rfl rfl rfl (t_assign rfl rfl rfl (t_nil' (hK701 _ _ (c_ret (f_ret1 (v := .bool true) Try.results9 rfl ?_)))))
       exact ⟨rfl, E711⟩

end Go.Proofs.Ytmicjleiheoieaa
