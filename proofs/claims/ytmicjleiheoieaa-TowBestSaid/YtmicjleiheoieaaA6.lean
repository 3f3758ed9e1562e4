/-
  Contracts of the stacker and of Stack. Conditions: none.
-/
import Derived.Test.YtmicjleiheoieaaA5
import Derived.Test.YtmicjleiheoieaaAcc
namespace Go.Proofs.Ytmicjleiheoieaa
open Go Go.RowKit
theorem followsS' : Try.prog.follows .mixedOrders = true := by kernel_rfl
theorem key2T : Key2 Try.prog 82 3 := ⟨Try.underlying82, Try.underlying3, Try.isAgg3, Try.sizeOf3⟩

def pickR (x : Int × Int) (i long rest : Int) : Int × Int := if 0 ≤ rest ∧ (x.2 < 0 ∨ long + rest < x.2) then (i + 1, long + rest) else x
/-- The first row, tried hull by hull. -/
def goR (rest : List Hull → Int) (W : Int) : Nat → Row → Int × Int → Int → List Hull → Int × Int
  | 0, _, x, _, _ => x
  | _ + 1, _, x, _, [] => x
  | m + 1, r, x, i, h :: ys => if W < r.wide + h.wid then x else goR rest W m (addH r h) (pickR x i (max r.long h.len) (rest ys)) (i + 1) ys
/-- The best rows for these hulls, with so many rows left: how many in the first, the length of all. -/
def bestR (W : Int) : Nat → List Hull → Int × Int
  | _, [] => (0, 0)
  | 0, _ :: _ => (0, -1)
  | n + 1, h :: ys => goR (fun zs => (bestR W n zs).2) W 4 ⟨0, 0, 0⟩ (0, -1) 0 (h :: ys)
def bestV (x : Int × Int) : Value := .agg #[.int .i64 x.1, .int .i64 x.2]
def bestP (xs : List Hull) (W : Int) (a b : Int) (v : Value) : Prop := v = bestV (bestR W b.toNat (xs.drop a.toNat))
theorem goR_bound {rest : List Hull → Int} {W M : Int} (hr : ∀ zs, (∀ h ∈ zs, okHull h = true) → -1 ≤ rest zs ∧ rest zs ≤ M) : ∀ (m : Nat) (r : Row) (x : Int × Int) (i : Int) (ys : List Hull), (∀ h ∈ ys, okHull h = true) → (0 ≤ r.long ∧ r.long ≤ 200) → (-1 ≤ x.2 ∧ x.2 ≤ 200 + M) →
    -1 ≤ (goR rest W m r x i ys).2 ∧ (goR rest W m r x i ys).2 ≤ 200 + M
  | 0, r, x, i, ys, _, _, hx => by simpa [goR] using hx
  | _ + 1, r, x, i, [], _, _, hx => by simpa [goR] using hx
  | m + 1, r, x, i, h :: ys, hy, hl, hx => by
    simp only [goR]
    split
    · exact hx
    · have h1 := hr ys (fun z hz => hy z (by simp [hz]))
      have h2 := okHull_rng (hy h (by simp))
      refine goR_bound hr m _ _ _ _ (fun z hz => hy z (by simp [hz])) (by simp only [addH]; omega) ?_
      unfold pickR
      split
      · simp only []; omega
      · exact hx
theorem bestR_bound (W : Int) : ∀ (n : Nat) (ys : List Hull), (∀ h ∈ ys, okHull h = true) → -1 ≤ (bestR W n ys).2 ∧ (bestR W n ys).2 ≤ 200 * n
  | n, [], _ => by simp [bestR]; omega
  | 0, _ :: _, _ => by simp [bestR]
  | n + 1, h :: ys, hy => by
    rw [bestR]
    have := goR_bound (M := 200 * n) (fun zs hz => bestR_bound W n zs hz) 4 (W := W) ⟨0, 0, 0⟩ (0, -1) 0 (h :: ys) hy (by simp) (by simp only []; omega)
    push_cast
    omega
theorem goR_next {rest : List Hull → Int} {W : Int} {xs : List Hull} {a k : Nat} {r : Row} {x : Int × Int} (hk : k < ((xs.drop a).take 4).length) (hw : ¬ W < r.wide + (nth ((xs.drop a).take 4) k).wid) :
    goR rest W (4 - k) r x k (xs.drop (a + k)) = goR rest W (4 - (k + 1)) (addH r (nth ((xs.drop a).take 4) k)) (pickR x k (max r.long (nth ((xs.drop a).take 4) k).len) (rest (xs.drop (a + k + 1)))) ((k : Int) + 1) (xs.drop (a + k + 1)) := by
  simp at hk
  rw [nth_take (by omega), nth_drop] at hw ⊢
  rw [drop_nth (show a + k < xs.length by omega), show 4 - k = (4 - (k + 1)) + 1 from by omega, goR, if_neg hw]
theorem goR_break {rest : List Hull → Int} {W : Int} {xs : List Hull} {a k : Nat} {r : Row} {x : Int × Int} (hk : k < ((xs.drop a).take 4).length) (hw : W < r.wide + (nth ((xs.drop a).take 4) k).wid) :
    goR rest W (4 - k) r x k (xs.drop (a + k)) = x := by
  simp at hk
  rw [nth_take (by omega), nth_drop] at hw
  rw [drop_nth (show a + k < xs.length by omega), show 4 - k = (4 - (k + 1)) + 1 from by omega, goR, if_pos hw]
theorem goR_end {rest : List Hull → Int} {W : Int} {xs : List Hull} {a k : Nat} {r : Row} {x : Int × Int} (hk : ((xs.drop a).take 4).length ≤ k) : goR rest W (4 - k) r x k (xs.drop (a + k)) = x := by
  simp at hk
  rcases Nat.lt_or_ge k 4 with h | h
  · rw [List.drop_eq_nil_of_le (by omega), show 4 - k = (4 - (k + 1)) + 1 from by omega, goR]
  · rw [show 4 - k = 0 from by omega, goR]
theorem goR_start {W : Int} {xs : List Hull} {n a : Nat} (hn : 0 < n) (ha : a < xs.length) : goR (fun zs => (bestR W (n - 1) zs).2) W (4 - 0) ⟨0, 0, 0⟩ (0, -1) ((0 : Nat) : Int) (xs.drop (a + 0)) = bestR W n (xs.drop a) := by
  obtain ⟨m, rfl⟩ : ∃ m, n = m + 1 := ⟨n - 1, by omega⟩
  show goR _ W 4 ⟨0, 0, 0⟩ (0, -1) 0 (xs.drop a) = _
  rw [drop_nth ha, bestR]
  rfl
theorem bestR_zero {W : Int} {xs : List Hull} {a : Nat} (ha : a < xs.length) : bestR W 0 (xs.drop a) = (0, -1) := by rw [drop_nth ha]; rfl
theorem bestR_nil {W : Int} {xs : List Hull} {a n : Nat} (ha : xs.length ≤ a) : bestR W n (xs.drop a) = (0, 0) := by rw [List.drop_eq_nil_of_le ha]; cases n <;> rfl
theorem bestP_iff {xs : List Hull} {W : Int} {a n : Nat} {v : Value} : bestP xs W a n v ↔ v = bestV (bestR W n (xs.drop a)) := by simp [bestP]
structure BestPre (xs : List Hull) (W : Int) (ao : Option Addr) (b o cap s mp n a : Nat) (w : World) : Prop where
  n10 : n ≤ 10
  ale : a ≤ xs.length
  blk : Blk w s 117 [.slice ao xs.length cap, .int .i64 W, .map (some mp)]
  sl : Sl encHull 3 w ao b o xs
  cap : xs.length ≤ cap
  len : xs.length ≤ 1000000
  ok : ∀ h ∈ xs, okHull h = true
  bl : b < w.heap.size
  br : b ≠ mp
  sr : s ≠ mp
  memo : Memo (bestP xs W) w mp
  wid : 0 ≤ W ∧ W ≤ 200

theorem own59 : Own Try.prog 59 := ⟨Try.f59, Try.func59, by kernel_rfl, by kernel_rfl⟩
theorem own96 : Own Try.prog 96 := ⟨Try.f96, Try.func96, by kernel_rfl, by kernel_rfl⟩

theorem best1_c (F : Int → Int → Value → Prop) (xs : List Hull) (W : Int) (ao : Option Addr) (cap s mp b6 b3 b7 a n : Nat) (x1 x2 : Int) (w0 : World) (h6 : Blk w0 b6 119 [.int .i64 x1, .int .i64 x2]) (h3 : Blk w0 b3 114 [.pointer (some ⟨s, 0, none⟩)]) (hs : Blk w0 s 117 [.slice ao xs.length cap, .int .i64 W, .map (some mp)]) (h7 : Blk w0 b7 82 [.int .i64 a, .int .i64 n]) (hne : b6 ≠ mp ∧ b3 ≠ mp ∧ s ≠ mp ∧ b7 ≠ mp) (hm : Memo F w0 mp) (hF : F a n (.agg #[.int .i64 x1, .int .i64 x2])) :
    CallsD' Try.prog 96 [.pointer (some ⟨b6, 0, none⟩), .pointer (some ⟨b3, 0, none⟩), .pointer (some ⟨b7, 0, none⟩)] w0 (fun w' => Memo F w' mp ∧ Upd (fun i => i = mp) w0 w') := by
 have E0 := Upd.refl (fun i => i = mp) w0
 refine f_enterD' (N := 9) Try.func96 rfl rfl rfl ?_
 change WC _ _ _ _ _ _ [(0, .pointer (some ⟨b6, 0, none⟩)), (1, .pointer (some ⟨b3, 0, none⟩)), (2, .pointer (some ⟨b7, 0, none⟩))] _
 refine WC.weak [(0, .pointer (some ⟨b6, 0, none⟩)), (1, .pointer (some ⟨b3, 0, none⟩)), (2, .pointer (some ⟨b7, 0, none⟩))] ⟨rfl, rfl, rfl, trivial⟩ (c_drawn followsS' 7 [some (3, some (.pointer (some ⟨s, 0, none⟩))), some (4, some (.pointer (some ⟨s, 0, none⟩))), some (5, some (.pointer (some ⟨s, 2, none⟩))), some (6, some (.map (some mp))), some (7, some (.agg #[.int .i64 (a : Int), .int .i64 (n : Int)])), some (8, some (.agg #[.int .i64 x1, .int .i64 x2])), none] [[],[0],[1],[2],[],[],[3,4,5,0,1,2,3,4,5]] (fun D _ w => Upd (fun i => i = mp) w0 w ∧ Memo F w mp) rfl rfl rfl (by kernel_rfl) (by kernel_rfl) ⟨(Upd.drew _).to, (hm.keep (Upd.drew _) (fun h => h))⟩ ⟨?_, ?_, ?_, ?_, ?_, ?_, ?_, trivial⟩ ?_)
 · exact fun D ρ w1 hcD hnD hdD hW => ⟨_, kf_fr [1], fun Lr => t_load Try.isAgg114 rfl rfl rfl ((h3.keep hW.1 (show ¬ (b3 = mp) by first | omega | assumption)).get rfl) (dz rfl hW)⟩
 · exact pz rfl rfl rfl rfl fun _ _ _ h => h
 · exact pzf Try.underlying117 rfl Try.sizeOf115 (2) rfl rfl rfl rfl rfl fun _ _ _ h => h
 · exact fun D ρ w6 hcD hnD hdD hW => ⟨_, kf_fr [5], fun Lr => t_load Try.isAgg115 rfl rfl rfl ((hs.keep hW.1 (show ¬ (s = mp) by first | omega | assumption)).get rfl) (dz rfl hW)⟩
 · exact fun D ρ w11 hcD hnD hdD hW => ⟨_, kf_fr [2], fun Lr => t_loadN (vs := [.int .i64 (a : Int), .int .i64 (n : Int)]) Try.isAgg82 Try.sizeOf82 rfl rfl rfl ((h7.keep hW.1 (show ¬ (b7 = mp) by first | omega | assumption)).at.sub 0 2) rfl (dz rfl hW)⟩
 · exact fun D ρ w16 hcD hnD hdD hW => ⟨_, kf_fr [0], fun Lr => t_loadN (vs := [.int .i64 x1, .int .i64 x2]) Try.isAgg119 Try.sizeOf119 rfl rfl rfl ((h6.keep hW.1 (show ¬ (b6 = mp) by first | omega | assumption)).at.sub 0 2) rfl (dz rfl hW)⟩
 ·
  intro D ρ w21 hcD hnD hdD hW
  obtain ⟨u22, B23⟩ := hW
  have zu22 := u22.size
  refine ⟨_, kf_fr [6, 7, 8], fun Lr => ?_⟩
  refine t_mapset2 key2T Try.underlying115 rfl rfl rfl rfl B23 hF (fun w25 sw25 M26 u27 => ?_)
  have zu27 := u27.size
  exact dz0 rfl ⟨(u22.next u27 (fun i hi (h : i = mp) => show i = mp by first | omega | assumption)), M26⟩
 intro ρ w29 hW
 obtain ⟨u30, B31⟩ := hW
 have zu30 := u30.size
 have E32 := E0.next u30 (fun i hi (h : i = mp) => show i = mp by first | omega | assumption)
 refine QK.weak [] trivial (f_endD Try.results96 ?_)
 exact ⟨B31, E32⟩

theorem best_s (xs : List Hull) (W : Int) (ao : Option Addr) (b o cap s mp n a : Nat) (w0 : World) (hp : BestPre xs W ao b o cap s mp n a w0) (ih : ∀ m, m + 1 = n → ∀ (a : Nat) (w0 : World), BestPre xs W ao b o cap s mp m a w0 → CallsV Try.prog 59 [.pointer (some ⟨s, 0, none⟩), .int .i64 (a : Int), .int .i64 (m : Int)] w0 (fun v w' => v = bestV (bestR W m (xs.drop a)) ∧ Upd (fun i => i = mp) w0 w' ∧ Memo (bestP xs W) w' mp)) :
    CallsV Try.prog 59 [.pointer (some ⟨s, 0, none⟩), .int .i64 (a : Int), .int .i64 (n : Int)] w0 (fun v w' => v = bestV (bestR W n (xs.drop a)) ∧ Upd (fun i => i = mp) w0 w' ∧ Memo (bestP xs W) w' mp) := by
 have hsl := hp.sl
 have hss := hp.blk
 have hm0 := hp.memo
 have hrl := hm0.lt
 have q1 := hp.n10
 have q2 := hp.ale
 have q3 := hp.bl
 have q4 := hp.br
 have q5 := hp.sr
 have q6 := hp.len
 have q7 := hp.cap
 have q8 := hp.wid
 have q9 := hss.lt
 have E0 := Upd.refl (fun i => i = mp) w0
 refine f_enterDf (N := 105) Try.func59 rfl rfl rfl ?_
 change WC _ _ _ _ _ _ [(0, .pointer (some ⟨s, 0, none⟩)), (1, .int .i64 (a : Int)), (2, .int .i64 (n : Int))] _
 refine c_seq fun K1 hK1 => (c_region (t_box (cs := [.pointer (some ⟨s, 0, none⟩)]) rfl rfl rfl rfl (fun bk2 w3 ebk2 sbk2 B4 u5 => ?_)))
 have zu5 := u5.size
 have E6 := E0.next u5 (fun _ _ h => h.elim)
 refine t_alloc (cs := [.int .i64 0, .int .i64 0]) Try.zeroValue119 rfl rfl rfl (fun bk7 w8 ebk7 sbk7 B9 u10 => ?_)
 have zu10 := u10.size
 have E11 := E6.next u10 (fun _ _ h => h.elim)
 refine t_nil' (hK1 _ _ (c_seq fun K12 hK12 => (c_seq fun K13 hK13 => (c_region (t_move rfl rfl rfl ?_)))))
 have B14 := (B4.keep u10 (fun h => h))
 refine t_load Try.isAgg114 rfl rfl rfl (B14.get rfl) (t_nilchk rfl rfl rfl (t_field Try.underlying117 rfl Try.sizeOf24 (0) rfl rfl rfl rfl ?_))
 have B15 := ((hss.keep u5 (fun h => h)).keep u10 (fun h => h))
 refine t_load Try.isAgg24 rfl rfl rfl (B15.get rfl) (t_len Try.underlying24 rfl rfl rfl rfl (t_cmp rfl rfl rfl rfl rfl (t_nil' (hK13 _ _ (c_condp rfl (fun g20 => ?_) (fun g20 => ?_))))))
 ·
  refine c_seq fun K16 hK16 => (c_region (t_loadN (vs := [.int .i64 0, .int .i64 0]) Try.isAgg119 Try.sizeOf119 rfl rfl rfl (B9.at.sub 0 2) rfl (t_store (vs := [.int .i64 0, .int .i64 0]) Try.sizeOf119 rfl rfl rfl B9 rfl rfl (Nat.le_of_ble_eq_true rfl) (by simp [Value.oneCell']) (fun w17 sw17 B19 u18 => ?_))))
  have zu18 := u18.size
  have E20 := E11.next u18 (fun i hi (h : i = bk7) => show i = mp by first | omega | assumption)
  have B19 : Blk w17 bk7 119 [.int .i64 0, .int .i64 0] := B19
  refine t_nil' (hK16 _ _ (c_ret (f_retDf0_1 (v := .agg #[.int .i64 0, .int .i64 0]) Try.results59 ⟨_, _, rfl, run_loadVarN (vs := [.int .i64 0, .int .i64 0]) Try.isAgg119 Try.sizeOf119 rfl (B19.at.sub 0 2)⟩ ?_)))
  have D21 := (((hm0.keep u5 (fun h => h)).keep u10 (fun h => h)).keep u18 (show ¬ (mp = bk7) by omega))
  exact ⟨by rw [bestR_nil (by omega)]; rfl, E20, D21⟩
 ·
  refine c_skip (hK12 _ _ (c_seq fun K22 hK22 => (c_region (t_move rfl rfl rfl (t_move rfl rfl rfl (t_build (ps := [(0, .int .i64 (a : Int)), (1, .int .i64 (n : Int))]) (v := .agg #[.int .i64 (a : Int), .int .i64 (n : Int)]) rfl rfl ⟨rfl, rfl⟩ (fun w => by kernel_rfl) (t_alloc (cs := [.int .i64 0, .int .i64 0]) Try.zeroValue82 rfl rfl rfl (fun bk23 w24 ebk23 sbk23 B25 u26 => ?_))))))))
  have zu26 := u26.size
  have E27 := E11.next u26 (fun _ _ h => h.elim)
  refine t_store (vs := [.int .i64 (a : Int), .int .i64 (n : Int)]) Try.sizeOf82 rfl rfl rfl B25 rfl rfl (Nat.le_of_ble_eq_true rfl) (by simp [Value.oneCell']) (fun w28 sw28 B30 u29 => ?_)
  have zu29 := u29.size
  have E31 := E27.next u29 (fun i hi (h : i = bk23) => show i = mp by first | omega | assumption)
  have B30 : Blk w28 bk23 82 [.int .i64 (a : Int), .int .i64 (n : Int)] := B30
  refine t_nil' (hK22 _ _ (c_seq fun K32 hK32 => (c_seq fun K33 hK33 => ?_)))
  have D34 := ((((hm0.keep u5 (fun h => h)).keep u10 (fun h => h)).keep u26 (fun h => h)).keep u29 (show ¬ (mp = bk23) by omega))
  obtain ⟨fv, ok, hfd, hft, hff⟩ := Memo.found key2T D34 (a : Int) (n : Int) (.agg #[.int .i64 0, .int .i64 0])
  obtain ⟨y1, y2, hfv⟩ : ∃ y1 y2, fv = .agg #[.int .i64 y1, .int .i64 y2] := by
   cases ok with
   | true => exact ⟨_, _, hft rfl⟩
   | false => exact ⟨_, _, hff rfl⟩
  subst hfv
  have B35 := ((B14.keep u26 (fun h => h)).keep u29 (show ¬ (bk2 = bk23) by first | omega | assumption))
  refine WC.weak [(1, .int .i64 (a : Int)), (2, .int .i64 (n : Int)), (3, .pointer (some ⟨bk2, 0, none⟩)), (6, .pointer (some ⟨bk7, 0, none⟩)), (7, .pointer (some ⟨bk23, 0, none⟩))] ⟨rfl, rfl, rfl, rfl, rfl, trivial⟩ (c_drawn followsS' 12 [some (26, some (.pointer (some ⟨s, 0, none⟩))), some (27, some (.pointer (some ⟨s, 0, none⟩))), some (28, some (.pointer (some ⟨s, 2, none⟩))), some (29, some (.map (some mp))), some (30, some (.agg #[.int .i64 (a : Int), .int .i64 (n : Int)])), some (31, some (.tuple #[.agg #[.int .i64 y1, .int .i64 y2], .bool ok])), some (25, some (.tuple #[.agg #[.int .i64 y1, .int .i64 y2], .bool ok])), some (32, some (.agg #[.int .i64 y1, .int .i64 y2])), some (33, some (.bool ok)), some (8, none), none, some (9, some (.bool ok))] [[],[0],[1],[2],[],[3,4],[5],[6],[6],[],[9,7,0,1,2,3,4,5,6,7,9],[8,10,0,1,2,3,4,5,6,7,8,9,10]] (fun D ρ w => Upd (fun _ => False) w28 w ∧ (D 9 = true → ∃ bk37, ρ 9 = .pointer (some ⟨bk37, 0, none⟩) ∧ w28.heap.size ≤ bk37 ∧ Blk w bk37 119 [(bif D 10 then .int .i64 y1 else .int .i64 0), (bif D 10 then .int .i64 y2 else .int .i64 0)])) rfl rfl rfl (by kernel_rfl) (by kernel_rfl) ⟨(Upd.drew _).to, (fun h => by cases h)⟩ ⟨?_, ?_, ?_, ?_, ?_, ?_, ?_, ?_, ?_, ?_, ?_, ?_, trivial⟩ ?_)
  · exact fun D ρ w42 hcD hnD hdD hW => ⟨_, kf_fr [3], fun Lr => t_load Try.isAgg114 rfl rfl rfl ((B35.keep hW.1 (fun h => h)).get rfl) (dz rfl hW)⟩
  · exact pz rfl rfl rfl rfl fun _ _ _ h => h
  · exact pzf Try.underlying117 rfl Try.sizeOf115 (2) rfl rfl rfl rfl rfl fun _ _ _ h => h
  · exact fun D ρ w47 hcD hnD hdD hW => ⟨_, kf_fr [28], fun Lr => t_load Try.isAgg115 rfl rfl rfl ((((B15.keep u26 (fun h => h)).keep u29 (show ¬ (s = bk23) by first | omega | assumption)).keep hW.1 (fun h => h)).get rfl) (dz rfl hW)⟩
  · exact fun D ρ w52 hcD hnD hdD hW => ⟨_, kf_fr [7], fun Lr => t_loadN (vs := [.int .i64 (a : Int), .int .i64 (n : Int)]) Try.isAgg82 Try.sizeOf82 rfl rfl rfl ((B30.keep hW.1 (fun h => h)).at.sub 0 2) rfl (dz rfl hW)⟩
  · exact fun D ρ w57 hcD hnD hdD hW => ⟨_, kf_fr [29, 30], fun Lr => t_lookupF key2T Try.underlying115 Try.zeroValue119 rfl rfl rfl rfl (hfd.keep hW.1 (fun h => h)) (dz rfl hW)⟩
  · exact pz rfl rfl rfl rfl fun _ _ _ h => h
  · exact fun D ρ w _ _ _ hW => ⟨[(25, .tuple #[.agg #[.int .i64 y1, .int .i64 y2], .bool ok])], ⟨fi 6 rfl rfl rfl, trivial⟩, fun Lr => t_extract (vs := [.agg #[.int .i64 y1, .int .i64 y2], .bool ok]) rfl rfl rfl rfl (dz rfl hW)⟩
  · exact fun D ρ w _ _ _ hW => ⟨[(25, .tuple #[.agg #[.int .i64 y1, .int .i64 y2], .bool ok])], ⟨fi 6 rfl rfl rfl, trivial⟩, fun Lr => t_extract (vs := [.agg #[.int .i64 y1, .int .i64 y2], .bool ok]) rfl rfl rfl rfl (dz rfl hW)⟩
  ·
   intro D ρ w62 hcD hnD hdD hW
   obtain ⟨u63, F64⟩ := hW
   have zu63 := u63.size
   refine ⟨[], trivial, fun Lr => ?_⟩
   refine t_alloc (cs := [.int .i64 0, .int .i64 0]) Try.zeroValue119 rfl rfl rfl (fun bk66 w67 ebk66 sbk66 B68 u69 => ?_)
   have zu69 := u69.size
   have d10 := hcD.late 10 hnD rfl
   exact dzn rfl ⟨(u63.next u69 (fun _ _ h => h.elim)), (fun _ => ⟨bk66, rfl, (by omega), (by show Blk w67 bk66 119 [(bif D 10 then .int .i64 y1 else .int .i64 0), (bif D 10 then .int .i64 y2 else .int .i64 0)]; simp only [d10, cond_false]; exact B68)⟩)⟩
  ·
   intro D ρ w71 hcD hnD hdD hW
   obtain ⟨u72, F73⟩ := hW
   have zu72 := u72.size
   obtain ⟨bk37, e75, gebk37, B76⟩ := F73 (hdD 9 rfl)
   have B77 := B76
   simp only [hnD, cond_false] at B77
   refine ⟨[(8, .pointer (some ⟨bk37, 0, none⟩)), (32, .agg #[.int .i64 y1, .int .i64 y2])], ⟨fi 9 rfl rfl e75.symm, fi 7 rfl rfl rfl, trivial⟩, fun Lr => ?_⟩
   refine t_store (vs := [.int .i64 y1, .int .i64 y2]) Try.sizeOf119 rfl rfl rfl B77 rfl rfl (Nat.le_of_ble_eq_true rfl) (by simp [Value.oneCell']) (fun w78 sw78 B80 u79 => ?_)
   have zu79 := u79.size
   have B80 : Blk w78 bk37 119 [.int .i64 y1, .int .i64 y2] := B80
   exact dz0 rfl ⟨(u72.next u79 (fun i hi (h : i = bk37) => show False by first | omega | assumption)), (fun _ => ⟨bk37, e75, gebk37, (by show Blk w78 bk37 119 [.int .i64 y1, .int .i64 y2]; exact B80)⟩)⟩
  · exact pz rfl rfl rfl rfl fun _ _ _ h => h
  intro ρ w82 hW
  obtain ⟨u83, F84⟩ := hW
  have zu83 := u83.size
  have E85 := E31.next u83 (fun _ _ h => h.elim)
  obtain ⟨bk37, e86, gebk37, B87⟩ := F84 rfl
  have B87 : Blk w82 bk37 119 [.int .i64 y1, .int .i64 y2] := B87
  have lt_bk37 := B87.lt
  refine QK.weak [(1, .int .i64 (a : Int)), (2, .int .i64 (n : Int)), (3, .pointer (some ⟨bk2, 0, none⟩)), (6, .pointer (some ⟨bk7, 0, none⟩)), (7, .pointer (some ⟨bk23, 0, none⟩)), (8, .pointer (some ⟨bk37, 0, none⟩)), (9, .bool ok)] ⟨rfl, rfl, rfl, rfl, rfl, (look_nd (j := 9) rfl rfl rfl e86), rfl, trivial⟩ (hK33 _ _ (c_seq fun K88 hK88 => (c_region (t_move rfl rfl rfl (t_nil' (hK88 _ _ (c_cond rfl (fun g34 => ?_) (fun g34 => ?_))))))))
  ·
   refine c_seq fun K89 hK89 => (c_region (t_loadN (vs := [.int .i64 y1, .int .i64 y2]) Try.isAgg119 Try.sizeOf119 rfl rfl rfl (B87.at.sub 0 2) rfl ?_))
   have B90 := (((B9.keep u26 (fun h => h)).keep u29 (show ¬ (bk7 = bk23) by first | omega | assumption)).keep u83 (fun h => h))
   refine t_store (vs := [.int .i64 y1, .int .i64 y2]) Try.sizeOf119 rfl rfl rfl B90 rfl rfl (Nat.le_of_ble_eq_true rfl) (by simp [Value.oneCell']) (fun w91 sw91 B93 u92 => ?_)
   have zu92 := u92.size
   have E94 := E85.next u92 (fun i hi (h : i = bk7) => show i = mp by first | omega | assumption)
   have B93 : Blk w91 bk7 119 [.int .i64 y1, .int .i64 y2] := B93
   refine t_nil' (hK89 _ _ (c_ret (f_retDf0_1 (v := .agg #[.int .i64 y1, .int .i64 y2]) Try.results59 ⟨_, _, rfl, run_loadVarN (vs := [.int .i64 y1, .int .i64 y2]) Try.isAgg119 Try.sizeOf119 rfl (B93.at.sub 0 2)⟩ ?_)))
   have D95 := ((D34.keep u83 (fun h => h)).keep u92 (show ¬ (mp = bk7) by omega))
   exact ⟨bestP_iff.1 (hft g34), E94, D95⟩
  ·
   refine c_skip (hK32 _ _ (c_seq fun K96 hK96 => (c_region (t_mkfunc (vs := []) (us := [.pointer (some ⟨bk7, 0, none⟩), .pointer (some ⟨bk2, 0, none⟩), .pointer (some ⟨bk23, 0, none⟩)]) rfl rfl rfl rfl (t_defer (fs := []) (cs := [.pointer (some ⟨bk7, 0, none⟩), .pointer (some ⟨bk2, 0, none⟩), .pointer (some ⟨bk23, 0, none⟩)]) (vs := []) rfl rfl rfl (t_nil' (hK96 _ _ (c_seq fun K97 hK97 => (c_region (t_field Try.underlying119 rfl Try.sizeOf3 (1) rfl rfl rfl rfl ?_))))))))))
   have B98 := (((B9.keep u26 (fun h => h)).keep u29 (show ¬ (bk7 = bk23) by first | omega | assumption)).keep u83 (fun h => h))
   refine t_store (vs := [.int .i64 (-1)]) Try.sizeOf3 rfl rfl rfl B98 rfl rfl (Nat.le_of_ble_eq_true rfl) (by simp [Value.oneCell']) (fun w99 sw99 B101 u100 => ?_)
   have zu100 := u100.size
   have E102 := E85.next u100 (fun i hi (h : i = bk7) => show i = mp by first | omega | assumption)
   have B101 : Blk w99 bk7 119 [.int .i64 0, .int .i64 (-1)] := B101
   refine t_nil' (hK97 _ _ (c_seq fun K103 hK103 => (c_seq fun K104 hK104 => (c_region (t_move rfl rfl rfl (t_cmp rfl rfl rfl rfl rfl (t_nil' (hK104 _ _ (c_condp rfl (fun g39 => ?_) (fun g39 => ?_))))))))))
   ·
    refine c_seq fun K105 hK105 => (c_region (t_loadN (vs := [.int .i64 0, .int .i64 (-1)]) Try.isAgg119 Try.sizeOf119 rfl rfl rfl (B101.at.sub 0 2) rfl (t_store (vs := [.int .i64 0, .int .i64 (-1)]) Try.sizeOf119 rfl rfl rfl B101 rfl rfl (Nat.le_of_ble_eq_true rfl) (by simp [Value.oneCell']) (fun w106 sw106 B108 u107 => ?_))))
    have zu107 := u107.size
    have E109 := E102.next u107 (fun i hi (h : i = bk7) => show i = mp by first | omega | assumption)
    have B108 : Blk w106 bk7 119 [.int .i64 0, .int .i64 (-1)] := B108
    refine t_nil' (hK105 _ _ (c_ret ?_))
    have hfin : bestR W n (xs.drop a) = (0, -1) := (by rw [show n = 0 from by omega, bestR_zero (by omega)])
    have B111 := (((B35.keep u83 (fun h => h)).keep u100 (show ¬ (bk2 = bk7) by first | omega | assumption)).keep u107 (show ¬ (bk2 = bk7) by first | omega | assumption))
    have B112 := (((((B15.keep u26 (fun h => h)).keep u29 (show ¬ (s = bk23) by first | omega | assumption)).keep u83 (fun h => h)).keep u100 (show ¬ (s = bk7) by first | omega | assumption)).keep u107 (show ¬ (s = bk7) by first | omega | assumption))
    have B113 := (((B30.keep u83 (fun h => h)).keep u100 (show ¬ (bk23 = bk7) by first | omega | assumption)).keep u107 (show ¬ (bk23 = bk7) by first | omega | assumption))
    have D114 := (((D34.keep u83 (fun h => h)).keep u100 (show ¬ (mp = bk7) by omega)).keep u107 (show ¬ (mp = bk7) by omega))
    refine f_retDf1_1 (dargs := []) (cs := [.pointer (some ⟨bk7, 0, none⟩), .pointer (some ⟨bk2, 0, none⟩), .pointer (some ⟨bk23, 0, none⟩)]) Try.results59 own96 (best1_c (bestP xs W) xs W ao cap s mp bk7 bk2 bk23 a n 0 (-1) _ B108 B111 B112 B113 (by omega) D114 (by rw [bestP_iff, hfin]; rfl)) (fun w115 r117 => ?_)
    obtain ⟨M110, u116⟩ := r117
    have zu116 := u116.size
    have E118 := E109.next u116 (fun i hi (h : i = mp) => show i = mp by first | omega | assumption)
    have B119 := (B108.keep u116 (show ¬ (bk7 = mp) by first | omega | assumption))
    refine ⟨(.agg #[.int .i64 0, .int .i64 (-1)]), ⟨_, _, rfl, run_loadVarN (vs := [.int .i64 0, .int .i64 (-1)]) Try.isAgg119 Try.sizeOf119 rfl (B119.at.sub 0 2)⟩, ?_⟩
    exact ⟨by rw [hfin]; rfl, E118, M110⟩
   ·
    refine c_skip (hK103 _ _ (c_seq fun K120 hK120 => (c_region (t_alloc (cs := [.int .i64 0, .int .i64 0, .int .i64 0]) Try.zeroValue138 rfl rfl rfl (fun bk121 w122 ebk121 sbk121 B123 u124 => ?_)))))
    have zu124 := u124.size
    have E125 := E102.next u124 (fun _ _ h => h.elim)
    refine t_nil' (hK120 _ _ (c_seq fun K126 hK126 => (c_seq fun K127 hK127 => ?_)))
    have B128 := (((B35.keep u83 (fun h => h)).keep u100 (show ¬ (bk2 = bk7) by first | omega | assumption)).keep u124 (fun h => h))
    refine WC.weak [(1, .int .i64 (a : Int)), (2, .int .i64 (n : Int)), (3, .pointer (some ⟨bk2, 0, none⟩)), (6, .pointer (some ⟨bk7, 0, none⟩)), (10, .pointer (some ⟨bk121, 0, none⟩))] ⟨rfl, rfl, rfl, rfl, rfl, trivial⟩ (c_drawn followsS' 16 [some (41, some (.pointer (some ⟨s, 0, none⟩))), some (42, some (.pointer (some ⟨s, 0, none⟩))), some (43, some (.pointer (some ⟨s, 0, none⟩))), some (44, some (.slice ao xs.length cap)), some (45, some (.int .i64 (a : Int))), some (46, some (.pointer (some ⟨s, 0, none⟩))), some (47, some (.pointer (some ⟨s, 0, none⟩))), some (48, some (.pointer (some ⟨s, 0, none⟩))), some (49, some (.slice ao xs.length cap)), some (50, some (.int .i64 (xs.length : Int))), some (51, some (.int .i64 (a : Int))), some (52, some (.int .i64 ((a : Int) + 4))), some (53, some (.int .i64 (min (xs.length : Int) ((a : Int) + 4)))), some (54, some (.slice (subAddr ao cap a 3) (((xs.drop a).take 4).length) (cap - a))), some (55, some (.int .i64 (((xs.drop a).take 4).length : Int))), some (56, some (.int .i64 0))] [[],[0],[1],[2],[],[],[5],[6],[7],[8],[],[10],[9,11],[3,4,12],[13],[]] (fun _ _ w => Upd (fun _ => False) w122 w) rfl rfl rfl (by kernel_rfl) (by kernel_rfl) (Upd.drew _).to ⟨?_, ?_, ?_, ?_, ?_, ?_, ?_, ?_, ?_, ?_, ?_, ?_, ?_, ?_, ?_, ?_, trivial⟩ ?_)
    ·
     intro D ρ w131 hcD hnD hdD hW
     have zhW := hW.size
     refine ⟨_, kf_fr [3], fun Lr => ?_⟩
     have B134 := (B128.keep hW (fun h => h))
     refine t_load Try.isAgg114 rfl rfl rfl (B134.get rfl) ?_
     exact dz rfl hW
    · exact pz rfl rfl rfl rfl fun _ _ _ h => h
    · exact pzf Try.underlying117 rfl Try.sizeOf24 (0) rfl rfl rfl rfl rfl fun _ _ _ h => h
    ·
     intro D ρ w135 hcD hnD hdD hW
     have zhW := hW.size
     refine ⟨_, kf_fr [43], fun Lr => ?_⟩
     have B138 := ((((((B15.keep u26 (fun h => h)).keep u29 (show ¬ (s = bk23) by first | omega | assumption)).keep u83 (fun h => h)).keep u100 (show ¬ (s = bk7) by first | omega | assumption)).keep u124 (fun h => h)).keep hW (fun h => h))
     refine t_load Try.isAgg24 rfl rfl rfl (B138.get rfl) ?_
     exact dz rfl hW
    · exact pz rfl rfl rfl rfl fun _ _ _ h => h
    ·
     intro D ρ w139 hcD hnD hdD hW
     have zhW := hW.size
     refine ⟨_, kf_fr [3], fun Lr => ?_⟩
     have B142 := (B128.keep hW (fun h => h))
     refine t_load Try.isAgg114 rfl rfl rfl (B142.get rfl) ?_
     exact dz rfl hW
    · exact pz rfl rfl rfl rfl fun _ _ _ h => h
    · exact pzf Try.underlying117 rfl Try.sizeOf24 (0) rfl rfl rfl rfl rfl fun _ _ _ h => h
    ·
     intro D ρ w143 hcD hnD hdD hW
     have zhW := hW.size
     refine ⟨_, kf_fr [48], fun Lr => ?_⟩
     have B146 := ((((((B15.keep u26 (fun h => h)).keep u29 (show ¬ (s = bk23) by first | omega | assumption)).keep u83 (fun h => h)).keep u100 (show ¬ (s = bk7) by first | omega | assumption)).keep u124 (fun h => h)).keep hW (fun h => h))
     refine t_load Try.isAgg24 rfl rfl rfl (B146.get rfl) ?_
     exact dz rfl hW
    ·
     intro D ρ w147 hcD hnD hdD hW
     have zhW := hW.size
     refine ⟨_, kf_fr [49], fun Lr => ?_⟩
     refine t_len Try.underlying24 rfl rfl rfl rfl ?_
     exact dz rfl hW
    · exact pz rfl rfl rfl rfl fun _ _ _ h => h
    ·
     intro D ρ w150 hcD hnD hdD hW
     have zhW := hW.size
     refine ⟨_, kf_fr [51], fun Lr => ?_⟩
     refine t_ari rfl rfl rfl rfl rfl (by omega) ?_
     exact dz rfl hW
    ·
     intro D ρ w153 hcD hnD hdD hW
     have zhW := hW.size
     refine ⟨_, kf_fr [50, 52], fun Lr => ?_⟩
     refine t_min rfl rfl rfl rfl ?_
     exact dz rfl hW
    ·
     intro D ρ w156 hcD hnD hdD hW
     have zhW := hW.size
     refine ⟨_, kf_fr [44, 45, 53], fun Lr => ?_⟩
     refine t_sliceM (a) (((xs.drop a).take 4).length) Try.underlying24 Try.sizeOf23 rfl rfl rfl rfl rfl rfl (by simp only [List.length_take, List.length_drop]; omega) (by simp only [List.length_take, List.length_drop]; omega) ?_
     exact dz rfl hW
    ·
     intro D ρ w160 hcD hnD hdD hW
     have zhW := hW.size
     refine ⟨_, kf_fr [54], fun Lr => ?_⟩
     refine t_len Try.underlying24 rfl rfl rfl rfl ?_
     exact dz rfl hW
    · exact pz rfl rfl rfl rfl fun _ _ _ h => h
    intro ρ w163 hW
    have u164 : Upd (fun _ => False) w122 w163 := hW
    have zu164 := u164.size
    have E165 := E125.next u164 (fun _ _ h => h.elim)
    refine QK.weak [(1, .int .i64 (a : Int)), (2, .int .i64 (n : Int)), (3, .pointer (some ⟨bk2, 0, none⟩)), (6, .pointer (some ⟨bk7, 0, none⟩)), (10, .pointer (some ⟨bk121, 0, none⟩)), (54, .slice (subAddr ao cap a 3) (((xs.drop a).take 4).length) (cap - a)), (55, .int .i64 (((xs.drop a).take 4).length : Int)), (56, .int .i64 0)] ⟨rfl, rfl, rfl, rfl, rfl, rfl, rfl, rfl, trivial⟩ (hK127 _ _ (c_block ?_))
    have D166 := ((((D34.keep u83 (fun h => h)).keep u100 (show ¬ (mp = bk7) by omega)).keep u124 (fun h => h)).keep u164 (fun h => h))
    have B167 := ((B101.keep u124 (fun h => h)).keep u164 (fun h => h))
    have B168 := (B123.keep u164 (fun h => h))
    refine c_loop (γ := Nat × Row × Int × Int) (fun gg => [(1, .int .i64 (a : Int)), (2, .int .i64 (n : Int)), (3, .pointer (some ⟨bk2, 0, none⟩)), (6, .pointer (some ⟨bk7, 0, none⟩)), (10, .pointer (some ⟨bk121, 0, none⟩)), (54, .slice (subAddr ao cap a 3) (((xs.drop a).take 4).length) (cap - a)), (55, .int .i64 (((xs.drop a).take 4).length : Int)), (56, .int .i64 (gg.1 : Int))]) (fun gg w => Upd (fun i => i = bk7 ∨ i = bk121 ∨ i = mp) w163 w ∧ Blk w bk7 119 [.int .i64 gg.2.2.1, .int .i64 gg.2.2.2] ∧ Blk w bk121 138 [.int .i64 gg.2.1.long, .int .i64 gg.2.1.wide, .int .i64 gg.2.1.mass] ∧ (gg.1 ≤ ((xs.drop a).take 4).length) ∧ (goR (fun zs => (bestR W (n - 1) zs).2) W (4 - gg.1) gg.2.1 (gg.2.2.1, gg.2.2.2) gg.1 (xs.drop (a + gg.1)) = bestR W n (xs.drop a)) ∧ ((0 ≤ gg.2.1.long ∧ gg.2.1.long ≤ 200) ∧ (0 ≤ gg.2.1.wide ∧ gg.2.1.wide ≤ 30 * gg.1) ∧ (0 ≤ gg.2.1.mass ∧ gg.2.1.mass ≤ 10000 * gg.1)) ∧ (Memo (bestP xs W) w mp)) (fun gg => ((xs.drop a).take 4).length - gg.1) (0, ⟨0, 0, 0⟩, 0, -1) ⟨rfl, rfl, rfl, rfl, rfl, rfl, rfl, rfl, trivial⟩ ⟨Upd.refl _ _, B167, B168, (Nat.zero_le _), (goR_start (by omega) (by omega)), (by simp only []; omega), D166⟩ ?_
    intro gg w170 hW K169 hK169
    obtain ⟨k, r, x1, x2⟩ := gg
    change WC _ _ _ _ _ _ [(1, .int .i64 (a : Int)), (2, .int .i64 (n : Int)), (3, .pointer (some ⟨bk2, 0, none⟩)), (6, .pointer (some ⟨bk7, 0, none⟩)), (10, .pointer (some ⟨bk121, 0, none⟩)), (54, .slice (subAddr ao cap a 3) (((xs.drop a).take 4).length) (cap - a)), (55, .int .i64 (((xs.drop a).take 4).length : Int)), (56, .int .i64 (k : Int))] _
    change Upd (fun i => i = bk7 ∨ i = bk121 ∨ i = mp) w163 w170 ∧ Blk w170 bk7 119 [.int .i64 x1, .int .i64 x2] ∧ Blk w170 bk121 138 [.int .i64 r.long, .int .i64 r.wide, .int .i64 r.mass] ∧ (k ≤ ((xs.drop a).take 4).length) ∧ (goR (fun zs => (bestR W (n - 1) zs).2) W (4 - k) r (x1, x2) k (xs.drop (a + k)) = bestR W n (xs.drop a)) ∧ ((0 ≤ r.long ∧ r.long ≤ 200) ∧ (0 ≤ r.wide ∧ r.wide ≤ 30 * k) ∧ (0 ≤ r.mass ∧ r.mass ≤ 10000 * k)) ∧ (Memo (bestP xs W) w170 mp) at hW
    obtain ⟨u171, I172, I173, I174, I175, I176, I177⟩ := hW
    have zu171 := u171.size
    have E178 := E165.next u171 (fun i hi (h : i = bk7 ∨ i = bk121 ∨ i = mp) => show i = mp by first | omega | assumption)
    have hk := I174; clear I174
    have hgo := I175; clear I175
    have hrb := I176; clear I176
    have hmm := I177; clear I177
    have hk4 : ((xs.drop a).take 4).length ≤ 4 := by simp; omega
    have hka : a + ((xs.drop a).take 4).length ≤ xs.length := by simp; omega
    refine c_seq fun K179 hK179 => (c_region (t_cmp rfl rfl rfl rfl rfl (t_nil' (hK179 _ _ (c_seq fun K180 hK180 => (c_condp rfl (fun g57 => ?_) (fun g57 => ?_)))))))
    ·
     refine c_skip (hK180 _ _ (c_seq fun K181 hK181 => (c_block (c_seq fun K182 hK182 => (c_region (t_move rfl rfl rfl ?_))))))
     have D183 := (((((((((hsl.keep u5 (fun _ h => h)).keep u10 (fun _ h => h)).keep u26 (fun _ h => h)).keep u29 (fun _ => show ¬ (b = bk23) by omega)).keep u83 (fun _ h => h)).keep u100 (fun _ => show ¬ (b = bk7) by omega)).keep u124 (fun _ h => h)).keep u164 (fun _ h => h)).keep u171 (fun _ => show ¬ (b = bk7 ∨ b = bk121 ∨ b = mp) by omega))
     have i184 : k < ((xs.drop a).take 4).length := (by omega)
     refine t_index (j := k) Try.underlying24 Try.sizeOf23 rfl rfl rfl rfl ((D183.sub cap a 4 hp.cap).addr (by omega)) rfl i184 (t_loadN (vs := [.int .i64 ((nth ((xs.drop a).take 4) k).len), .int .i64 ((nth ((xs.drop a).take 4) k).wid), .int .i64 ((nth ((xs.drop a).take 4) k).mass)]) Try.isAgg23 Try.sizeOf23 rfl rfl rfl (((D183.sub cap a 4 hp.cap).at_ k (by omega)).sub 0 3) rfl ?_)
     have hh := okHull_rng (hp.ok _ (List.mem_of_mem_drop (List.mem_of_mem_take (nth_mem (xs := (xs.drop a).take 4) (i := k) (by omega)))))
     refine t_alloc (cs := [.int .i64 0, .int .i64 0, .int .i64 0]) Try.zeroValue23 rfl rfl rfl (fun bk185 w186 ebk185 sbk185 B187 u188 => ?_)
     have zu188 := u188.size
     have E189 := E178.next u188 (fun _ _ h => h.elim)
     refine t_assign rfl rfl rfl (t_store (vs := [.int .i64 ((nth ((xs.drop a).take 4) k).len), .int .i64 ((nth ((xs.drop a).take 4) k).wid), .int .i64 ((nth ((xs.drop a).take 4) k).mass)]) Try.sizeOf23 rfl rfl rfl B187 rfl rfl (Nat.le_of_ble_eq_true rfl) (by simp [Value.oneCell']) (fun w190 sw190 B192 u191 => ?_))
     have zu191 := u191.size
     have E193 := E189.next u191 (fun i hi (h : i = bk185) => show i = mp by first | omega | assumption)
     have B192 : Blk w190 bk185 23 [.int .i64 ((nth ((xs.drop a).take 4) k).len), .int .i64 ((nth ((xs.drop a).take 4) k).wid), .int .i64 ((nth ((xs.drop a).take 4) k).mass)] := B192
     refine t_nil' (hK182 _ _ (c_seq fun K194 hK194 => (c_seq fun K195 hK195 => (c_region ?_))))
     have B196 := ((I173.keep u188 (fun h => h)).keep u191 (show ¬ (bk121 = bk185) by first | omega | assumption))
     refine t_loadN (vs := [.int .i64 r.long, .int .i64 r.wide, .int .i64 r.mass]) Try.isAgg138 Try.sizeOf138 rfl rfl rfl (B196.at.sub 0 3) rfl (t_loadN (vs := [.int .i64 ((nth ((xs.drop a).take 4) k).len), .int .i64 ((nth ((xs.drop a).take 4) k).wid), .int .i64 ((nth ((xs.drop a).take 4) k).mass)]) Try.isAgg23 Try.sizeOf23 rfl rfl rfl (B192.at.sub 0 3) rfl (t_call (vs := [.agg #[.int .i64 r.long, .int .i64 r.wide, .int .i64 r.mass], .agg #[.int .i64 ((nth ((xs.drop a).take 4) k).len), .int .i64 ((nth ((xs.drop a).take 4) k).wid), .int .i64 ((nth ((xs.drop a).take 4) k).mass)]]) own75 rfl rfl rfl rfl (rowAdd_c r (nth ((xs.drop a).take 4) k) _ (by omega) (by omega) (by omega) (by omega)) (fun v197 w198 r200 => ?_)))
     obtain ⟨rfl, u199⟩ := r200
     have zu199 := u199.size
     have E201 := E193.next u199 (fun _ _ h => h.elim)
     have B202 := (B196.keep u199 (fun h => h))
     refine t_store (vs := [.int .i64 (max r.long (nth ((xs.drop a).take 4) k).len), .int .i64 (r.wide + (nth ((xs.drop a).take 4) k).wid), .int .i64 (r.mass + (nth ((xs.drop a).take 4) k).mass)]) Try.sizeOf138 rfl rfl rfl B202 rfl rfl (Nat.le_of_ble_eq_true rfl) (by simp [Value.oneCell']) (fun w203 sw203 B205 u204 => ?_)
     have zu204 := u204.size
     have E206 := E201.next u204 (fun i hi (h : i = bk121) => show i = mp by first | omega | assumption)
     have B205 : Blk w203 bk121 138 [.int .i64 (max r.long (nth ((xs.drop a).take 4) k).len), .int .i64 (r.wide + (nth ((xs.drop a).take 4) k).wid), .int .i64 (r.mass + (nth ((xs.drop a).take 4) k).mass)] := B205
     refine t_nil' (hK195 _ _ (c_seq fun K207 hK207 => ?_))
     have B208 := ((((((B128.keep u164 (fun h => h)).keep u171 (show ¬ (bk2 = bk7 ∨ bk2 = bk121 ∨ bk2 = mp) by first | omega | assumption)).keep u188 (fun h => h)).keep u191 (show ¬ (bk2 = bk185) by first | omega | assumption)).keep u199 (fun h => h)).keep u204 (show ¬ (bk2 = bk121) by first | omega | assumption))
     refine WC.weak [(1, .int .i64 (a : Int)), (2, .int .i64 (n : Int)), (3, .pointer (some ⟨bk2, 0, none⟩)), (6, .pointer (some ⟨bk7, 0, none⟩)), (10, .pointer (some ⟨bk121, 0, none⟩)), (11, .int .i64 (k : Int)), (54, .slice (subAddr ao cap a 3) (((xs.drop a).take 4).length) (cap - a)), (55, .int .i64 (((xs.drop a).take 4).length : Int)), (56, .int .i64 (k : Int))] ⟨rfl, rfl, rfl, rfl, rfl, rfl, rfl, rfl, rfl, trivial⟩ (c_drawn followsS' 7 [some (64, some (.pointer (some ⟨bk121, 1, none⟩))), some (65, some (.int .i64 (r.wide + (nth ((xs.drop a).take 4) k).wid))), some (66, some (.pointer (some ⟨s, 0, none⟩))), some (67, some (.pointer (some ⟨s, 0, none⟩))), some (68, some (.pointer (some ⟨s, 1, none⟩))), some (69, some (.int .i64 W)), some (70, some (.bool (decide (W < (r.wide + (nth ((xs.drop a).take 4) k).wid)))))] [[],[0],[],[2],[3],[4],[1,5]] (fun _ _ w => Upd (fun _ => False) w203 w) rfl rfl rfl (by kernel_rfl) (by kernel_rfl) (Upd.drew _).to ⟨?_, ?_, ?_, ?_, ?_, ?_, ?_, trivial⟩ ?_)
     · exact pzf Try.underlying138 rfl Try.sizeOf3 (1) rfl rfl rfl rfl rfl fun _ _ _ h => h
     ·
      intro D ρ w210 hcD hnD hdD hW
      have zhW := hW.size
      refine ⟨_, kf_fr [64], fun Lr => ?_⟩
      have B213 := (B205.keep hW (fun h => h))
      refine t_load Try.isAgg3 rfl rfl rfl (B213.get rfl) ?_
      exact dz rfl hW
     ·
      intro D ρ w214 hcD hnD hdD hW
      have zhW := hW.size
      refine ⟨_, kf_fr [3], fun Lr => ?_⟩
      have B217 := (B208.keep hW (fun h => h))
      refine t_load Try.isAgg114 rfl rfl rfl (B217.get rfl) ?_
      exact dz rfl hW
     · exact pz rfl rfl rfl rfl fun _ _ _ h => h
     · exact pzf Try.underlying117 rfl Try.sizeOf3 (1) rfl rfl rfl rfl rfl fun _ _ _ h => h
     ·
      intro D ρ w218 hcD hnD hdD hW
      have zhW := hW.size
      refine ⟨_, kf_fr [68], fun Lr => ?_⟩
      have B221 := ((((((((((((B15.keep u26 (fun h => h)).keep u29 (show ¬ (s = bk23) by first | omega | assumption)).keep u83 (fun h => h)).keep u100 (show ¬ (s = bk7) by first | omega | assumption)).keep u124 (fun h => h)).keep u164 (fun h => h)).keep u171 (show ¬ (s = bk7 ∨ s = bk121 ∨ s = mp) by first | omega | assumption)).keep u188 (fun h => h)).keep u191 (show ¬ (s = bk185) by first | omega | assumption)).keep u199 (fun h => h)).keep u204 (show ¬ (s = bk121) by first | omega | assumption)).keep hW (fun h => h))
      refine t_load Try.isAgg3 rfl rfl rfl (B221.get rfl) ?_
      exact dz rfl hW
     · exact pz rfl rfl rfl rfl fun _ _ _ h => h
     intro ρ w222 hW
     have u223 : Upd (fun _ => False) w203 w222 := hW
     have zu223 := u223.size
     have E224 := E206.next u223 (fun _ _ h => h.elim)
     refine QK.weak [(1, .int .i64 (a : Int)), (2, .int .i64 (n : Int)), (3, .pointer (some ⟨bk2, 0, none⟩)), (6, .pointer (some ⟨bk7, 0, none⟩)), (10, .pointer (some ⟨bk121, 0, none⟩)), (11, .int .i64 (k : Int)), (54, .slice (subAddr ao cap a 3) (((xs.drop a).take 4).length) (cap - a)), (55, .int .i64 (((xs.drop a).take 4).length : Int)), (56, .int .i64 (k : Int)), (70, .bool (decide (W < (r.wide + (nth ((xs.drop a).take 4) k).wid))))] ⟨rfl, rfl, rfl, rfl, rfl, rfl, rfl, rfl, rfl, rfl, trivial⟩ (hK207 _ _ (c_condp rfl (fun g70 => ?_) (fun g70 => ?_)))
     ·
      refine c_exit (hK126 _ _ (c_seq fun K225 hK225 => (c_region ?_)))
      have B226 := (((((I172.keep u188 (fun h => h)).keep u191 (show ¬ (bk7 = bk185) by first | omega | assumption)).keep u199 (fun h => h)).keep u204 (show ¬ (bk7 = bk121) by first | omega | assumption)).keep u223 (fun h => h))
      refine t_loadN (vs := [.int .i64 x1, .int .i64 x2]) Try.isAgg119 Try.sizeOf119 rfl rfl rfl (B226.at.sub 0 2) rfl (t_store (vs := [.int .i64 x1, .int .i64 x2]) Try.sizeOf119 rfl rfl rfl B226 rfl rfl (Nat.le_of_ble_eq_true rfl) (by simp [Value.oneCell']) (fun w227 sw227 B229 u228 => ?_))
      have zu228 := u228.size
      have E230 := E224.next u228 (fun i hi (h : i = bk7) => show i = mp by first | omega | assumption)
      have B229 : Blk w227 bk7 119 [.int .i64 x1, .int .i64 x2] := B229
      refine t_nil' (hK225 _ _ (c_ret ?_))
      have hfin : bestR W n (xs.drop a) = (x1, x2) := (by rw [← hgo, goR_break (by omega) g70])
      have B232 := ((B208.keep u223 (fun h => h)).keep u228 (show ¬ (bk2 = bk7) by first | omega | assumption))
      have B233 := (((((((((((((B15.keep u26 (fun h => h)).keep u29 (show ¬ (s = bk23) by first | omega | assumption)).keep u83 (fun h => h)).keep u100 (show ¬ (s = bk7) by first | omega | assumption)).keep u124 (fun h => h)).keep u164 (fun h => h)).keep u171 (show ¬ (s = bk7 ∨ s = bk121 ∨ s = mp) by first | omega | assumption)).keep u188 (fun h => h)).keep u191 (show ¬ (s = bk185) by first | omega | assumption)).keep u199 (fun h => h)).keep u204 (show ¬ (s = bk121) by first | omega | assumption)).keep u223 (fun h => h)).keep u228 (show ¬ (s = bk7) by first | omega | assumption))
      have B234 := (((((((((((B30.keep u83 (fun h => h)).keep u100 (show ¬ (bk23 = bk7) by first | omega | assumption)).keep u124 (fun h => h)).keep u164 (fun h => h)).keep u171 (show ¬ (bk23 = bk7 ∨ bk23 = bk121 ∨ bk23 = mp) by first | omega | assumption)).keep u188 (fun h => h)).keep u191 (show ¬ (bk23 = bk185) by first | omega | assumption)).keep u199 (fun h => h)).keep u204 (show ¬ (bk23 = bk121) by first | omega | assumption)).keep u223 (fun h => h)).keep u228 (show ¬ (bk23 = bk7) by first | omega | assumption))
      have D235 := ((((((hmm.keep u188 (fun h => h)).keep u191 (show ¬ (mp = bk185) by omega)).keep u199 (fun h => h)).keep u204 (show ¬ (mp = bk121) by omega)).keep u223 (fun h => h)).keep u228 (show ¬ (mp = bk7) by omega))
      refine f_retDf1_1 (dargs := []) (cs := [.pointer (some ⟨bk7, 0, none⟩), .pointer (some ⟨bk2, 0, none⟩), .pointer (some ⟨bk23, 0, none⟩)]) Try.results59 own96 (best1_c (bestP xs W) xs W ao cap s mp bk7 bk2 bk23 a n x1 x2 _ B229 B232 B233 B234 (by omega) D235 (by rw [bestP_iff, hfin]; rfl)) (fun w236 r238 => ?_)
      obtain ⟨M231, u237⟩ := r238
      have zu237 := u237.size
      have E239 := E230.next u237 (fun i hi (h : i = mp) => show i = mp by first | omega | assumption)
      have B240 := (B229.keep u237 (show ¬ (bk7 = mp) by first | omega | assumption))
      refine ⟨(.agg #[.int .i64 x1, .int .i64 x2]), ⟨_, _, rfl, run_loadVarN (vs := [.int .i64 x1, .int .i64 x2]) Try.isAgg119 Try.sizeOf119 rfl (B240.at.sub 0 2)⟩, ?_⟩
      exact ⟨by rw [hfin]; rfl, E239, M231⟩
     ·
      refine c_skip (hK194 _ _ (c_seq fun K241 hK241 => (c_region ?_)))
      have B242 := (B208.keep u223 (fun h => h))
      refine t_load Try.isAgg114 rfl rfl rfl (B242.get rfl) (t_move rfl rfl rfl (t_move rfl rfl rfl (t_ari rfl rfl rfl rfl rfl (by omega) (t_ari rfl rfl rfl rfl rfl (by omega) (t_same 75 (v := .int .i64 ((a + k + 1 : Nat) : Int)) rfl (congrArg (Value.int .i64) (by omega)) (t_move rfl rfl rfl (t_ari rfl rfl rfl rfl rfl (by omega) (t_same 77 (v := .int .i64 ((n - 1 : Nat) : Int)) rfl (congrArg (Value.int .i64) (by omega)) ?_))))))))
      have B244 := ((((((((((((B15.keep u26 (fun h => h)).keep u29 (show ¬ (s = bk23) by first | omega | assumption)).keep u83 (fun h => h)).keep u100 (show ¬ (s = bk7) by first | omega | assumption)).keep u124 (fun h => h)).keep u164 (fun h => h)).keep u171 (show ¬ (s = bk7 ∨ s = bk121 ∨ s = mp) by first | omega | assumption)).keep u188 (fun h => h)).keep u191 (show ¬ (s = bk185) by first | omega | assumption)).keep u199 (fun h => h)).keep u204 (show ¬ (s = bk121) by first | omega | assumption)).keep u223 (fun h => h))
      have D245 := (((((D183.keep u188 (fun _ h => h)).keep u191 (fun _ => show ¬ (b = bk185) by omega)).keep u199 (fun _ h => h)).keep u204 (fun _ => show ¬ (b = bk121) by omega)).keep u223 (fun _ h => h))
      have D246 := (((((hmm.keep u188 (fun h => h)).keep u191 (show ¬ (mp = bk185) by omega)).keep u199 (fun h => h)).keep u204 (show ¬ (mp = bk121) by omega)).keep u223 (fun h => h))
      refine t_call (vs := [.pointer (some ⟨s, 0, none⟩), .int .i64 ((a + k + 1 : Nat) : Int), .int .i64 ((n - 1 : Nat) : Int)]) own59 rfl rfl rfl rfl (ih (n - 1) (by omega) (a + k + 1) _ ⟨by omega, by omega, B244, D245, hp.cap, hp.len, hp.ok, by omega, hp.br, hp.sr, D246, hp.wid⟩) (fun v247 w248 r250 => ?_)
      obtain ⟨rfl, u249, M243⟩ := r250
      have zu249 := u249.size
      have hbb := bestR_bound W (n - 1) (xs.drop (a + k + 1)) (fun h hh => hp.ok h (List.mem_of_mem_drop hh))
      refine t_fieldv (cs := [.int .i64 ((bestR W (n - 1) (xs.drop (a + k + 1))).1), .int .i64 ((bestR W (n - 1) (xs.drop (a + k + 1))).2)]) Try.underlying119 rfl Try.isAgg3 rfl rfl rfl rfl (t_assign rfl rfl rfl (t_nil' (hK241 _ _ (c_seq fun K252 hK252 => (c_region (t_move rfl rfl rfl (t_cmp rfl rfl rfl rfl rfl (t_move rfl rfl rfl (t_splitp 82 rfl (fun g82 => ?_) (fun g82 => ?_))))))))))
      ·
       refine t_field Try.underlying119 rfl Try.sizeOf3 (1) rfl rfl rfl rfl ?_
       have B253 := ((((((I172.keep u188 (fun h => h)).keep u191 (show ¬ (bk7 = bk185) by first | omega | assumption)).keep u199 (fun h => h)).keep u204 (show ¬ (bk7 = bk121) by first | omega | assumption)).keep u223 (fun h => h)).keep u249 (show ¬ (bk7 = mp) by first | omega | assumption))
       refine t_load Try.isAgg3 rfl rfl rfl (B253.get rfl) (t_cmp rfl rfl rfl rfl rfl (t_move rfl rfl rfl (t_splitp 86 rfl (fun g86 => ?_) (fun g86 => ?_))))
       ·
        refine t_skip rfl rfl rfl (t_skip rfl rfl rfl (t_skip rfl rfl rfl (t_skip rfl rfl rfl (t_skip rfl rfl rfl (t_skip rfl rfl rfl (t_skip rfl rfl rfl (t_pick_t rfl rfl rfl rfl (t_pick_t rfl rfl rfl rfl (t_nil' (hK252 _ _ (c_cond_t rfl (c_region (t_move rfl rfl rfl (t_ari rfl rfl rfl rfl rfl (by omega) (t_field Try.underlying138 rfl Try.sizeOf3 (0) rfl rfl rfl rfl ?_)))))))))))))))
        have B254 := ((B205.keep u223 (fun h => h)).keep u249 (show ¬ (bk121 = mp) by first | omega | assumption))
        refine t_load Try.isAgg3 rfl rfl rfl (B254.get rfl) (t_move rfl rfl rfl (t_ari rfl rfl rfl rfl rfl (by omega) (t_build (ps := [(0, .int .i64 ((k : Int) + 1)), (1, .int .i64 ((max r.long (nth ((xs.drop a).take 4) k).len) + ((bestR W (n - 1) (xs.drop (a + k + 1))).2)))]) (v := .agg #[.int .i64 ((k : Int) + 1), .int .i64 ((max r.long (nth ((xs.drop a).take 4) k).len) + ((bestR W (n - 1) (xs.drop (a + k + 1))).2))]) rfl rfl ⟨rfl, rfl⟩ (fun w => by kernel_rfl) (t_store (vs := [.int .i64 ((k : Int) + 1), .int .i64 ((max r.long (nth ((xs.drop a).take 4) k).len) + ((bestR W (n - 1) (xs.drop (a + k + 1))).2))]) Try.sizeOf119 rfl rfl rfl B253 rfl rfl (Nat.le_of_ble_eq_true rfl) (by simp [Value.oneCell']) (fun w255 sw255 B257 u256 => ?_)))))
        have zu256 := u256.size
        have B257 : Blk w255 bk7 119 [.int .i64 ((k : Int) + 1), .int .i64 ((max r.long (nth ((xs.drop a).take 4) k).len) + ((bestR W (n - 1) (xs.drop (a + k + 1))).2))] := B257
        refine t_nil' (hK181 _ _ (c_region (t_ari rfl rfl rfl rfl rfl (by omega) (t_move rfl rfl rfl (t_nil' ?_)))))
        have hpk : pickR (x1, x2) k (max r.long (nth ((xs.drop a).take 4) k).len) (bestR W (n - 1) (xs.drop (a + k + 1))).2 = (((k : Int) + 1), ((max r.long (nth ((xs.drop a).take 4) k).len) + ((bestR W (n - 1) (xs.drop (a + k + 1))).2))) := by unfold pickR; first | (rw [if_pos (by omega)]) | (rw [if_neg (by omega)])
        have B259 := (B254.keep u256 (show ¬ (bk121 = bk7) by first | omega | assumption))
        have D260 := (M243.keep u256 (show ¬ (mp = bk7) by omega))
        exact hK169 (k + 1, ⟨(max r.long (nth ((xs.drop a).take 4) k).len), (r.wide + (nth ((xs.drop a).take 4) k).wid), (r.mass + (nth ((xs.drop a).take 4) k).mass)⟩, ((k : Int) + 1), ((max r.long (nth ((xs.drop a).take 4) k).len) + ((bestR W (n - 1) (xs.drop (a + k + 1))).2))) _ _ (by show ((xs.drop a).take 4).length - (k + 1) < ((xs.drop a).take 4).length - k; omega) ⟨rfl, rfl, rfl, rfl, rfl, rfl, rfl, rfl, trivial⟩ ⟨(((((((u171.next u188 (fun _ _ h => h.elim)).next u191 (fun i hi (h : i = bk185) => show i = bk7 ∨ i = bk121 ∨ i = mp by first | omega | assumption)).next u199 (fun _ _ h => h.elim)).next u204 (fun i hi (h : i = bk121) => show i = bk7 ∨ i = bk121 ∨ i = mp by first | omega | assumption)).next u223 (fun _ _ h => h.elim)).next u249 (fun i hi (h : i = mp) => show i = bk7 ∨ i = bk121 ∨ i = mp by first | omega | assumption)).next u256 (fun i hi (h : i = bk7) => show i = bk7 ∨ i = bk121 ∨ i = mp by first | omega | assumption)), B257, B259, (by omega), (by rw [← hgo, goR_next (by omega) g70, hpk]; rfl), (by show (0 ≤ (max r.long (nth ((xs.drop a).take 4) k).len) ∧ (max r.long (nth ((xs.drop a).take 4) k).len) ≤ 200) ∧ (0 ≤ (r.wide + (nth ((xs.drop a).take 4) k).wid) ∧ (r.wide + (nth ((xs.drop a).take 4) k).wid) ≤ 30 * (k + 1)) ∧ (0 ≤ (r.mass + (nth ((xs.drop a).take 4) k).mass) ∧ (r.mass + (nth ((xs.drop a).take 4) k).mass) ≤ 10000 * (k + 1)); omega), D260⟩
       ·
        refine t_field Try.underlying138 rfl Try.sizeOf3 (0) rfl rfl rfl rfl ?_
        have B261 := ((B205.keep u223 (fun h => h)).keep u249 (show ¬ (bk121 = mp) by first | omega | assumption))
        refine t_load Try.isAgg3 rfl rfl rfl (B261.get rfl) (t_move rfl rfl rfl (t_ari rfl rfl rfl rfl rfl (by omega) (t_field Try.underlying119 rfl Try.sizeOf3 (1) rfl rfl rfl rfl (t_load Try.isAgg3 rfl rfl rfl (B253.get rfl) (t_cmp rfl rfl rfl rfl rfl (t_pick_f rfl rfl rfl rfl (t_pick_t rfl rfl rfl rfl (t_nil' (hK252 _ _ (c_condp rfl (fun g95 => ?_) (fun g95 => ?_)))))))))))
        ·
         refine c_region (t_move rfl rfl rfl (t_ari rfl rfl rfl rfl rfl (by omega) (t_field Try.underlying138 rfl Try.sizeOf3 (0) rfl rfl rfl rfl (t_load Try.isAgg3 rfl rfl rfl (B261.get rfl) (t_move rfl rfl rfl (t_ari rfl rfl rfl rfl rfl (by omega) (t_build (ps := [(0, .int .i64 ((k : Int) + 1)), (1, .int .i64 ((max r.long (nth ((xs.drop a).take 4) k).len) + ((bestR W (n - 1) (xs.drop (a + k + 1))).2)))]) (v := .agg #[.int .i64 ((k : Int) + 1), .int .i64 ((max r.long (nth ((xs.drop a).take 4) k).len) + ((bestR W (n - 1) (xs.drop (a + k + 1))).2))]) rfl rfl ⟨rfl, rfl⟩ (fun w => by kernel_rfl) (t_store (vs := [.int .i64 ((k : Int) + 1), .int .i64 ((max r.long (nth ((xs.drop a).take 4) k).len) + ((bestR W (n - 1) (xs.drop (a + k + 1))).2))]) Try.sizeOf119 rfl rfl rfl B253 rfl rfl (Nat.le_of_ble_eq_true rfl) (by simp [Value.oneCell']) (fun w262 sw262 B264 u263 => ?_)))))))))
         have zu263 := u263.size
         have B264 : Blk w262 bk7 119 [.int .i64 ((k : Int) + 1), .int .i64 ((max r.long (nth ((xs.drop a).take 4) k).len) + ((bestR W (n - 1) (xs.drop (a + k + 1))).2))] := B264
         refine t_nil' (hK181 _ _ (c_region (t_ari rfl rfl rfl rfl rfl (by omega) (t_move rfl rfl rfl (t_nil' ?_)))))
         have hpk : pickR (x1, x2) k (max r.long (nth ((xs.drop a).take 4) k).len) (bestR W (n - 1) (xs.drop (a + k + 1))).2 = (((k : Int) + 1), ((max r.long (nth ((xs.drop a).take 4) k).len) + ((bestR W (n - 1) (xs.drop (a + k + 1))).2))) := by unfold pickR; first | (rw [if_pos (by omega)]) | (rw [if_neg (by omega)])
         have B266 := (B261.keep u263 (show ¬ (bk121 = bk7) by first | omega | assumption))
         have D267 := (M243.keep u263 (show ¬ (mp = bk7) by omega))
         exact hK169 (k + 1, ⟨(max r.long (nth ((xs.drop a).take 4) k).len), (r.wide + (nth ((xs.drop a).take 4) k).wid), (r.mass + (nth ((xs.drop a).take 4) k).mass)⟩, ((k : Int) + 1), ((max r.long (nth ((xs.drop a).take 4) k).len) + ((bestR W (n - 1) (xs.drop (a + k + 1))).2))) _ _ (by show ((xs.drop a).take 4).length - (k + 1) < ((xs.drop a).take 4).length - k; omega) ⟨rfl, rfl, rfl, rfl, rfl, rfl, rfl, rfl, trivial⟩ ⟨(((((((u171.next u188 (fun _ _ h => h.elim)).next u191 (fun i hi (h : i = bk185) => show i = bk7 ∨ i = bk121 ∨ i = mp by first | omega | assumption)).next u199 (fun _ _ h => h.elim)).next u204 (fun i hi (h : i = bk121) => show i = bk7 ∨ i = bk121 ∨ i = mp by first | omega | assumption)).next u223 (fun _ _ h => h.elim)).next u249 (fun i hi (h : i = mp) => show i = bk7 ∨ i = bk121 ∨ i = mp by first | omega | assumption)).next u263 (fun i hi (h : i = bk7) => show i = bk7 ∨ i = bk121 ∨ i = mp by first | omega | assumption)), B264, B266, (by omega), (by rw [← hgo, goR_next (by omega) g70, hpk]; rfl), (by show (0 ≤ (max r.long (nth ((xs.drop a).take 4) k).len) ∧ (max r.long (nth ((xs.drop a).take 4) k).len) ≤ 200) ∧ (0 ≤ (r.wide + (nth ((xs.drop a).take 4) k).wid) ∧ (r.wide + (nth ((xs.drop a).take 4) k).wid) ≤ 30 * (k + 1)) ∧ (0 ≤ (r.mass + (nth ((xs.drop a).take 4) k).mass) ∧ (r.mass + (nth ((xs.drop a).take 4) k).mass) ≤ 10000 * (k + 1)); omega), D267⟩
        ·
         refine c_skip (hK181 _ _ (c_region (t_ari rfl rfl rfl rfl rfl (by omega) (t_move rfl rfl rfl (t_nil' ?_)))))
         have hpk : pickR (x1, x2) k (max r.long (nth ((xs.drop a).take 4) k).len) (bestR W (n - 1) (xs.drop (a + k + 1))).2 = (x1, x2) := by unfold pickR; first | (rw [if_pos (by omega)]) | (rw [if_neg (by omega)])
         exact hK169 (k + 1, ⟨(max r.long (nth ((xs.drop a).take 4) k).len), (r.wide + (nth ((xs.drop a).take 4) k).wid), (r.mass + (nth ((xs.drop a).take 4) k).mass)⟩, x1, x2) _ _ (by show ((xs.drop a).take 4).length - (k + 1) < ((xs.drop a).take 4).length - k; omega) ⟨rfl, rfl, rfl, rfl, rfl, rfl, rfl, rfl, trivial⟩ ⟨((((((u171.next u188 (fun _ _ h => h.elim)).next u191 (fun i hi (h : i = bk185) => show i = bk7 ∨ i = bk121 ∨ i = mp by first | omega | assumption)).next u199 (fun _ _ h => h.elim)).next u204 (fun i hi (h : i = bk121) => show i = bk7 ∨ i = bk121 ∨ i = mp by first | omega | assumption)).next u223 (fun _ _ h => h.elim)).next u249 (fun i hi (h : i = mp) => show i = bk7 ∨ i = bk121 ∨ i = mp by first | omega | assumption)), B253, B261, (by omega), (by rw [← hgo, goR_next (by omega) g70, hpk]; rfl), (by show (0 ≤ (max r.long (nth ((xs.drop a).take 4) k).len) ∧ (max r.long (nth ((xs.drop a).take 4) k).len) ≤ 200) ∧ (0 ≤ (r.wide + (nth ((xs.drop a).take 4) k).wid) ∧ (r.wide + (nth ((xs.drop a).take 4) k).wid) ≤ 30 * (k + 1)) ∧ (0 ≤ (r.mass + (nth ((xs.drop a).take 4) k).mass) ∧ (r.mass + (nth ((xs.drop a).take 4) k).mass) ≤ 10000 * (k + 1)); omega), M243⟩
      ·
       refine t_skip rfl rfl rfl (t_skip rfl rfl rfl (t_skip rfl rfl rfl (t_skip rfl rfl rfl (t_skip rfl rfl rfl (t_skip rfl rfl rfl (t_skip rfl rfl rfl (t_skip rfl rfl rfl (t_skip rfl rfl rfl (t_skip rfl rfl rfl (t_skip rfl rfl rfl (t_skip rfl rfl rfl (t_pick_f rfl rfl rfl rfl (t_nil' (hK252 _ _ (c_cond_f rfl (c_skip (hK181 _ _ (c_region (t_ari rfl rfl rfl rfl rfl (by omega) (t_move rfl rfl rfl (t_nil' ?_)))))))))))))))))))))
       have hpk : pickR (x1, x2) k (max r.long (nth ((xs.drop a).take 4) k).len) (bestR W (n - 1) (xs.drop (a + k + 1))).2 = (x1, x2) := by unfold pickR; first | (rw [if_pos (by omega)]) | (rw [if_neg (by omega)])
       have B268 := ((((((I172.keep u188 (fun h => h)).keep u191 (show ¬ (bk7 = bk185) by first | omega | assumption)).keep u199 (fun h => h)).keep u204 (show ¬ (bk7 = bk121) by first | omega | assumption)).keep u223 (fun h => h)).keep u249 (show ¬ (bk7 = mp) by first | omega | assumption))
       have B269 := ((B205.keep u223 (fun h => h)).keep u249 (show ¬ (bk121 = mp) by first | omega | assumption))
       exact hK169 (k + 1, ⟨(max r.long (nth ((xs.drop a).take 4) k).len), (r.wide + (nth ((xs.drop a).take 4) k).wid), (r.mass + (nth ((xs.drop a).take 4) k).mass)⟩, x1, x2) _ _ (by show ((xs.drop a).take 4).length - (k + 1) < ((xs.drop a).take 4).length - k; omega) ⟨rfl, rfl, rfl, rfl, rfl, rfl, rfl, rfl, trivial⟩ ⟨((((((u171.next u188 (fun _ _ h => h.elim)).next u191 (fun i hi (h : i = bk185) => show i = bk7 ∨ i = bk121 ∨ i = mp by first | omega | assumption)).next u199 (fun _ _ h => h.elim)).next u204 (fun i hi (h : i = bk121) => show i = bk7 ∨ i = bk121 ∨ i = mp by first | omega | assumption)).next u223 (fun _ _ h => h.elim)).next u249 (fun i hi (h : i = mp) => show i = bk7 ∨ i = bk121 ∨ i = mp by first | omega | assumption)), B268, B269, (by omega), (by rw [← hgo, goR_next (by omega) g70, hpk]; rfl), (by show (0 ≤ (max r.long (nth ((xs.drop a).take 4) k).len) ∧ (max r.long (nth ((xs.drop a).take 4) k).len) ≤ 200) ∧ (0 ≤ (r.wide + (nth ((xs.drop a).take 4) k).wid) ∧ (r.wide + (nth ((xs.drop a).take 4) k).wid) ≤ 30 * (k + 1)) ∧ (0 ≤ (r.mass + (nth ((xs.drop a).take 4) k).mass) ∧ (r.mass + (nth ((xs.drop a).take 4) k).mass) ≤ 10000 * (k + 1)); omega), M243⟩
    ·
     refine c_exit (hK126 _ _ (c_seq fun K270 hK270 => (c_region (t_loadN (vs := [.int .i64 x1, .int .i64 x2]) Try.isAgg119 Try.sizeOf119 rfl rfl rfl (I172.at.sub 0 2) rfl (t_store (vs := [.int .i64 x1, .int .i64 x2]) Try.sizeOf119 rfl rfl rfl I172 rfl rfl (Nat.le_of_ble_eq_true rfl) (by simp [Value.oneCell']) (fun w271 sw271 B273 u272 => ?_))))))
     have zu272 := u272.size
     have E274 := E178.next u272 (fun i hi (h : i = bk7) => show i = mp by first | omega | assumption)
     have B273 : Blk w271 bk7 119 [.int .i64 x1, .int .i64 x2] := B273
     refine t_nil' (hK270 _ _ (c_ret ?_))
     have hfin : bestR W n (xs.drop a) = (x1, x2) := (by rw [← hgo, goR_end (by omega)])
     have B276 := (((B128.keep u164 (fun h => h)).keep u171 (show ¬ (bk2 = bk7 ∨ bk2 = bk121 ∨ bk2 = mp) by first | omega | assumption)).keep u272 (show ¬ (bk2 = bk7) by first | omega | assumption))
     have B277 := ((((((((B15.keep u26 (fun h => h)).keep u29 (show ¬ (s = bk23) by first | omega | assumption)).keep u83 (fun h => h)).keep u100 (show ¬ (s = bk7) by first | omega | assumption)).keep u124 (fun h => h)).keep u164 (fun h => h)).keep u171 (show ¬ (s = bk7 ∨ s = bk121 ∨ s = mp) by first | omega | assumption)).keep u272 (show ¬ (s = bk7) by first | omega | assumption))
     have B278 := ((((((B30.keep u83 (fun h => h)).keep u100 (show ¬ (bk23 = bk7) by first | omega | assumption)).keep u124 (fun h => h)).keep u164 (fun h => h)).keep u171 (show ¬ (bk23 = bk7 ∨ bk23 = bk121 ∨ bk23 = mp) by first | omega | assumption)).keep u272 (show ¬ (bk23 = bk7) by first | omega | assumption))
     have D279 := (hmm.keep u272 (show ¬ (mp = bk7) by omega))
     refine f_retDf1_1 (dargs := []) (cs := [.pointer (some ⟨bk7, 0, none⟩), .pointer (some ⟨bk2, 0, none⟩), .pointer (some ⟨bk23, 0, none⟩)]) Try.results59 own96 (best1_c (bestP xs W) xs W ao cap s mp bk7 bk2 bk23 a n x1 x2 _ B273 B276 B277 B278 (by omega) D279 (by rw [bestP_iff, hfin]; rfl)) (fun w280 r282 => ?_)
     obtain ⟨M275, u281⟩ := r282
     have zu281 := u281.size
     have E283 := E274.next u281 (fun i hi (h : i = mp) => show i = mp by first | omega | assumption)
     have B284 := (B273.keep u281 (show ¬ (bk7 = mp) by first | omega | assumption))
     refine ⟨(.agg #[.int .i64 x1, .int .i64 x2]), ⟨_, _, rfl, run_loadVarN (vs := [.int .i64 x1, .int .i64 x2]) Try.isAgg119 Try.sizeOf119 rfl (B284.at.sub 0 2)⟩, ?_⟩
     exact ⟨by rw [hfin]; rfl, E283, M275⟩


theorem best_c (xs : List Hull) (W : Int) (ao : Option Addr) (b o cap s mp : Nat) : ∀ (n a : Nat) (w0 : World), BestPre xs W ao b o cap s mp n a w0 →
    CallsV Try.prog 59 [.pointer (some ⟨s, 0, none⟩), .int .i64 (a : Int), .int .i64 (n : Int)] w0 (fun v w' => v = bestV (bestR W n (xs.drop a)) ∧ Upd (fun i => i = mp) w0 w' ∧ Memo (bestP xs W) w' mp) := by
  intro n
  induction n with
  | zero => exact fun a w0 hp => best_s xs W ao b o cap s mp 0 a w0 hp (fun m hm => by omega)
  | succ n ih => exact fun a w0 hp => best_s xs W ao b o cap s mp (n + 1) a w0 hp (fun m hm => by
      have e : m = n := by omega
      subst e
      exact ih)

end Go.Proofs.Ytmicjleiheoieaa
