/-
  Sorted rosters. Conditions: none.
-/
import Derived.Test.YtagmodjadmecdaaGreatHA1
import Derived.Test.YtagmodjadmecdaaGreatHSortQ
import Derived.Test.YtagmodjadmecdaaGreatHSlq
namespace Go.Proofs.YtagmodjadmecdaaGreat
open Go Go.RowKit Tryz

theorem cmpS_lt (x y : Sp) : ltOf cmpS x y = decide (LtS x y) := by
  unfold ltOf
  exact decide_eq_decide.2 cmp_neg
theorem cmpS_swo : Go.Sort.SWO (ltOf cmpS) where
  irrefl x := by rw [cmpS_lt]; simp [LtS]
  trans x y z h1 h2 := by rw [cmpS_lt, decide_eq_true_eq] at h1 h2 ⊢; unfold LtS at *; omega
  ntrans x y z h1 h2 := by rw [cmpS_lt, decide_eq_false_iff_not] at h1 h2 ⊢; unfold LtS at *; omega
theorem asc_srt {l : List Sp} (h : Asc cmpS l) : Srt l := by
  unfold Srt
  rw [List.pairwise_iff_getElem]
  intro i j hi hj hij
  have := h i j hij hj
  rw [cmp_neg, nth_eq hi, nth_eq hj] at this
  exact this
theorem own80 : Own Tryz.prog 80 := ⟨Tryz.f80, func80, by kernel_rfl, by kernel_rfl⟩
theorem own103 : Own Tryz.prog 103 := ⟨Tryz.f103, func103, by kernel_rfl, by kernel_rfl⟩
theorem own104 : Own Tryz.prog 104 := ⟨Tryz.f104, func104, by kernel_rfl, by kernel_rfl⟩
theorem own47 : Own Tryz.prog 47 := ⟨Tryz.f47, func47, by kernel_rfl, by kernel_rfl⟩

theorem compare_ok : CmpOk Tryz.prog 81 encSp cmpS := fun x y W => by
  refine Calls.mono (compare_c x y W) ?_
  rintro e w' ⟨v, rfl, ⟨rfl, hg⟩, _⟩
  exact ⟨rfl, hg.grow⟩

theorem sortR_c (xs : List Sp) (ao : Option Addr) (gb cp base : Nat) (w0 : World) (ha : Acc encSp 2 109 base w0 ao gb cp xs) (hl : xs.length ≤ 100000) :
    CallsV Tryz.prog 80 [.slice ao xs.length cp, .func (.func 81) #[] #[]] w0 (fun v w' => v = .tuple #[] ∧ Acc encSp 2 109 base w' ao gb cp (srtS xs) ∧ Upd (fun i => i = gb ∧ base ≤ i) w0 w') := by
 have hgl := ha.lt
 refine f_enter (N := 14) func80 rfl rfl rfl (c_seq fun K1 hK1 => (c_region (t_move rfl rfl rfl (t_len underlying103 rfl rfl rfl rfl (t_assign rfl rfl rfl (t_nil' (hK1 _ _ (c_region (t_move rfl rfl rfl (t_move rfl rfl rfl (t_move rfl rfl rfl (t_conv underlying3 underlying179 rfl rfl rfl (IntWalk.u64_in _ (by omega)) (t_call own104 rfl rfl rfl rfl (len_c (ρ := YtagmodjadmecdaaGreat.sortQ_ren) YtagmodjadmecdaaGreat.sortQ xs.length (by omega) _) (fun v2 w3 r5 => ?_))))))))))))))
 obtain ⟨kL, rfl, hkL, u4⟩ := r5
 have zu4 := u4.size
 refine t_move rfl rfl rfl ?_
 have D7 := (ha.kE u4)
 refine t_call own103 rfl rfl rfl rfl (pdq_c (ρ := YtagmodjadmecdaaGreat.sortQ_ren) YtagmodjadmecdaaGreat.sortQ 2 (by decide) isAgg109 sizeOf109 encSp (fun _ => rfl) (by intro x; simp [encSp, Value.oneCell']) cmpS cmpS_swo 81 own81 compare_ok 109 base ao gb cp xs kL hkL _ D7 (by omega)) (fun v8 w9 r11 => ?_)
 obtain ⟨ys, hperm, hasc, hacY, u10, rfl⟩ := r11
 have zu10 := u10.size
 have lt_gb := hacY.lt
 refine t_nil' (f_ret0 results80 ?_)
 exact ⟨rfl, by rw [← srt_eq (asc_srt hasc) hperm]; exact hacY, (((Upd.refl (fun i => (i = gb ∧ base ≤ i)) w0).nx u4).next u10 (fun i hi h => by omega))⟩

theorem rosterL_c (l : List Dty) (al : Option Addr) (bl ol cl : Nat) (w0 : World) (hl : Sl encDty 4 w0 al bl ol l) (hll : l.length ≤ 100000) (hpos : 0 < w0.heap.size) :
    CallsV Tryz.prog 47 [.func (.func 48) #[] #[], .slice al l.length cl] w0 (fun v w' => (∃ ao g cp, v = .slice ao (List.length (srtS (l.map lngS))) cp ∧ Acc encSp 2 109 w0.heap.size w' ao g cp (srtS (l.map lngS))) ∧ Ext w0 w') := by
 refine f_enter (N := 23) func47 rfl rfl rfl (c_seq fun K1 hK1 => (c_region (t_assign rfl rfl rfl (t_nil' (hK1 _ _ (c_seq fun K2 hK2 => (c_seq fun K3 hK3 => (c_region (t_move rfl rfl rfl (t_len underlying24 rfl rfl rfl rfl (t_move rfl rfl rfl (t_nil' (hK3 _ _ (c_block (c_loop (γ := Nat × Option Addr × Nat × Nat × List Sp) (fun gg => [(0, .func (.func 48) #[] #[]), (4, .slice gg.2.1 gg.2.2.2.2.length gg.2.2.2.1), (7, .slice al l.length cl), (8, .int .i64 (l.length : Int)), (9, .int .i64 (gg.1 : Int))]) (fun gg w => Upd (fun _ => False) w0 w ∧ (gg.1 ≤ l.length) ∧ (Acc encSp 2 109 w0.heap.size w gg.2.1 gg.2.2.1 gg.2.2.2.1 gg.2.2.2.2) ∧ (gg.2.2.2.2 = (l.take gg.1).map lngS)) (fun gg => l.length - gg.1) (0, none, 0, 0, []) ⟨rfl, rfl, rfl, rfl, rfl, trivial⟩ ⟨Upd.refl _ _, (Nat.zero_le _), (Acc.nil _ _ _ _ _ hpos (by omega)), rfl⟩ ?_)))))))))))))))
 intro gg w5 hW K4 hK4
 obtain ⟨k, ar, gr, cr, rs⟩ := gg
 change WC _ _ _ _ _ _ [(0, .func (.func 48) #[] #[]), (4, .slice ar rs.length cr), (7, .slice al l.length cl), (8, .int .i64 (l.length : Int)), (9, .int .i64 (k : Int))] _
 change Upd (fun _ => False) w0 w5 ∧ (k ≤ l.length) ∧ (Acc encSp 2 109 w0.heap.size w5 ar gr cr rs) ∧ (rs = (l.take k).map lngS) at hW
 obtain ⟨u6, I7, I8, I9⟩ := hW
 have zu6 := u6.size
 have E10 := (Upd.refl (fun _ => False) w0).nx u6
 have hk := I7; clear I7
 have hrA := I8; clear I8
 have hrs := I9; clear I9
 have lt_gr := hrA.lt
 have hrl : rs.length = k := by rw [hrs, List.length_map, List.length_take]; omega
 refine c_seq fun K11 hK11 => (c_region (t_cmp rfl rfl rfl rfl rfl (t_nil' (hK11 _ _ (c_seq fun K12 hK12 => (c_condp rfl (fun g10 => ?_) (fun g10 => ?_)))))))
 ·
  refine c_skip (hK12 _ _ (c_seq fun K13 hK13 => (c_block (c_seq fun K14 hK14 => (c_region ?_)))))
  have i15 : k < l.length := (by omega)
  refine t_index (j := k) underlying24 sizeOf37 rfl rfl rfl rfl ((hl.keep E10 (fun _ h => h)).addr (by omega)) rfl i15 (t_loadN (vs := [.int .i64 ((nth l k).bl), .int .i64 ((nth l k).bh), .int .i64 ((nth l k).el), .int .i64 ((nth l k).eh)]) isAgg37 sizeOf37 rfl rfl rfl (((hl.keep E10 (fun _ h => h)).at_ k (by omega)).sub 0 4) rfl (t_alloc (cs := [.int .i64 0, .int .i64 0, .int .i64 0, .int .i64 0]) zeroValue37 rfl rfl rfl (fun bk16 w17 ebk16 sbk16 B18 u19 => ?_)))
  have zu19 := u19.size
  refine t_st (vs := [.int .i64 ((nth l k).bl), .int .i64 ((nth l k).bh), .int .i64 ((nth l k).el), .int .i64 ((nth l k).eh)]) sizeOf37 rfl rfl rfl B18 rfl rfl rfl rfl (fun w21 sw21 B23 u22 => ?_)
  have zu22 := u22.size
  have B23 : Blk w21 bk16 37 [.int .i64 ((nth l k).bl), .int .i64 ((nth l k).bh), .int .i64 ((nth l k).el), .int .i64 ((nth l k).eh)] := B23
  refine t_nil' (hK14 _ _ (c_region (t_move rfl rfl rfl (t_move rfl rfl rfl (t_loadN (vs := [.int .i64 ((nth l k).bl), .int .i64 ((nth l k).bh), .int .i64 ((nth l k).el), .int .i64 ((nth l k).eh)]) isAgg37 sizeOf37 rfl rfl rfl (B23.at.sub 0 4) rfl (t_call own48 rfl rfl rfl rfl (longest_c (nth l k) _) (fun v25 w26 r28 => ?_)))))))
  obtain ⟨rfl, u27⟩ := r28
  have zu27 := u27.size
  refine t_bslice (ps := [(0, .agg #[.int .i64 ((lngS (nth l k)).b), .int .i64 ((lngS (nth l k)).e)])]) (cs := [.int .i64 ((lngS (nth l k)).b), .int .i64 ((lngS (nth l k)).e)]) (e := 109) rfl rfl ⟨rfl, rfl⟩ (fun w => by kernel_rfl) (fun bk30 w31 ebk30 sbk30 B32 u33 => ?_)
  have zu33 := u33.size
  have D35 := ((((hrA.kE u19).keep u22 (fun hb => show ¬ (gr = bk16) by first | omega | assumption)).kE u27).kE u33)
  refine t_append (z := .agg #[.int .i64 0, .int .i64 0]) (bytes := 16) (k := 2) (base := w0.heap.size) (lngS (nth l k)) underlying103 (by kernel_rfl) rfl (by decide) (fun _ => rfl) (by intro x; simp [encSp, Value.oneCell']) rfl rfl rfl rfl D35 B32 (by omega) (by omega) (by decide) (fun ao36 gb37 cp38 w39 A40 u41 gegb37 lngb37 => ?_)
  have zu41 := u41.size
  have lt_gb37 := A40.lt
  refine t_assign rfl rfl rfl (t_nil' (hK13 _ _ (c_region (t_ari rfl rfl rfl rfl rfl (by omega) (t_move rfl rfl rfl (t_nil' ?_))))))
  exact hK4 (k + 1, ao36, gb37, cp38, (rs ++ [(lngS (nth l k))])) _ _ (by show l.length - (k + 1) < l.length - k; omega) ⟨rfl, rfl, rfl, rfl, rfl, trivial⟩ ⟨(((((u6.nx u19).next u22 (fun i hi h => by omega)).nx u27).nx u33).next u41 (fun i hi h => by omega)), (by omega), A40, (by rw [hrs, take_nth (by omega), List.map_append]; rfl)⟩
 refine c_exit (hK2 _ _ (c_seq fun K43 hK43 => (c_region (t_move rfl rfl rfl (t_call own80 rfl rfl rfl rfl (sortR_c rs ar gr cr w0.heap.size _ hrA (by omega)) (fun v44 w45 r47 => ?_))))))
 obtain ⟨rfl, hacS, u46⟩ := r47
 have zu46 := u46.size
 have hfin : srtS rs = srtS (l.map lngS) := by rw [hrs, show k = l.length by omega, List.take_length]
 have lt_gr := hacS.lt
 refine t_nil' (hK43 _ _ (c_seq fun K49 hK49 => (c_region (t_move rfl rfl rfl (t_assign rfl rfl rfl (t_nil' (hK49 _ _ (c_ret (f_ret1 (v := .slice ar rs.length cr) results47 rfl ?_)))))))))
 exact ⟨⟨ar, gr, cr, by rw [← hfin, srt_len], by rw [← hfin]; exact hacS⟩, (E10.next u46 (fun i hi h => by omega))⟩

theorem rosterS_c (l : List Dty) (al : Option Addr) (bl ol cl : Nat) (w0 : World) (hl : Sl encDty 4 w0 al bl ol l) (hll : l.length ≤ 100000) (hpos : 0 < w0.heap.size) :
    CallsV Tryz.prog 47 [.func (.func 50) #[] #[], .slice al l.length cl] w0 (fun v w' => (∃ ao g cp, v = .slice ao (List.length (srtS (l.map shtS))) cp ∧ Acc encSp 2 109 w0.heap.size w' ao g cp (srtS (l.map shtS))) ∧ Ext w0 w') := by
 refine f_enter (N := 23) func47 rfl rfl rfl (c_seq fun K1 hK1 => (c_region (t_assign rfl rfl rfl (t_nil' (hK1 _ _ (c_seq fun K2 hK2 => (c_seq fun K3 hK3 => (c_region (t_move rfl rfl rfl (t_len underlying24 rfl rfl rfl rfl (t_move rfl rfl rfl (t_nil' (hK3 _ _ (c_block (c_loop (γ := Nat × Option Addr × Nat × Nat × List Sp) (fun gg => [(0, .func (.func 50) #[] #[]), (4, .slice gg.2.1 gg.2.2.2.2.length gg.2.2.2.1), (7, .slice al l.length cl), (8, .int .i64 (l.length : Int)), (9, .int .i64 (gg.1 : Int))]) (fun gg w => Upd (fun _ => False) w0 w ∧ (gg.1 ≤ l.length) ∧ (Acc encSp 2 109 w0.heap.size w gg.2.1 gg.2.2.1 gg.2.2.2.1 gg.2.2.2.2) ∧ (gg.2.2.2.2 = (l.take gg.1).map shtS)) (fun gg => l.length - gg.1) (0, none, 0, 0, []) ⟨rfl, rfl, rfl, rfl, rfl, trivial⟩ ⟨Upd.refl _ _, (Nat.zero_le _), (Acc.nil _ _ _ _ _ hpos (by omega)), rfl⟩ ?_)))))))))))))))
 intro gg w5 hW K4 hK4
 obtain ⟨k, ar, gr, cr, rs⟩ := gg
 change WC _ _ _ _ _ _ [(0, .func (.func 50) #[] #[]), (4, .slice ar rs.length cr), (7, .slice al l.length cl), (8, .int .i64 (l.length : Int)), (9, .int .i64 (k : Int))] _
 change Upd (fun _ => False) w0 w5 ∧ (k ≤ l.length) ∧ (Acc encSp 2 109 w0.heap.size w5 ar gr cr rs) ∧ (rs = (l.take k).map shtS) at hW
 obtain ⟨u6, I7, I8, I9⟩ := hW
 have zu6 := u6.size
 have E10 := (Upd.refl (fun _ => False) w0).nx u6
 have hk := I7; clear I7
 have hrA := I8; clear I8
 have hrs := I9; clear I9
 have lt_gr := hrA.lt
 have hrl : rs.length = k := by rw [hrs, List.length_map, List.length_take]; omega
 refine c_seq fun K11 hK11 => (c_region (t_cmp rfl rfl rfl rfl rfl (t_nil' (hK11 _ _ (c_seq fun K12 hK12 => (c_condp rfl (fun g10 => ?_) (fun g10 => ?_)))))))
 ·
  refine c_skip (hK12 _ _ (c_seq fun K13 hK13 => (c_block (c_seq fun K14 hK14 => (c_region ?_)))))
  have i15 : k < l.length := (by omega)
  refine t_index (j := k) underlying24 sizeOf37 rfl rfl rfl rfl ((hl.keep E10 (fun _ h => h)).addr (by omega)) rfl i15 (t_loadN (vs := [.int .i64 ((nth l k).bl), .int .i64 ((nth l k).bh), .int .i64 ((nth l k).el), .int .i64 ((nth l k).eh)]) isAgg37 sizeOf37 rfl rfl rfl (((hl.keep E10 (fun _ h => h)).at_ k (by omega)).sub 0 4) rfl (t_alloc (cs := [.int .i64 0, .int .i64 0, .int .i64 0, .int .i64 0]) zeroValue37 rfl rfl rfl (fun bk16 w17 ebk16 sbk16 B18 u19 => ?_)))
  have zu19 := u19.size
  refine t_st (vs := [.int .i64 ((nth l k).bl), .int .i64 ((nth l k).bh), .int .i64 ((nth l k).el), .int .i64 ((nth l k).eh)]) sizeOf37 rfl rfl rfl B18 rfl rfl rfl rfl (fun w21 sw21 B23 u22 => ?_)
  have zu22 := u22.size
  have B23 : Blk w21 bk16 37 [.int .i64 ((nth l k).bl), .int .i64 ((nth l k).bh), .int .i64 ((nth l k).el), .int .i64 ((nth l k).eh)] := B23
  refine t_nil' (hK14 _ _ (c_region (t_move rfl rfl rfl (t_move rfl rfl rfl (t_loadN (vs := [.int .i64 ((nth l k).bl), .int .i64 ((nth l k).bh), .int .i64 ((nth l k).el), .int .i64 ((nth l k).eh)]) isAgg37 sizeOf37 rfl rfl rfl (B23.at.sub 0 4) rfl (t_call own50 rfl rfl rfl rfl (shortest_c (nth l k) _) (fun v25 w26 r28 => ?_)))))))
  obtain ⟨rfl, u27⟩ := r28
  have zu27 := u27.size
  refine t_bslice (ps := [(0, .agg #[.int .i64 ((shtS (nth l k)).b), .int .i64 ((shtS (nth l k)).e)])]) (cs := [.int .i64 ((shtS (nth l k)).b), .int .i64 ((shtS (nth l k)).e)]) (e := 109) rfl rfl ⟨rfl, rfl⟩ (fun w => by kernel_rfl) (fun bk30 w31 ebk30 sbk30 B32 u33 => ?_)
  have zu33 := u33.size
  have D35 := ((((hrA.kE u19).keep u22 (fun hb => show ¬ (gr = bk16) by first | omega | assumption)).kE u27).kE u33)
  refine t_append (z := .agg #[.int .i64 0, .int .i64 0]) (bytes := 16) (k := 2) (base := w0.heap.size) (shtS (nth l k)) underlying103 (by kernel_rfl) rfl (by decide) (fun _ => rfl) (by intro x; simp [encSp, Value.oneCell']) rfl rfl rfl rfl D35 B32 (by omega) (by omega) (by decide) (fun ao36 gb37 cp38 w39 A40 u41 gegb37 lngb37 => ?_)
  have zu41 := u41.size
  have lt_gb37 := A40.lt
  refine t_assign rfl rfl rfl (t_nil' (hK13 _ _ (c_region (t_ari rfl rfl rfl rfl rfl (by omega) (t_move rfl rfl rfl (t_nil' ?_))))))
  exact hK4 (k + 1, ao36, gb37, cp38, (rs ++ [(shtS (nth l k))])) _ _ (by show l.length - (k + 1) < l.length - k; omega) ⟨rfl, rfl, rfl, rfl, rfl, trivial⟩ ⟨(((((u6.nx u19).next u22 (fun i hi h => by omega)).nx u27).nx u33).next u41 (fun i hi h => by omega)), (by omega), A40, (by rw [hrs, take_nth (by omega), List.map_append]; rfl)⟩
 refine c_exit (hK2 _ _ (c_seq fun K43 hK43 => (c_region (t_move rfl rfl rfl (t_call own80 rfl rfl rfl rfl (sortR_c rs ar gr cr w0.heap.size _ hrA (by omega)) (fun v44 w45 r47 => ?_))))))
 obtain ⟨rfl, hacS, u46⟩ := r47
 have zu46 := u46.size
 have hfin : srtS rs = srtS (l.map shtS) := by rw [hrs, show k = l.length by omega, List.take_length]
 have lt_gr := hacS.lt
 refine t_nil' (hK43 _ _ (c_seq fun K49 hK49 => (c_region (t_move rfl rfl rfl (t_assign rfl rfl rfl (t_nil' (hK49 _ _ (c_ret (f_ret1 (v := .slice ar rs.length cr) results47 rfl ?_)))))))))
 exact ⟨⟨ar, gr, cr, by rw [← hfin, srt_len], by rw [← hfin]; exact hacS⟩, (E10.next u46 (fun i hi h => by omega))⟩

end Go.Proofs.YtagmodjadmecdaaGreat
