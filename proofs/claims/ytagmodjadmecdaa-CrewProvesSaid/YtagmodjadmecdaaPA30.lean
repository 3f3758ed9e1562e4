/-
  The proof of Short, who can be left out, more and easier. Conditions: none.
-/
import Derived.Test.YtagmodjadmecdaaPA26
import Derived.Test.YtagmodjadmecdaaPA29
import Derived.Test.YtagmodjadmecdaaPA20
namespace Go.Proofs.Ytagmodjadmecdaa
open Go Go.RowKit

theorem sf_false {r : Rul} {xs : List Leg} {ms : List Mb} (h : (asgP r xs ms 0 0).1 = none) : sfP r xs ms = false := by unfold sfP; rw [h]; rfl
theorem selN_mem {ns : List Nat} {k : Nat} : ∀ {i : Nat}, i ≤ ns.length → ∀ j ∈ selN ns k i, j ∈ ns
  | 0, _, j, h => by cases h
  | i + 1, hi, j, h => by
    rw [selN] at h
    rcases List.mem_append.1 h with h | h
    · exact selN_mem (by omega) j h
    · split at h
      · cases h
      · rw [List.mem_singleton.1 h]; exact nth_mem (by omega)
theorem in_step1 {l : List Int} {i : Int} {j : Nat} (hj : j < l.length) (h : decide (i ∈ l.take j) = true) : decide (i ∈ l.take (j + 1)) = true := by
  rw [decide_eq_true_eq] at h ⊢
  rw [take_nth hj]; exact List.mem_append_left _ h
theorem in_step2 {l : List Int} {i : Int} {j : Nat} (hj : j < l.length) (h : decide (i ∈ l.take j) = false) : decide (i ∈ l.take (j + 1)) = decide (nth l j = i) := by
  rw [decide_eq_false_iff_not] at h
  rw [decide_eq_decide, take_nth hj, List.mem_append, List.mem_singleton]
  exact ⟨fun q => q.elim (fun q => absurd q h) Eq.symm, fun q => .inr q.symm⟩
theorem okLeg_ease {x : Leg} (h : okLeg x = true) : okLeg ⟨x.r, x.t, 1, 0⟩ = true := by
  unfold okLeg at h ⊢
  rw [decide_eq_true_eq] at h ⊢
  exact ⟨h.1, h.2.1, by show (1 : Int) ≤ 1 ∧ (1 : Int) ≤ 3; decide, by show (0 : Int) ≤ 0 ∧ (0 : Int) ≤ 1; decide⟩
set_option maxHeartbeats 8000000 in
theorem CrewProves_c (u : U5) (ms : List U5) (am : Option Addr) (bm om cm : Nat) (ls : List U5) (al : Option Addr) (bl ol cl : Nat) (v : U5) (q9 : Int) (w0 : World) (hu : okU5 u) (hm9 : Sl encU5 5 w0 am bm om ms) (hml : ms.length ≤ 9223372036854775807) (hms : ∀ x ∈ ms, okU5 x) (hl9 : Sl encU5 5 w0 al bl ol ls) (hll9 : ls.length ≤ 9223372036854775807) (hls : ∀ x ∈ ls, okU5 x) (hv : okU5 v) (hq9 : 0 ≤ q9 ∧ q9 ≤ 255) :
    CallsV Try.prog 7 [.agg #[.int .u8 u.a, .int .u8 u.b, .int .u8 u.c, .int .u8 u.d, .int .u8 u.e, .slice am ms.length cm, .slice al ls.length cl], .agg #[.int .u8 v.a, .int .u8 v.b, .int .u8 v.c, .int .u8 v.d, .int .u8 v.e], .int .u8 q9] w0 (fun v w' => v = .bool true ∧ Ext w0 w') := by
 have hr := smR_ok hu
 refine f_enter (N := 315) Try.func7 rfl rfl rfl (c_seq fun K1 hK1 => (c_region (t_box (cs := [.int .u8 u.a, .int .u8 u.b, .int .u8 u.c, .int .u8 u.d, .int .u8 u.e, .slice am ms.length cm, .slice al ls.length cl]) rfl rfl rfl rfl (fun bk2 w3 ebk2 sbk2 B4 u5 => ?_))))
 have zu5 := u5.size
 refine t_box (cs := [.int .u8 v.a, .int .u8 v.b, .int .u8 v.c, .int .u8 v.d, .int .u8 v.e]) rfl rfl rfl rfl (fun bk7 w8 ebk7 sbk7 B9 u10 => ?_)
 have zu10 := u10.size
 have E11 := ((Upd.refl (fun _ => False) w0).nx u5).nx u10
 refine t_assign rfl rfl rfl (t_nil' (hK1 _ _ (c_seq fun K12 hK12 => (c_region ?_))))
 have B13 := (B4.kx u10)
 refine t_loadN (vs := [.int .u8 u.a, .int .u8 u.b, .int .u8 u.c, .int .u8 u.d, .int .u8 u.e, .slice am ms.length cm, .slice al ls.length cl]) Try.isAgg61 Try.sizeOf61 rfl rfl rfl (B13.at.sub 0 7) rfl (t_call own17 rfl rfl rfl rfl (team_c u ms am bm om cm ls al bl ol cl 5 5 _ hu (hm9.keep E11 (fun _ h => h)) hml hms (hl9.keep E11 (fun _ h => h)) hll9 hls (by decide) (by decide) (by omega)) (fun v14 w15 r17 => ?_))
 obtain ⟨⟨ah, gh, ch, hs, ax, gx, cx, xs, rfl, hah, hhm, hhc, hax, hxe⟩, u16⟩ := r17
 have zu16 := u16.size
 have lt_gh := hah.lt
 have lt_gx := hax.lt
 have hsM := SlrsM.of hhc
 have hcapx := hax.cap_le
 have hcaph := hah.cap_le
 obtain ⟨ss, hse⟩ : ∃ ss, ss = hs.map HS.slr := ⟨_, rfl⟩
 have hs5 : hs.length ≤ 5 := by have := congrArg List.length hhm; rw [List.length_map, List.length_map, List.length_take] at this; omega
 have hx5 : xs.length ≤ 5 := by rw [hxe, List.length_map, List.length_take]; omega
 have hssl : ss.length = hs.length := by rw [hse, List.length_map]
 have hos : ∀ s ∈ ss, okSlr s = true := fun s hs9 => by
   rw [hse, hhm] at hs9
   obtain ⟨v, hv, rfl⟩ := List.mem_map.1 hs9
   exact slV_ok (hms v (List.mem_of_mem_take hv))
 have hox : ∀ x ∈ xs, okLeg x = true := fun x hx9 => by
   rw [hxe] at hx9
   obtain ⟨v, hv, rfl⟩ := List.mem_map.1 hx9
   exact legV_ok (hls v (List.mem_of_mem_take hv))
 have hoE0 : openE (smR u) ss xs = 0 := openE_of hr (by omega) hos (by omega) hox
 refine t_move rfl rfl rfl (t_extract rfl rfl rfl rfl (t_extract rfl rfl rfl rfl (t_extract rfl rfl rfl rfl (t_alloc (cs := [.int .i64 0, .int .i64 0, .int .i64 0, .int .i64 0, .int .i64 0]) Try.zeroValue28 rfl rfl rfl (fun bk19 w20 ebk19 sbk19 B21 u22 => ?_)))))
 have zu22 := u22.size
 refine t_st (vs := [.int .i64 ((smR u).rest), .int .i64 ((smR u).span), .int .i64 ((smR u).work), .int .i64 ((smR u).week), .int .i64 ((smR u).ww)]) Try.sizeOf28 rfl rfl rfl B21 rfl rfl rfl rfl (fun w24 sw24 B26 u25 => ?_)
 have zu25 := u25.size
 have B26 : Blk w24 bk19 28 [.int .i64 ((smR u).rest), .int .i64 ((smR u).span), .int .i64 ((smR u).work), .int .i64 ((smR u).week), .int .i64 ((smR u).ww)] := B26
 refine t_assign rfl rfl rfl (t_assign rfl rfl rfl (t_nil' (hK12 _ _ (c_seq fun K28 hK28 => (c_drawnM follows (fun _ => False) (.look 0 (.look 1 (.look 3 (.act 2 (.act 4 (.act 5 (.look 6 (.look 7 (.look 8 (.look 9 (.look 10 .done))))) .stop) .stop) .stop)))) (by kernel_rfl) fun w29 u30 => ?_)))))
 have zu30 := u30.size
 have B32 := (B26.kx u30)
 refine y_loadN (vs := [.int .i64 ((smR u).rest), .int .i64 ((smR u).span), .int .i64 ((smR u).work), .int .i64 ((smR u).week), .int .i64 ((smR u).ww)]) Try.isAgg28 Try.sizeOf28 rfl rfl rfl (B32.at.sub 0 5) rfl (fun h => h) (y_move rfl rfl rfl (y_move rfl rfl rfl (s_do ?_)))
 have D33 := (((hah.keep u22 (fun _ h => h)).keep u25 (fun hb => show ¬ (gh = bk19) by first | omega | assumption)).keep u30 (fun _ h => h))
 have D35 := (((hsM.keep u22 (fun i hi h => h)).keep u25 (fun i hi => show ¬ (i = bk19) by omega)).keep u30 (fun i hi h => h))
 refine t_call own19 rfl rfl rfl rfl (sailors_c hs ah gh 0 ch _ (D33.sl (fun _ => rfl)) (by omega) (fun h hh => (D35 h hh).1) (by omega)) (fun v36 w37 r39 => ?_)
 obtain ⟨⟨aoW34, gW34, cW34, oW34, rfl, haW34, hmW34, hsW34⟩, u38⟩ := r39
 have zu38 := u38.size
 have lt_gW34 := haW34.lt
 have hlW34 : oW34.length = hs.length := by have := congrArg List.length hmW34; simpa using this
 refine s_next ((Upd.refl _ _).nx u38) (s_do ?_)
 have D42 := ((((hax.keep u22 (fun _ h => h)).keep u25 (fun hb => show ¬ (gx = bk19) by first | omega | assumption)).keep u30 (fun _ h => h)).keep u38 (fun _ h => h))
 refine t_call own20 rfl rfl rfl rfl (legs_c xs ax gx 0 cx _ (D42.sl (fun _ => rfl)) (by omega) (by omega)) (fun v43 w44 r46 => ?_)
 obtain ⟨⟨aoG41, gG41, cG41, rfl, haG41⟩, u45⟩ := r46
 have zu45 := u45.size
 have lt_gG41 := haG41.lt
 have hcapG41 := haG41.cap_le
 refine s_next ((Upd.refl _ _).nx u45) (s_do ?_)
 have D48 := (haW34.keep u45 (fun _ h => h))
 refine t_call own24 rfl rfl rfl rfl (Short_c (smR u) oW34 aoW34 gW34 0 cW34 xs aoG41 gG41 0 cG41 _ (D48.sl (fun _ => rfl)) (by omega) (fun h hh => ((hsW34 h hh).ext ((Upd.refl (fun _ => False) _).nx u45)).slrM) (haG41.sl (fun _ => rfl)) (by omega) (by omega) (by omega)) (fun v49 w50 r52 => ?_)
 obtain ⟨⟨aoS, gS, cpS, slS, eS, rfl, hSl, hShR⟩, u51⟩ := r52
 have zu51 := u51.size
 rw [hmW34.trans hse.symm] at hShR
 refine s_next ((Upd.refl _ _).nx u51) (y_move rfl rfl rfl (y_extract rfl rfl rfl rfl (y_extract rfl rfl rfl rfl (y_assign rfl rfl rfl (y_assign rfl rfl rfl (s_nil (hK28 _ _ (c_seq fun K54 hK54 => (c_drawnM follows (fun _ => False) (.look 0 (.look 1 (.look 3 (.act 2 (.act 4 (.act 5 (.look 6 (.look 7 (.look 8 (.look 9 (.look 10 (.look 11 (.look 12 .done))))))) .stop) .stop) .stop)))) (by kernel_rfl) fun w55 u56 => ?_)))))))))
 have zu56 := u56.size
 have B58 := (((((B26.kx u30).kx u38).kx u45).kx u51).kx u56)
 refine y_loadN (vs := [.int .i64 ((smR u).rest), .int .i64 ((smR u).span), .int .i64 ((smR u).work), .int .i64 ((smR u).week), .int .i64 ((smR u).ww)]) Try.isAgg28 Try.sizeOf28 rfl rfl rfl (B58.at.sub 0 5) rfl (fun h => h) (y_move rfl rfl rfl (y_move rfl rfl rfl (s_do ?_)))
 have D59 := ((((D33.keep u38 (fun _ h => h)).keep u45 (fun _ h => h)).keep u51 (fun _ h => h)).keep u56 (fun _ h => h))
 have D61 := ((((D35.keep u38 (fun i hi h => h)).keep u45 (fun i hi h => h)).keep u51 (fun i hi h => h)).keep u56 (fun i hi h => h))
 refine t_call own19 rfl rfl rfl rfl (sailors_c hs ah gh 0 ch _ (D59.sl (fun _ => rfl)) (by omega) (fun h hh => (D61 h hh).1) (by omega)) (fun v62 w63 r65 => ?_)
 obtain ⟨⟨aoW60, gW60, cW60, oW60, rfl, haW60, hmW60, hsW60⟩, u64⟩ := r65
 have zu64 := u64.size
 have lt_gW60 := haW60.lt
 have hlW60 : oW60.length = hs.length := by have := congrArg List.length hmW60; simpa using this
 refine s_next ((Upd.refl _ _).nx u64) (s_do ?_)
 have D68 := ((((D42.keep u45 (fun _ h => h)).keep u51 (fun _ h => h)).keep u56 (fun _ h => h)).keep u64 (fun _ h => h))
 refine t_call own20 rfl rfl rfl rfl (legs_c xs ax gx 0 cx _ (D68.sl (fun _ => rfl)) (by omega) (by omega)) (fun v69 w70 r72 => ?_)
 obtain ⟨⟨aoG67, gG67, cG67, rfl, haG67⟩, u71⟩ := r72
 have zu71 := u71.size
 have E73 := (((((((((E11.nx u16).nx u22).next u25 (fun i hi h => by omega)).nx u30).nx u38).nx u45).nx u51).nx u56).nx u64).nx u71
 have lt_gG67 := haG67.lt
 have hcapG67 := haG67.cap_le
 refine s_next ((Upd.refl _ _).nx u71) (s_do ?_)
 have D75 := (haW60.keep u71 (fun _ h => h))
 refine t_call own18 rfl rfl rfl rfl (Plan_v (smR u) oW60 aoW60 gW60 0 cW60 xs aoG67 gG67 0 cG67 ss _ (hmW60.trans hse.symm) (D75.sl (fun _ => rfl)) (fun h hh => ((hsW60 h hh).ext ((Upd.refl (fun _ => False) _).nx u71)).slrM) (haG67.sl (fun _ => rfl)) (by omega) hoE0 (by omega)) (fun v76 w77 r79 => ?_)
 rcases r79 with ⟨apNk74, cpNk74, upk74, rfl, hupk74, hNk74, u78⟩ | ⟨apSk74, gpk74, cpSk74, rwk74, pk74, rfl, _, hplk74, _, u78⟩
 ·
  have zu78 := u78.size
  have hsfN := sf_false hNk74
  obtain ⟨hu1, hu2, hu3, hu4⟩ := asg_at hNk74
  rw [← hupk74] at hu1 hu2
  obtain ⟨heS, ns, hsl, hSN⟩ := short_of hShR hoE0 hsfN
  have hsll : slS.length = ns.length := by rw [hsl, List.length_map]
  have hnpos := hSN.pos
  have hnlen := hSN.asc.len
  refine s_next ((Upd.refl _ _).nx u78) (y_move rfl rfl rfl (y_extract rfl rfl rfl rfl (y_extract rfl rfl rfl rfl (y_extract rfl rfl rfl rfl (y_assign rfl rfl rfl (y_assign rfl rfl rfl (y_assign rfl rfl rfl (s_nil (hK54 _ _ (c_seq fun K81 hK81 => (c_drawnM follows (fun _ => False) (.look 0 (.look 1 (.look 3 (.act 2 (.act 4 (.act 5 (.look 6 (.look 7 (.look 8 (.look 9 (.look 10 .done))))) .stop) .stop) .stop)))) (by kernel_rfl) fun w82 u83 => ?_)))))))))))
  have zu83 := u83.size
  have B85 := (((((((((B26.kx u30).kx u38).kx u45).kx u51).kx u56).kx u64).kx u71).kx u78).kx u83)
  refine y_loadN (vs := [.int .i64 ((smR u).rest), .int .i64 ((smR u).span), .int .i64 ((smR u).work), .int .i64 ((smR u).week), .int .i64 ((smR u).ww)]) Try.isAgg28 Try.sizeOf28 rfl rfl rfl (B85.at.sub 0 5) rfl (fun h => h) (y_move rfl rfl rfl (y_move rfl rfl rfl (s_do ?_)))
  have D86 := ((((D59.keep u64 (fun _ h => h)).keep u71 (fun _ h => h)).keep u78 (fun _ h => h)).keep u83 (fun _ h => h))
  have D88 := ((((D61.keep u64 (fun i hi h => h)).keep u71 (fun i hi h => h)).keep u78 (fun i hi h => h)).keep u83 (fun i hi h => h))
  refine t_call own19 rfl rfl rfl rfl (sailors_c hs ah gh 0 ch _ (D86.sl (fun _ => rfl)) (by omega) (fun h hh => (D88 h hh).1) (by omega)) (fun v89 w90 r92 => ?_)
  obtain ⟨⟨aoW87, gW87, cW87, oW87, rfl, haW87, hmW87, hsW87⟩, u91⟩ := r92
  have zu91 := u91.size
  have lt_gW87 := haW87.lt
  have hlW87 : oW87.length = hs.length := by have := congrArg List.length hmW87; simpa using this
  refine s_next ((Upd.refl _ _).nx u91) (s_do ?_)
  have D95 := ((((D68.keep u71 (fun _ h => h)).keep u78 (fun _ h => h)).keep u83 (fun _ h => h)).keep u91 (fun _ h => h))
  refine t_call own20 rfl rfl rfl rfl (legs_c xs ax gx 0 cx _ (D95.sl (fun _ => rfl)) (by omega) (by omega)) (fun v96 w97 r99 => ?_)
  obtain ⟨⟨aoG94, gG94, cG94, rfl, haG94⟩, u98⟩ := r99
  have zu98 := u98.size
  have lt_gG94 := haG94.lt
  have hcapG94 := haG94.cap_le
  refine s_next ((Upd.refl _ _).nx u98) (s_do ?_)
  have D101 := (haW87.keep u98 (fun _ h => h))
  refine t_call own25 rfl rfl rfl rfl (Spare_c (smR u) oW87 aoW87 gW87 0 cW87 xs aoG94 gG94 0 cG94 _ (D101.sl (fun _ => rfl)) (by omega) (fun h hh => ((hsW87 h hh).ext ((Upd.refl (fun _ => False) _).nx u98)).slrM) (haG94.sl (fun _ => rfl)) (by omega) (by omega) (by omega)) (fun v102 w103 r105 => ?_)
  obtain ⟨⟨aoP, gP, cpP, spS, eP, rfl, hSp, hSpR⟩, u104⟩ := r105
  have zu104 := u104.size
  rw [hmW87.trans hse.symm] at hSpR
  obtain ⟨hS1, hS2⟩ := spare_of hSpR hoE0
  obtain ⟨hsp0, hep⟩ := hS1 hsfN
  have hspl : spS.length = 0 := by rw [hsp0]; rfl
  refine s_next ((Upd.refl _ _).nx u104) (y_move rfl rfl rfl (y_extract rfl rfl rfl rfl (y_extract rfl rfl rfl rfl (y_assign rfl rfl rfl (y_assign rfl rfl rfl (s_nil (hK81 _ _ (c_seq fun K107 hK107 => (c_seq fun K108 hK108 => (c_region (t_move rfl rfl rfl (t_cmp rfl rfl rfl rfl rfl (t_samehd (v := .bool true) rfl (t_nil' (hK108 _ _ (c_cond_t rfl (c_seq fun K109 hK109 => (c_seq fun K110 hK110 => (c_region (t_move rfl rfl rfl (t_cmp rfl rfl rfl rfl rfl (t_same 73 (v := .bool false) rfl (congrArg Value.bool (decide_eq_false (by omega))) (t_move rfl rfl rfl ?_)))))))))))))))))))))))
  refine t_move rfl rfl rfl (t_cmp rfl rfl rfl rfl rfl (t_same 76 (v := .bool false) rfl (congrArg Value.bool (decide_eq_false (by omega))) (t_pick_f rfl rfl rfl rfl (t_move rfl rfl rfl (t_move rfl rfl rfl (t_len Try.underlying75 rfl rfl rfl rfl (t_cmp rfl rfl rfl rfl rfl (t_same 81 (v := .bool false) rfl (congrArg Value.bool (decide_eq_false (by omega))) (t_pick_f rfl rfl rfl rfl (t_move rfl rfl rfl (t_move rfl rfl rfl (t_len Try.underlying75 rfl rfl rfl rfl (t_cmp rfl rfl rfl rfl rfl (t_same 86 (v := .bool false) rfl (congrArg Value.bool (decide_eq_false (by omega))) (t_pick_f rfl rfl rfl rfl (t_move rfl rfl rfl (t_move rfl rfl rfl (t_len Try.underlying75 rfl rfl rfl rfl (t_move rfl rfl rfl (t_len Try.underlying63 rfl rfl rfl rfl (t_cmp rfl rfl rfl rfl rfl (t_same 93 (v := .bool false) rfl (congrArg Value.bool (decide_eq_false (by omega))) (t_pick_f rfl rfl rfl rfl ?_)))))))))))))))))))))))
  refine t_nil' (hK110 _ _ (c_cond_f rfl (c_skip (hK109 _ _ (c_seq fun K111 hK111 => (c_seq fun K112 hK112 => (c_region (t_assign rfl rfl rfl (t_nil' (hK112 _ _ (c_block (c_loop (γ := Nat) (fun k => [(7, .pointer (some ⟨bk19, 0, none⟩)), (8, .slice ah hs.length ch), (9, .slice ax xs.length cx), (10, .slice aoS slS.length cpS), (13, .int .i64 (upk74 : Int)), (17, .int .i64 ((k : Int) - 1))]) (fun k w => Upd (fun i => w103.heap.size ≤ i) w103 w ∧ (k ≤ ns.length + 1)) (fun k => ns.length + 1 - k) 0 ⟨rfl, rfl, rfl, rfl, rfl, (congrArg (fun z => some (Value.int .i64 z)) (by omega)), trivial⟩ ⟨Upd.refl _ _, (Nat.zero_le _)⟩ ?_))))))))))))
  intro k w114 hW K113 hK113
  obtain ⟨u115, I116⟩ := hW
  have zu115 := u115.size
  have hk := I116; clear I116
  refine c_seq fun K118 hK118 => (c_seq fun K119 hK119 => (c_region (t_move rfl rfl rfl (t_move rfl rfl rfl (t_len Try.underlying75 rfl rfl rfl rfl (t_cmp rfl rfl rfl rfl rfl (t_nil' (hK119 _ _ (c_condp rfl (fun g98 => ?_) (fun g98 => ?_))))))))))
  ·
   refine c_skip (hK118 _ _ (c_seq fun K120 hK120 => (c_block (c_seq fun K121 hK121 => (c_region (t_bslice (ps := []) (cs := []) (e := 77) rfl rfl ⟨rfl, rfl⟩ (fun w => by kernel_rfl) (fun bk122 w123 ebk122 sbk122 B124 u125 => ?_)))))))
   have zu125 := u125.size
   refine t_assign rfl rfl rfl (t_nil' (hK121 _ _ (c_seq fun K127 hK127 => (c_seq fun K128 hK128 => (c_region (t_assign rfl rfl rfl (t_nil' (hK128 _ _ (c_block (c_loop (γ := Nat × Option Addr × Nat × Nat × List Leg) (fun gg => [(7, .pointer (some ⟨bk19, 0, none⟩)), (8, .slice ah hs.length ch), (9, .slice ax xs.length cx), (10, .slice aoS slS.length cpS), (13, .int .i64 (upk74 : Int)), (17, .int .i64 ((k : Int) - 1)), (18, .slice gg.2.1 gg.2.2.2.2.length gg.2.2.2.1), (19, .int .i64 (gg.1 : Int))]) (fun gg w => Upd (fun i => bk122 ≤ i) w123 w ∧ (gg.1 ≤ ns.length) ∧ (Acc encLeg 7 77 bk122 w gg.2.1 gg.2.2.1 gg.2.2.2.1 gg.2.2.2.2) ∧ (gg.2.2.2.2 = pickN xs (selN ns k gg.1)) ∧ (gg.2.2.2.2.length ≤ gg.1)) (fun gg => ns.length - gg.1) (0, some ⟨bk122, 0, none⟩, bk122, 0, []) ⟨rfl, rfl, rfl, rfl, rfl, rfl, rfl, rfl, trivial⟩ ⟨Upd.refl _ _, (Nat.zero_le _), (Acc.ofRaw (cs := []) B124 (Nat.le_refl _) (Nat.le_refl _) (Nat.zero_le _) (by rfl) (by rfl)), rfl, (Nat.le_refl _)⟩ ?_))))))))))
   intro gg w130 hW K129 hK129
   obtain ⟨i9, ao, go, co, so⟩ := gg
   change WC _ _ _ _ _ _ [(7, .pointer (some ⟨bk19, 0, none⟩)), (8, .slice ah hs.length ch), (9, .slice ax xs.length cx), (10, .slice aoS slS.length cpS), (13, .int .i64 (upk74 : Int)), (17, .int .i64 ((k : Int) - 1)), (18, .slice ao so.length co), (19, .int .i64 (i9 : Int))] _
   change Upd (fun i => bk122 ≤ i) w123 w130 ∧ (i9 ≤ ns.length) ∧ (Acc encLeg 7 77 bk122 w130 ao go co so) ∧ (so = pickN xs (selN ns k i9)) ∧ (so.length ≤ i9) at hW
   obtain ⟨u131, I132, I133, I134, I135⟩ := hW
   have zu131 := u131.size
   have hi9 := I132; clear I132
   have hso := I133; clear I133
   have hsoe := I134; clear I134
   have hsol := I135; clear I135
   have lt_go := hso.lt
   have hcapo := hso.cap_le
   refine c_seq fun K137 hK137 => (c_seq fun K138 hK138 => (c_region (t_move rfl rfl rfl (t_move rfl rfl rfl (t_len Try.underlying75 rfl rfl rfl rfl (t_cmp rfl rfl rfl rfl rfl (t_nil' (hK138 _ _ (c_condp rfl (fun g105 => ?_) (fun g105 => ?_))))))))))
   ·
    have hni : nth slS i9 = ((nth ns i9 : Nat) : Int) := by rw [hsl, castL_at (by omega)]
    have hnb := hSN.asc.mem (nth_mem (xs := ns) (i := i9) (by omega))
    refine c_skip (hK137 _ _ (c_seq fun K139 hK139 => (c_block (c_seq fun K140 hK140 => (c_cut (γ := Nat) (fun zz => [(7, .pointer (some ⟨bk19, 0, none⟩)), (8, .slice ah hs.length ch), (9, .slice ax xs.length cx), (10, .slice aoS slS.length cpS), (13, .int .i64 (upk74 : Int)), (17, .int .i64 ((k : Int) - 1)), (18, .slice ao so.length co), (19, .int .i64 (i9 : Int)), (137, .bool false)]) (fun zz w => Upd (fun _ => False) w130 w) (fun K142 hK142 => ?_) ?_)))))
    ·
     refine c_drawnM follows (fun _ => False) (.look 0 (.look 1 (.look 2 (.look 3 (.look 4 (.look 5 (.look 6 (.look 7 (.look 8 (.look 9 (.look 10 (.look 11 (.look 12 (.look 13 (.look 14 (.look 15 (.look 16 (.look 17 (.look 18 (.look 19 (.look 20 (.look 21 (.look 22 (.look 23 (.look 24 (.look 25 (.look 26 (.look 27 (.look 28 (.look 29 .done)))))))))))))))))))))))))))))) (by kernel_rfl) fun w145 u146 => ?_
     have zu146 := u146.size
     refine y_move rfl rfl rfl (y_move rfl rfl rfl ?_)
     have D148 := ((((((((((((hSl.keep u56 (fun _ h => h)).keep u64 (fun _ h => h)).keep u71 (fun _ h => h)).keep u78 (fun _ h => h)).keep u83 (fun _ h => h)).keep u91 (fun _ h => h)).keep u98 (fun _ h => h)).keep u104 (fun _ h => h)).keep u115 (fun hp => by have h9 := hSl.lt hp; show ¬ (w103.heap.size ≤ gS); omega)).keep u125 (fun _ h => h)).keep u131 (fun hp => by have h9 := hSl.lt hp; show ¬ (bk122 ≤ gS); omega)).keep u146 (fun _ h => h))
     have i149 : i9 < slS.length := (by omega)
     refine y_index (j := i9) Try.underlying75 Try.sizeOf3 rfl rfl rfl rfl (D148.addr (by omega)) rfl i149 ?_
     have D150 := ((((((((((((hSl.keep u56 (fun _ h => h)).keep u64 (fun _ h => h)).keep u71 (fun _ h => h)).keep u78 (fun _ h => h)).keep u83 (fun _ h => h)).keep u91 (fun _ h => h)).keep u98 (fun _ h => h)).keep u104 (fun _ h => h)).keep u115 (fun hp => by have h9 := hSl.lt hp; show ¬ (w103.heap.size ≤ gS); omega)).keep u125 (fun _ h => h)).keep u131 (fun hp => by have h9 := hSl.lt hp; show ¬ (bk122 ≤ gS); omega)).keep u146 (fun _ h => h))
     refine y_load Try.isAgg3 rfl rfl rfl ((D150.at_ i9 (by omega)) 0 _ rfl) (fun h => h) (y_cmp rfl rfl rfl rfl rfl (y_same 112 (v := .bool false) rfl (congrArg Value.bool (decide_eq_false (by omega))) (y_move rfl rfl rfl (y_move rfl rfl rfl (y_move rfl rfl rfl ?_)))))
     have i151 : i9 < slS.length := (by omega)
     refine y_index (j := i9) Try.underlying75 Try.sizeOf3 rfl rfl rfl rfl (D148.addr (by omega)) rfl i151 (y_load Try.isAgg3 rfl rfl rfl ((D150.at_ i9 (by omega)) 0 _ rfl) (fun h => h) (y_move rfl rfl rfl (y_len Try.underlying63 rfl rfl rfl rfl (y_cmp rfl rfl rfl rfl rfl (y_same 120 (v := .bool false) rfl (congrArg Value.bool (decide_eq_false (by omega))) (y_pick_f rfl rfl rfl rfl (y_move rfl rfl rfl (y_move rfl rfl rfl (y_cmp rfl rfl rfl rfl rfl (y_move rfl rfl rfl (y_splitp 125 rfl (fun g125 => ?_) (fun g125 => ?_))))))))))))
     ·
      have hlt8 := hSN.asc.lt (a := i9) (by omega) (by omega)
      have hpr9 : nth slS (i9 - 1) = ((nth ns (i9 - 1) : Nat) : Int) := by rw [hsl, castL_at (by omega)]
      refine y_move rfl rfl rfl (y_move rfl rfl rfl ?_)
      have i152 : i9 < slS.length := (by omega)
      refine y_index (j := i9) Try.underlying75 Try.sizeOf3 rfl rfl rfl rfl (D148.addr (by omega)) rfl i152 (y_load Try.isAgg3 rfl rfl rfl ((D150.at_ i9 (by omega)) 0 _ rfl) (fun h => h) (y_move rfl rfl rfl (y_move rfl rfl rfl (y_ari rfl rfl rfl rfl rfl (by omega) ?_))))
      have i153 : (i9 - 1) < slS.length := (by omega)
      refine y_index (j := (i9 - 1)) Try.underlying75 Try.sizeOf3 rfl rfl rfl rfl (D148.addr (by omega)) (by omega) i153 (y_load Try.isAgg3 rfl rfl rfl ((D150.at_ (i9 - 1) (by omega)) 0 _ rfl) (fun h => h) (y_cmp rfl rfl rfl rfl rfl (y_same 135 (v := .bool false) rfl (congrArg Value.bool (decide_eq_false (by omega))) (y_pick_t rfl rfl rfl rfl (y_pick_f rfl rfl rfl rfl (s_nil ?_))))))
      exact hK142 0 _ _ ⟨rfl, rfl, rfl, rfl, rfl, rfl, rfl, rfl, rfl, trivial⟩ ((Upd.refl _ _).next u146 (fun _ _ h => h.elim))
     refine y_skip rfl rfl rfl (y_skip rfl rfl rfl (y_skip rfl rfl rfl (y_skip rfl rfl rfl (y_skip rfl rfl rfl (y_skip rfl rfl rfl (y_skip rfl rfl rfl (y_skip rfl rfl rfl (y_skip rfl rfl rfl (y_skip rfl rfl rfl (y_pick_f rfl rfl rfl rfl (y_pick_f rfl rfl rfl rfl (s_nil ?_))))))))))))
     exact hK142 0 _ _ ⟨rfl, rfl, rfl, rfl, rfl, rfl, rfl, rfl, rfl, trivial⟩ ((Upd.refl _ _).next u146 (fun _ _ h => h.elim))
    intro zz w143 u144
    have zu144 := u144.size
    refine c_cond_f rfl (c_skip (hK140 _ _ (c_seq fun K155 hK155 => (c_region (t_move rfl rfl rfl (t_move rfl rfl rfl (t_cmp rfl rfl rfl rfl rfl (t_nil' (hK155 _ _ (c_condp rfl (fun g140 => ?_) (fun g140 => ?_)))))))))))
    ·
     refine c_region (t_move rfl rfl rfl (t_move rfl rfl rfl (t_move rfl rfl rfl (t_move rfl rfl rfl ?_))))
     have D156 := ((((((((((((hSl.keep u56 (fun _ h => h)).keep u64 (fun _ h => h)).keep u71 (fun _ h => h)).keep u78 (fun _ h => h)).keep u83 (fun _ h => h)).keep u91 (fun _ h => h)).keep u98 (fun _ h => h)).keep u104 (fun _ h => h)).keep u115 (fun hp => by have h9 := hSl.lt hp; show ¬ (w103.heap.size ≤ gS); omega)).keep u125 (fun _ h => h)).keep u131 (fun hp => by have h9 := hSl.lt hp; show ¬ (bk122 ≤ gS); omega)).keep u144 (fun _ h => h))
     have i157 : i9 < slS.length := (by omega)
     refine t_index (j := i9) Try.underlying75 Try.sizeOf3 rfl rfl rfl rfl (D156.addr (by omega)) rfl i157 (t_load Try.isAgg3 rfl rfl rfl ((D156.at_ i9 (by omega)) 0 _ rfl) ?_)
     have D158 := ((((((D95.keep u98 (fun _ h => h)).keep u104 (fun _ h => h)).keep u115 (fun hb => show ¬ (w103.heap.size ≤ gx) by first | omega | assumption)).keep u125 (fun _ h => h)).keep u131 (fun hb => show ¬ (bk122 ≤ gx) by first | omega | assumption)).keep u144 (fun _ h => h))
     have i159 : (nth ns i9) < xs.length := (by omega)
     refine t_index (j := (nth ns i9)) Try.underlying63 Try.sizeOf77 rfl rfl rfl rfl ((D158.sl (fun _ => rfl)).addr (by omega)) (by omega) i159 (t_loadN (vs := [.int .i64 ((nth xs (nth ns i9)).r), .int .i64 ((nth xs (nth ns i9)).t.bl), .int .i64 ((nth xs (nth ns i9)).t.bh), .int .i64 ((nth xs (nth ns i9)).t.el), .int .i64 ((nth xs (nth ns i9)).t.eh), .int .i64 ((nth xs (nth ns i9)).h), .int .i64 ((nth xs (nth ns i9)).p)]) Try.isAgg77 Try.sizeOf77 rfl rfl rfl (((D158.sl (fun _ => rfl)).at_ (nth ns i9) (by omega)).sub 0 7) rfl (t_bslice (ps := [(0, .agg #[.int .i64 ((nth xs (nth ns i9)).r), .int .i64 ((nth xs (nth ns i9)).t.bl), .int .i64 ((nth xs (nth ns i9)).t.bh), .int .i64 ((nth xs (nth ns i9)).t.el), .int .i64 ((nth xs (nth ns i9)).t.eh), .int .i64 ((nth xs (nth ns i9)).h), .int .i64 ((nth xs (nth ns i9)).p)])]) (cs := [.int .i64 ((nth xs (nth ns i9)).r), .int .i64 ((nth xs (nth ns i9)).t.bl), .int .i64 ((nth xs (nth ns i9)).t.bh), .int .i64 ((nth xs (nth ns i9)).t.el), .int .i64 ((nth xs (nth ns i9)).t.eh), .int .i64 ((nth xs (nth ns i9)).h), .int .i64 ((nth xs (nth ns i9)).p)]) (e := 77) rfl rfl ⟨rfl, rfl⟩ (fun w => by kernel_rfl) (fun bk160 w161 ebk160 sbk160 B162 u163 => ?_)))
     have zu163 := u163.size
     have D165 := ((hso.keep u144 (fun _ h => h)).keep u163 (fun _ h => h))
     refine t_append (z := .agg #[.int .i64 0, .int .i64 0, .int .i64 0, .int .i64 0, .int .i64 0, .int .i64 0, .int .i64 0]) (bytes := 56) (k := 7) (base := bk122) (nth xs (nth ns i9)) Try.underlying63 (by kernel_rfl) rfl (by decide) (fun _ => rfl) (by intro x; simp [encLeg, Value.oneCell']) rfl rfl rfl rfl D165 B162 (by omega) (by omega) (by decide) (fun ao166 gb167 cp168 w169 A170 u171 gegb167 lngb167 => ?_)
     have zu171 := u171.size
     have lt_gb167 := A170.lt
     refine t_assign rfl rfl rfl (t_nil' (hK139 _ _ (c_region (t_move rfl rfl rfl (t_ari rfl rfl rfl rfl rfl (by omega) (t_assign rfl rfl rfl (t_nil' ?_)))))))
     exact hK129 (i9 + 1, ao166, gb167, cp168, (so ++ [(nth xs (nth ns i9))])) _ _ (by show ns.length - (i9 + 1) < ns.length - i9; omega) ⟨rfl, rfl, rfl, rfl, rfl, rfl, rfl, rfl, trivial⟩ ⟨(((u131.next u144 (fun _ _ h => h.elim)).next u163 (fun _ _ h => h.elim)).next u171 (fun i hi (h : (i = go ∧ bk122 ≤ i)) => show bk122 ≤ i by first | omega | assumption)), (by omega), A170, (by show _ = pickN xs (selN ns k (i9 + 1)); rw [hsoe, selN, if_neg (show ¬ (i9 + 1 = k) by omega)]; simp [pickN]), (by show (so ++ [(nth xs (nth ns i9))]).length ≤ i9 + 1; rw [List.length_append, List.length_singleton]; omega)⟩
    refine c_skip (hK139 _ _ (c_region (t_move rfl rfl rfl (t_ari rfl rfl rfl rfl rfl (by omega) (t_assign rfl rfl rfl (t_nil' ?_))))))
    have D173 := (hso.keep u144 (fun _ h => h))
    exact hK129 (i9 + 1, ao, go, co, so) _ _ (by show ns.length - (i9 + 1) < ns.length - i9; omega) ⟨rfl, rfl, rfl, rfl, rfl, rfl, rfl, rfl, trivial⟩ ⟨(u131.next u144 (fun _ _ h => h.elim)), (by omega), D173, (by show _ = pickN xs (selN ns k (i9 + 1)); rw [hsoe, selN, if_pos (show i9 + 1 = k by omega), List.append_nil]), (by show so.length ≤ i9 + 1; omega)⟩
   have hie : i9 = ns.length := by omega
   rw [hie] at hsoe
   have hoso : ∀ x ∈ so, okLeg x = true := fun x hx9 => by
     rw [hsoe] at hx9
     obtain ⟨j, hj, rfl⟩ := List.mem_map.1 hx9
     exact hox _ (nth_mem (hSN.asc.mem (selN_mem (Nat.le_refl _) j hj)).2)
   have hoEs : openE (smR u) ss so = 0 := openE_of hr (by omega) hos (by omega) hoso
   have hksel : 0 < k → sfP (smR u) so (ss.map boardP) = true := fun hk9 => by
     have h9 := selN_all (ns := ns) (k := k - 1) (by omega)
     rw [show k - 1 + 1 = k by omega] at h9
     have h8 := hSN.less (k - 1) (by omega)
     rwa [show k - 1 + 1 = k by omega, ← h9, ← hsoe] at h8
   have hkz : k = 0 → sfP (smR u) so (ss.map boardP) = false := fun hk9 => by
     have h8 := hSN.no
     rwa [hsoe, hk9, selN_zero (Nat.le_refl _), List.take_length]
   refine c_exit (hK127 _ _ (c_seq fun K174 hK174 => (c_drawnM follows (fun _ => False) (.look 0 (.look 1 (.look 3 (.act 2 (.act 4 (.look 5 (.look 6 (.look 7 (.look 8 (.look 9 (.look 10 (.look 11 .done))))))) .stop) .stop)))) (by kernel_rfl) fun w175 u176 => ?_)))
   have zu176 := u176.size
   have B178 := ((((((((((((((((B26.kx u30).kx u38).kx u45).kx u51).kx u56).kx u64).kx u71).kx u78).kx u83).kx u91).kx u98).kx u104).keep u115 (show ¬ (w103.heap.size ≤ bk19) by first | omega | assumption)).kx u125).keep u131 (show ¬ (bk122 ≤ bk19) by first | omega | assumption)).kx u176)
   refine y_loadN (vs := [.int .i64 ((smR u).rest), .int .i64 ((smR u).span), .int .i64 ((smR u).work), .int .i64 ((smR u).week), .int .i64 ((smR u).ww)]) Try.isAgg28 Try.sizeOf28 rfl rfl rfl (B178.at.sub 0 5) rfl (fun h => h) (y_move rfl rfl rfl (y_move rfl rfl rfl (s_do ?_)))
   have D179 := (((((((D86.keep u91 (fun _ h => h)).keep u98 (fun _ h => h)).keep u104 (fun _ h => h)).keep u115 (fun hb => show ¬ (w103.heap.size ≤ gh) by first | omega | assumption)).keep u125 (fun _ h => h)).keep u131 (fun hb => show ¬ (bk122 ≤ gh) by first | omega | assumption)).keep u176 (fun _ h => h))
   have D181 := (((((((D88.keep u91 (fun i hi h => h)).keep u98 (fun i hi h => h)).keep u104 (fun i hi h => h)).keep u115 (fun i hi => show ¬ (w103.heap.size ≤ i) by omega)).keep u125 (fun i hi h => h)).keep u131 (fun i hi => show ¬ (bk122 ≤ i) by omega)).keep u176 (fun i hi h => h))
   refine t_call own19 rfl rfl rfl rfl (sailors_c hs ah gh 0 ch _ (D179.sl (fun _ => rfl)) (by omega) (fun h hh => (D181 h hh).1) (by omega)) (fun v182 w183 r185 => ?_)
   obtain ⟨⟨aoW180, gW180, cW180, oW180, rfl, haW180, hmW180, hsW180⟩, u184⟩ := r185
   have zu184 := u184.size
   have lt_gW180 := haW180.lt
   have hlW180 : oW180.length = hs.length := by have := congrArg List.length hmW180; simpa using this
   refine s_next ((Upd.refl _ _).nx u184) (s_do ?_)
   have D188 := ((hso.keep u176 (fun _ h => h)).keep u184 (fun _ h => h))
   refine t_call own18 rfl rfl rfl rfl (Plan_v (smR u) oW180 aoW180 gW180 0 cW180 so ao go 0 co ss _ (hmW180.trans hse.symm) (haW180.sl (fun _ => rfl)) (fun h hh => ((hsW180 h hh).ext (Upd.refl (fun _ => False) _)).slrM) (D188.sl (fun _ => rfl)) (by omega) hoEs (by omega)) (fun v189 w190 r192 => ?_)
   rcases r192 with ⟨apNk187, cpNk187, upk187, rfl, hupk187, hNk187, u191⟩ | ⟨apSk187, gpk187, cpSk187, rwk187, pk187, rfl, _, hplk187, _, u191⟩
   ·
    have zu191 := u191.size
    have hk0 : k = 0 := by
      rcases Nat.eq_zero_or_pos k with h | h
      · exact h
      · have h9 := hksel h; rw [sf_false hNk187] at h9; cases h9
    refine s_next ((Upd.refl _ _).nx u191) (y_move rfl rfl rfl (y_extract rfl rfl rfl rfl (y_extract rfl rfl rfl rfl (y_extract rfl rfl rfl rfl (y_assign rfl rfl rfl (y_assign rfl rfl rfl (y_assign rfl rfl rfl (s_nil (hK174 _ _ (c_seq fun K194 hK194 => (c_region (t_move rfl rfl rfl (t_cmp rfl rfl rfl rfl rfl (t_same 161 (v := .bool true) rfl (congrArg Value.bool (decide_eq_true (by omega))) (t_move rfl rfl rfl (t_move rfl rfl rfl (t_cmp rfl rfl rfl rfl rfl (t_samehd (v := .bool false) rfl (t_pick_t rfl rfl rfl rfl (t_move rfl rfl rfl (t_move rfl rfl rfl (t_cmp rfl rfl rfl rfl rfl (t_same 168 (v := .bool false) rfl (congrArg Value.bool (decide_eq_false (by omega))) ?_)))))))))))))))))))))))
    refine t_move rfl rfl rfl (t_skip rfl rfl rfl (t_skip rfl rfl rfl (t_pick_f rfl rfl rfl rfl (t_pick_f rfl rfl rfl rfl (t_nil' (hK194 _ _ (c_cond_f rfl (c_skip (hK120 _ _ (c_region (t_move rfl rfl rfl (t_ari rfl rfl rfl rfl rfl (by omega) (t_assign rfl rfl rfl (t_nil' ?_))))))))))))))
    exact hK113 (k + 1) _ _ (by omega) ⟨rfl, rfl, rfl, rfl, rfl, (congrArg (fun z => some (Value.int .i64 z)) (by omega)), trivial⟩ ⟨(((((u115.next u125 (fun _ _ h => h.elim)).next u131 (fun i hi (h : bk122 ≤ i) => show w103.heap.size ≤ i by first | omega | assumption)).next u176 (fun _ _ h => h.elim)).next u184 (fun _ _ h => h.elim)).next u191 (fun _ _ h => h.elim)), (by omega)⟩
   have zu191 := u191.size
   have hk1 : 0 < k := by
     rcases Nat.eq_zero_or_pos k with h | h
     · have h9 := hkz h; rw [sf_iff.2 ⟨_, hplk187⟩] at h9; cases h9
     · exact h
   refine s_next ((Upd.refl _ _).nx u191) (y_move rfl rfl rfl (y_extract rfl rfl rfl rfl (y_extract rfl rfl rfl rfl (y_extract rfl rfl rfl rfl (y_assign rfl rfl rfl (y_assign rfl rfl rfl (y_assign rfl rfl rfl (s_nil (hK174 _ _ (c_seq fun K196 hK196 => (c_region (t_move rfl rfl rfl (t_cmp rfl rfl rfl rfl rfl (t_same 161 (v := .bool false) rfl (congrArg Value.bool (decide_eq_false (by omega))) (t_move rfl rfl rfl (t_skip rfl rfl rfl (t_skip rfl rfl rfl (t_pick_f rfl rfl rfl rfl (t_move rfl rfl rfl (t_move rfl rfl rfl (t_cmp rfl rfl rfl rfl rfl (t_same 168 (v := .bool true) rfl (congrArg Value.bool (decide_eq_true (by omega))) (t_move rfl rfl rfl ?_)))))))))))))))))))))))
   refine t_move rfl rfl rfl (t_cmp rfl rfl rfl rfl rfl (t_samehd (v := .bool false) rfl (t_pick_t rfl rfl rfl rfl (t_pick_f rfl rfl rfl rfl (t_nil' (hK196 _ _ (c_cond_f rfl (c_skip (hK120 _ _ (c_region (t_move rfl rfl rfl (t_ari rfl rfl rfl rfl rfl (by omega) (t_assign rfl rfl rfl (t_nil' ?_))))))))))))))
   exact hK113 (k + 1) _ _ (by omega) ⟨rfl, rfl, rfl, rfl, rfl, (congrArg (fun z => some (Value.int .i64 z)) (by omega)), trivial⟩ ⟨(((((u115.next u125 (fun _ _ h => h.elim)).next u131 (fun i hi (h : bk122 ≤ i) => show w103.heap.size ≤ i by first | omega | assumption)).next u176 (fun _ _ h => h.elim)).next u184 (fun _ _ h => h.elim)).next u191 (fun _ _ h => h.elim)), (by omega)⟩
  have hlast := short_last hr hos hox hSN (Classical.byContradiction fun h => hu2 (asg_iff.2 h))
  have hl9 : nth slS (ns.length - 1) = ((nth ns (ns.length - 1) : Nat) : Int) := by rw [hsl, castL_at (by omega)]
  refine c_exit (hK111 _ _ (c_seq fun K197 hK197 => (c_region (t_move rfl rfl rfl (t_move rfl rfl rfl (t_len Try.underlying75 rfl rfl rfl rfl (t_ari rfl rfl rfl rfl rfl (by omega) ?_)))))))
  have D198 := (((((((((hSl.keep u56 (fun _ h => h)).keep u64 (fun _ h => h)).keep u71 (fun _ h => h)).keep u78 (fun _ h => h)).keep u83 (fun _ h => h)).keep u91 (fun _ h => h)).keep u98 (fun _ h => h)).keep u104 (fun _ h => h)).keep u115 (fun hp => by have h9 := hSl.lt hp; show ¬ (w103.heap.size ≤ gS); omega))
  have i199 : (ns.length - 1) < slS.length := (by omega)
  refine t_index (j := (ns.length - 1)) Try.underlying75 Try.sizeOf3 rfl rfl rfl rfl (D198.addr (by omega)) (by omega) i199 (t_load Try.isAgg3 rfl rfl rfl ((D198.at_ (ns.length - 1) (by omega)) 0 _ rfl) (t_move rfl rfl rfl (t_cmp rfl rfl rfl rfl rfl (t_same 181 (v := .bool true) rfl (congrArg Value.bool (decide_eq_true (by omega))) (t_move rfl rfl rfl (t_call own13 rfl rfl rfl rfl (known_c _) (fun v200 w201 r203 => ?_)))))))
  obtain ⟨rfl, u202⟩ := r203
  have zu202 := u202.size
  refine t_pick_t rfl rfl rfl rfl (t_assign rfl rfl rfl (t_nil' (hK197 _ _ (c_ret (f_ret1 (v := .bool true) Try.results7 rfl ?_)))))
  exact ⟨rfl, (((((((E73.nx u78).nx u83).nx u91).nx u98).nx u104).next u115 (fun i hi (h : w103.heap.size ≤ i) => show False by first | omega | assumption)).nx u202)⟩
 have zu78 := u78.size
 have hFe : Fe (smR u) xs (ss.map boardP) := ⟨_, hplk74⟩
 have hsfY : sfP (smR u) xs (ss.map boardP) = true := sf_iff.2 hFe
 obtain ⟨hsl, heS⟩ := short_ok hShR hoE0 hsfY
 have hsll : slS.length = 0 := by rw [hsl]; rfl
 refine s_next ((Upd.refl _ _).nx u78) (y_move rfl rfl rfl (y_extract rfl rfl rfl rfl (y_extract rfl rfl rfl rfl (y_extract rfl rfl rfl rfl (y_assign rfl rfl rfl (y_assign rfl rfl rfl (y_assign rfl rfl rfl (s_nil (hK54 _ _ (c_seq fun K206 hK206 => (c_drawnM follows (fun _ => False) (.look 0 (.look 1 (.look 3 (.act 2 (.act 4 (.act 5 (.look 6 (.look 7 (.look 8 (.look 9 (.look 10 .done))))) .stop) .stop) .stop)))) (by kernel_rfl) fun w207 u208 => ?_)))))))))))
 have zu208 := u208.size
 have B210 := (((((((((B26.kx u30).kx u38).kx u45).kx u51).kx u56).kx u64).kx u71).kx u78).kx u208)
 refine y_loadN (vs := [.int .i64 ((smR u).rest), .int .i64 ((smR u).span), .int .i64 ((smR u).work), .int .i64 ((smR u).week), .int .i64 ((smR u).ww)]) Try.isAgg28 Try.sizeOf28 rfl rfl rfl (B210.at.sub 0 5) rfl (fun h => h) (y_move rfl rfl rfl (y_move rfl rfl rfl (s_do ?_)))
 have D211 := ((((D59.keep u64 (fun _ h => h)).keep u71 (fun _ h => h)).keep u78 (fun _ h => h)).keep u208 (fun _ h => h))
 have D213 := ((((D61.keep u64 (fun i hi h => h)).keep u71 (fun i hi h => h)).keep u78 (fun i hi h => h)).keep u208 (fun i hi h => h))
 refine t_call own19 rfl rfl rfl rfl (sailors_c hs ah gh 0 ch _ (D211.sl (fun _ => rfl)) (by omega) (fun h hh => (D213 h hh).1) (by omega)) (fun v214 w215 r217 => ?_)
 obtain ⟨⟨aoW212, gW212, cW212, oW212, rfl, haW212, hmW212, hsW212⟩, u216⟩ := r217
 have zu216 := u216.size
 have lt_gW212 := haW212.lt
 have hlW212 : oW212.length = hs.length := by have := congrArg List.length hmW212; simpa using this
 refine s_next ((Upd.refl _ _).nx u216) (s_do ?_)
 have D220 := ((((D68.keep u71 (fun _ h => h)).keep u78 (fun _ h => h)).keep u208 (fun _ h => h)).keep u216 (fun _ h => h))
 refine t_call own20 rfl rfl rfl rfl (legs_c xs ax gx 0 cx _ (D220.sl (fun _ => rfl)) (by omega) (by omega)) (fun v221 w222 r224 => ?_)
 obtain ⟨⟨aoG219, gG219, cG219, rfl, haG219⟩, u223⟩ := r224
 have zu223 := u223.size
 have lt_gG219 := haG219.lt
 have hcapG219 := haG219.cap_le
 refine s_next ((Upd.refl _ _).nx u223) (s_do ?_)
 have D226 := (haW212.keep u223 (fun _ h => h))
 refine t_call own25 rfl rfl rfl rfl (Spare_c (smR u) oW212 aoW212 gW212 0 cW212 xs aoG219 gG219 0 cG219 _ (D226.sl (fun _ => rfl)) (by omega) (fun h hh => ((hsW212 h hh).ext ((Upd.refl (fun _ => False) _).nx u223)).slrM) (haG219.sl (fun _ => rfl)) (by omega) (by omega) (by omega)) (fun v227 w228 r230 => ?_)
 obtain ⟨⟨aoP, gP, cpP, spS, eP, rfl, hSp, hSpR⟩, u229⟩ := r230
 have zu229 := u229.size
 rw [hmW212.trans hse.symm] at hSpR
 obtain ⟨hS1, hS2⟩ := spare_of hSpR hoE0
 obtain ⟨hep, hspe⟩ := hS2 hsfY
 have hspl : spS.length ≤ hs.length := by rw [hspe, ← hssl]; exact spG_len _
 refine s_next ((Upd.refl _ _).nx u229) (y_move rfl rfl rfl (y_extract rfl rfl rfl rfl (y_extract rfl rfl rfl rfl (y_assign rfl rfl rfl (y_assign rfl rfl rfl (s_nil (hK206 _ _ (c_seq fun K232 hK232 => (c_seq fun K233 hK233 => (c_region (t_move rfl rfl rfl (t_cmp rfl rfl rfl rfl rfl (t_samehd (v := .bool false) rfl (t_nil' (hK233 _ _ (c_cond_f rfl (c_skip (hK232 _ _ (c_seq fun K234 hK234 => (c_seq fun K235 hK235 => (c_region (t_move rfl rfl rfl (t_cmp rfl rfl rfl rfl rfl ?_)))))))))))))))))))))))
 refine t_samehd (v := .bool false) rfl (t_move rfl rfl rfl (t_move rfl rfl rfl (t_cmp rfl rfl rfl rfl rfl (t_same 189 (v := .bool false) rfl (congrArg Value.bool (decide_eq_false (by omega))) (t_pick_f rfl rfl rfl rfl (t_move rfl rfl rfl (t_move rfl rfl rfl (t_cmp rfl rfl rfl rfl rfl (t_same 193 (v := .bool false) rfl (congrArg Value.bool (decide_eq_false (by omega))) (t_pick_f rfl rfl rfl rfl (t_move rfl rfl rfl (t_move rfl rfl rfl (t_len Try.underlying75 rfl rfl rfl rfl (t_cmp rfl rfl rfl rfl rfl (t_same 198 (v := .bool false) rfl (congrArg Value.bool (decide_eq_false (by omega))) (t_pick_f rfl rfl rfl rfl (t_move rfl rfl rfl (t_move rfl rfl rfl (t_len Try.underlying75 rfl rfl rfl rfl (t_move rfl rfl rfl (t_len Try.underlying62 rfl rfl rfl rfl (t_cmp rfl rfl rfl rfl rfl (t_same 205 (v := .bool false) rfl (congrArg Value.bool (decide_eq_false (by omega))) ?_)))))))))))))))))))))))
 refine t_pick_f rfl rfl rfl rfl (t_nil' (hK235 _ _ (c_cond_f rfl (c_skip (hK234 _ _ (c_seq fun K236 hK236 => (c_seq fun K237 hK237 => (c_region (t_assign rfl rfl rfl (t_nil' (hK237 _ _ (c_block (c_loop (γ := Nat) (fun i9 => [(2, .int .u8 q9), (4, .pointer (some ⟨bk7, 0, none⟩)), (7, .pointer (some ⟨bk19, 0, none⟩)), (8, .slice ah hs.length ch), (9, .slice ax xs.length cx), (15, .slice aoP spS.length cpP), (23, .int .i64 (i9 : Int))]) (fun i9 w => Upd (fun i => w228.heap.size ≤ i) w228 w ∧ (i9 ≤ hs.length)) (fun i9 => hs.length - i9) 0 ⟨rfl, rfl, rfl, rfl, rfl, rfl, rfl, trivial⟩ ⟨Upd.refl _ _, (Nat.zero_le _)⟩ ?_)))))))))))))
 intro i9 w239 hW K238 hK238
 obtain ⟨u240, I241⟩ := hW
 have zu240 := u240.size
 have hi9 := I241; clear I241
 refine c_seq fun K243 hK243 => (c_seq fun K244 hK244 => (c_region (t_move rfl rfl rfl (t_move rfl rfl rfl (t_len Try.underlying62 rfl rfl rfl rfl (t_cmp rfl rfl rfl rfl rfl (t_nil' (hK244 _ _ (c_condp rfl (fun g210 => ?_) (fun g210 => ?_))))))))))
 ·
  have hlT : (hs.take i9).length = i9 := by rw [List.length_take]; omega
  have hlD : (hs.drop (i9 + 1)).length = hs.length - (i9 + 1) := by rw [List.length_drop]
  refine c_skip (hK243 _ _ (c_seq fun K245 hK245 => (c_block (c_seq fun K246 hK246 => (c_drawnM follows (fun _ => False) (.look 0 (.look 1 (.look 2 (.look 4 (.look 5 (.look 6 (.look 7 (.act 3 (.act 8 (.act 9 (.look 10 .done) .stop) .stop) .stop)))))))) (by kernel_rfl) fun w247 u248 => ?_)))))
  have zu248 := u248.size
  refine y_move rfl rfl rfl (y_move rfl rfl rfl (y_sliceTo (i9) Try.underlying62 Try.sizeOf74 rfl rfl rfl rfl (by omega) (by omega) (y_same 215 (v := .slice (subAddr ah ch 0 4) ((hs.take i9).length) ch) rfl (by rw [hlT]) (y_move rfl rfl rfl (y_move rfl rfl rfl (y_ari rfl rfl rfl rfl rfl (by omega) (y_sliceFrom (i9 + 1) Try.underlying62 Try.sizeOf74 rfl rfl rfl rfl rfl (by omega) (by omega) (y_same 220 (v := .slice (subAddr ah ch (i9 + 1) 4) ((hs.drop (i9 + 1)).length) (ch - (i9 + 1))) rfl (by rw [hlD]) (s_do ?_)))))))))
  have D250 := (((((D211.keep u216 (fun _ h => h)).keep u223 (fun _ h => h)).keep u229 (fun _ h => h)).keep u240 (fun hb => show ¬ (w228.heap.size ≤ gh) by first | omega | assumption)).keep u248 (fun _ h => h))
  have D252 := (((((D213.keep u216 (fun i hi h => h)).keep u223 (fun i hi h => h)).keep u229 (fun i hi h => h)).keep u240 (fun i hi => show ¬ (w228.heap.size ≤ i) by omega)).keep u248 (fun i hi h => h))
  refine t_call own19 rfl rfl rfl rfl (sailors_c (hs.take i9) (subAddr ah ch 0 4) gh 0 ch _ (Sl.subTo (D250.sl (fun _ => rfl)) ch i9 hcaph) (by omega) (fun h hh => (D252 h (List.mem_of_mem_take hh)).1) (by omega)) (fun v253 w254 r256 => ?_)
  obtain ⟨⟨aoW251, gW251, cW251, oW251, rfl, haW251, hmW251, hsW251⟩, u255⟩ := r256
  have zu255 := u255.size
  have lt_gW251 := haW251.lt
  have hlW251 : oW251.length = (hs.take i9).length := by have := congrArg List.length hmW251; simpa using this
  refine s_next ((Upd.refl _ _).nx u255) (s_do ?_)
  have D258 := (D250.keep u255 (fun _ h => h))
  have D260 := (D252.keep u255 (fun i hi h => h))
  refine t_call own19 rfl rfl rfl rfl (sailors_c (hs.drop (i9 + 1)) (subAddr ah ch (i9 + 1) 4) gh (0 + (i9 + 1) * 4) (ch - (i9 + 1)) _ (Sl.from_ (D258.sl (fun _ => rfl)) ch (i9 + 1) hcaph) (by omega) (fun h hh => (D260 h (List.mem_of_mem_drop hh)).1) (by omega)) (fun v261 w262 r264 => ?_)
  obtain ⟨⟨aoW259, gW259, cW259, oW259, rfl, haW259, hmW259, hsW259⟩, u263⟩ := r264
  have zu263 := u263.size
  have lt_gW259 := haW259.lt
  have hlW259 : oW259.length = (hs.drop (i9 + 1)).length := by have := congrArg List.length hmW259; simpa using this
  refine s_next ((Upd.refl _ _).nx u263) (s_do ?_)
  have D266 := (haW251.keep u263 (fun _ h => h))
  have hAa := D266
  have hsAp := fun (h : HS) (hh : h ∈ oW251) => (hsW251 h hh).ext ((Upd.refl (fun _ => False) _).nx u263)
  have hsBp := fun (h : HS) (hh : h ∈ oW259) => (hsW259 h hh).ext (Upd.refl (fun _ => False) _)
  have h000 := hr
  refine t_appendAll (enc := encHS) (z := .agg #[.int .i64 0, .int .i64 0, .slice none 0 0, .slice none 0 0]) (bytes := 64) (k := 4) (base := w247.heap.size) (xs := oW251) (ys := oW259) Try.underlying62 (by kernel_rfl) rfl (by decide) (fun _ => rfl) (by intro x; simp [encHS, Value.oneCell']) rfl rfl rfl rfl D266 (haW259.sl (fun _ => rfl)) (by omega) (by omega) (by omega) (by decide) (fun ao267 gb268 cp269 w270 A271 u272 gegb268 lngb268 => ?_)
  have zu272 := u272.size
  have lt_gb268 := A271.lt
  have hsAB : ∀ h ∈ oW251 ++ oW259, SlrM w270 h := fun h hh => (List.mem_append.1 hh).elim (fun q => ((hsAp h q).upd u272 (fun _ cs hB => hAa.notBlk hB (by decide)) (fun _ cs hB => hAa.notBlk hB (by decide))).slrM) (fun q => ((hsBp h q).upd u272 (fun _ cs hB => hAa.notBlk hB (by decide)) (fun _ cs hB => hAa.notBlk hB (by decide))).slrM)
  refine s_next ((Upd.refl _ _).next u272 (fun i hi (h : (i = gW251 ∧ w247.heap.size ≤ i)) => show w247.heap.size ≤ i ∨ (False) by first | omega | exact .inr h)) (y_assign rfl rfl rfl (s_nil (hK246 _ _ (c_seq fun K274 hK274 => (c_drawnM follows (fun _ => False) (.look 0 (.look 1 (.look 2 (.act 3 (.act 4 (.look 5 (.look 6 (.look 7 (.look 8 (.look 9 (.look 10 (.look 11 .done))))))) .stop) .stop)))) (by kernel_rfl) fun w275 u276 => ?_)))))
  have zu276 := u276.size
  have B278 := ((((((((((((((((((B26.kx u30).kx u38).kx u45).kx u51).kx u56).kx u64).kx u71).kx u78).kx u208).kx u216).kx u223).kx u229).keep u240 (show ¬ (w228.heap.size ≤ bk19) by first | omega | assumption)).kx u248).kx u255).kx u263).keep u272 (by omega)).kx u276)
  refine y_loadN (vs := [.int .i64 ((smR u).rest), .int .i64 ((smR u).span), .int .i64 ((smR u).work), .int .i64 ((smR u).week), .int .i64 ((smR u).ww)]) Try.isAgg28 Try.sizeOf28 rfl rfl rfl (B278.at.sub 0 5) rfl (fun h => h) (y_move rfl rfl rfl (y_move rfl rfl rfl (s_do ?_)))
  have D280 := ((((((((D220.keep u223 (fun _ h => h)).keep u229 (fun _ h => h)).keep u240 (fun hb => show ¬ (w228.heap.size ≤ gx) by first | omega | assumption)).keep u248 (fun _ h => h)).keep u255 (fun _ h => h)).keep u263 (fun _ h => h)).keep u272 (fun hb => show ¬ ((gx = gW251 ∧ w247.heap.size ≤ gx)) by first | omega | assumption)).keep u276 (fun _ h => h))
  refine t_call own20 rfl rfl rfl rfl (legs_c xs ax gx 0 cx _ (D280.sl (fun _ => rfl)) (by omega) (by omega)) (fun v281 w282 r284 => ?_)
  obtain ⟨⟨aoG279, gG279, cG279, rfl, haG279⟩, u283⟩ := r284
  have zu283 := u283.size
  have lt_gG279 := haG279.lt
  have hcapG279 := haG279.cap_le
  refine s_next ((Upd.refl _ _).nx u283) (s_do ?_)
  have D287 := (fun h hh => ((fun h hh => (hsAB h hh).ext u276) h hh).ext u283)
  have hssA : (oW251 ++ oW259).map HS.slr = (ss.take i9 ++ ss.drop (i9 + 1)) := by rw [List.map_append, hmW251, hmW259, hse, List.map_take, List.map_drop]
  have hoEA : openE (smR u) (ss.take i9 ++ ss.drop (i9 + 1)) xs = 0 := openE_of hr (by rw [List.length_append, List.length_take, List.length_drop]; omega) (fun s h => (List.mem_append.1 h).elim (fun q => hos s (List.mem_of_mem_take q)) (fun q => hos s (List.mem_of_mem_drop q))) (by omega) hox
  have D288 := ((A271.keep u276 (fun _ h => h)).keep u283 (fun _ h => h))
  refine t_call own18 rfl rfl rfl rfl (Plan_v (smR u) (oW251 ++ oW259) ao267 gb268 0 cp269 xs aoG279 gG279 0 cG279 (ss.take i9 ++ ss.drop (i9 + 1)) _ hssA (D288.sl (fun _ => rfl)) D287 (haG279.sl (fun _ => rfl)) (by omega) hoEA (by omega)) (fun v289 w290 r292 => ?_)
  rcases r292 with ⟨apNk286, cpNk286, upk286, rfl, hupk286, hNk286, u291⟩ | ⟨apSk286, gpk286, cpSk286, rwk286, pk286, rfl, _, hplk286, _, u291⟩
  ·
   have zu291 := u291.size
   have hin9 : sfP (smR u) xs ((ss.map boardP).take i9 ++ (ss.map boardP).drop (i9 + 1)) = false := by have h9 := sf_false hNk286; rwa [List.map_append, List.map_take, List.map_drop] at h9
   have hmem : (i9 : Int) ∉ spS := fun h => by rw [hspe] at h; have h9 := (mem_spG.1 h).2; rw [hin9] at h9; cases h9
   refine s_next ((Upd.refl _ _).nx u291) (y_move rfl rfl rfl (y_extract rfl rfl rfl rfl (y_extract rfl rfl rfl rfl (y_extract rfl rfl rfl rfl (y_assign rfl rfl rfl (y_assign rfl rfl rfl (y_assign rfl rfl rfl (s_nil (hK274 _ _ (c_seq fun K294 hK294 => (c_region (t_assign rfl rfl rfl (t_nil' (hK294 _ _ (c_seq fun K295 hK295 => (c_seq fun K296 hK296 => (c_region (t_assign rfl rfl rfl (t_nil' (hK296 _ _ (c_block (c_loop (γ := Nat) (fun j9 => [(2, .int .u8 q9), (4, .pointer (some ⟨bk7, 0, none⟩)), (7, .pointer (some ⟨bk19, 0, none⟩)), (8, .slice ah hs.length ch), (9, .slice ax xs.length cx), (15, .slice aoP spS.length cpP), (23, .int .i64 (i9 : Int)), (27, .int .i64 7), (28, .bool (decide ((i9 : Int) ∈ spS.take j9))), (29, .int .i64 (j9 : Int))]) (fun j9 w => Upd (fun _ => False) w290 w ∧ (j9 ≤ spS.length)) (fun j9 => spS.length - j9) 0 ⟨rfl, rfl, rfl, rfl, rfl, rfl, rfl, rfl, (by first | rfl | (rw [in_step1 (show j9 < spS.length by omega) (by assumption)]; rfl) | (rw [in_step2 (show j9 < spS.length by omega) (by assumption)]; rfl)), rfl, trivial⟩ ⟨Upd.refl _ _, (Nat.zero_le _)⟩ ?_))))))))))))))))))))))
   intro j9 w298 hW K297 hK297
   obtain ⟨u299, I300⟩ := hW
   have zu299 := u299.size
   have hj9 := I300; clear I300
   refine c_seq fun K302 hK302 => (c_seq fun K303 hK303 => (c_region (t_move rfl rfl rfl (t_move rfl rfl rfl (t_len Try.underlying75 rfl rfl rfl rfl (t_cmp rfl rfl rfl rfl rfl (t_nil' (hK303 _ _ (c_condp rfl (fun g235 => ?_) (fun g235 => ?_))))))))))
   ·
    refine c_skip (hK302 _ _ (c_seq fun K304 hK304 => (c_block (c_region (t_move rfl rfl rfl (t_move rfl rfl rfl (t_split 239 rfl (fun g239 => ?_) (fun g239 => ?_))))))))
    ·
     refine t_skip rfl rfl rfl (t_skip rfl rfl rfl (t_skip rfl rfl rfl (t_skip rfl rfl rfl (t_skip rfl rfl rfl (t_skip rfl rfl rfl (t_pick_t rfl rfl rfl rfl (t_assign rfl rfl rfl (t_nil' (hK304 _ _ (c_region (t_move rfl rfl rfl (t_ari rfl rfl rfl rfl rfl (by omega) (t_assign rfl rfl rfl (t_nil' ?_))))))))))))))
     exact hK297 (j9 + 1) _ _ (by omega) ⟨rfl, rfl, rfl, rfl, rfl, rfl, rfl, rfl, (by first | rfl | (rw [in_step1 (show j9 < spS.length by omega) (by assumption)]; rfl) | (rw [in_step2 (show j9 < spS.length by omega) (by assumption)]; rfl)), rfl, trivial⟩ ⟨u299, (by omega)⟩
    refine t_move rfl rfl rfl (t_move rfl rfl rfl ?_)
    have D305 := (((((((((hSp.keep u240 (fun hp => by have h9 := hSp.lt hp; show ¬ (w228.heap.size ≤ gP); omega)).keep u248 (fun _ h => h)).keep u255 (fun _ h => h)).keep u263 (fun _ h => h)).keep u272 (fun hp => by have h9 := hSp.lt hp; show ¬ ((gP = gW251 ∧ w247.heap.size ≤ gP)); omega)).keep u276 (fun _ h => h)).keep u283 (fun _ h => h)).keep u291 (fun _ h => h)).keep u299 (fun _ h => h))
    have i306 : j9 < spS.length := (by omega)
    refine t_index (j := j9) Try.underlying75 Try.sizeOf3 rfl rfl rfl rfl (D305.addr (by omega)) rfl i306 (t_load Try.isAgg3 rfl rfl rfl ((D305.at_ j9 (by omega)) 0 _ rfl) (t_move rfl rfl rfl (t_cmp rfl rfl rfl rfl rfl (t_pick_f rfl rfl rfl rfl (t_assign rfl rfl rfl (t_nil' (hK304 _ _ (c_region (t_move rfl rfl rfl (t_ari rfl rfl rfl rfl rfl (by omega) (t_assign rfl rfl rfl (t_nil' ?_))))))))))))
    exact hK297 (j9 + 1) _ _ (by omega) ⟨rfl, rfl, rfl, rfl, rfl, rfl, rfl, rfl, (by first | rfl | (rw [in_step1 (show j9 < spS.length by omega) (by assumption)]; rfl) | (rw [in_step2 (show j9 < spS.length by omega) (by assumption)]; rfl)), rfl, trivial⟩ ⟨u299, (by omega)⟩
   refine c_same 28 (v := .bool false) rfl (congrArg Value.bool (by rw [List.take_of_length_le (show spS.length ≤ j9 by omega)]; exact decide_eq_false hmem)) (c_exit (hK295 _ _ (c_seq fun K307 hK307 => (c_region (t_move rfl rfl rfl (t_move rfl rfl rfl (t_cmp rfl rfl rfl rfl rfl (t_samehd (v := .bool false) rfl (t_neB Try.underlying4 rfl rfl rfl rfl (t_samehd (v := .bool false) (by first | rfl | decide) (t_move rfl rfl rfl (t_move rfl rfl rfl (t_cmp rfl rfl rfl rfl rfl (t_samehd (v := .bool true) rfl (t_move rfl rfl rfl (t_move rfl rfl rfl (t_cmp rfl rfl rfl rfl rfl (t_samehd (v := .bool false) rfl (t_pick_t rfl rfl rfl rfl (t_pick_f rfl rfl rfl rfl (t_nil' (hK307 _ _ (c_cond_f rfl ?_)))))))))))))))))))))))
   refine c_skip (hK245 _ _ (c_region (t_move rfl rfl rfl (t_ari rfl rfl rfl rfl rfl (by omega) (t_assign rfl rfl rfl (t_nil' ?_))))))
   exact hK238 (i9 + 1) _ _ (by omega) ⟨rfl, rfl, rfl, rfl, rfl, rfl, rfl, trivial⟩ ⟨((((((((u240.next u248 (fun _ _ h => h.elim)).next u255 (fun _ _ h => h.elim)).next u263 (fun _ _ h => h.elim)).next u272 (fun i hi (h : (i = gW251 ∧ w247.heap.size ≤ i)) => show w228.heap.size ≤ i by first | omega | assumption)).next u276 (fun _ _ h => h.elim)).next u283 (fun _ _ h => h.elim)).next u291 (fun _ _ h => h.elim)).next u299 (fun _ _ h => h.elim)), (by omega)⟩
  have zu291 := u291.size
  have hin9 : sfP (smR u) xs ((ss.map boardP).take i9 ++ (ss.map boardP).drop (i9 + 1)) = true := by have h9 := sf_iff.2 ⟨_, hplk286⟩; rwa [List.map_append, List.map_take, List.map_drop] at h9
  have hmem : (i9 : Int) ∈ spS := by rw [hspe]; exact mem_spG.2 ⟨by omega, hin9⟩
  refine s_next ((Upd.refl _ _).nx u291) (y_move rfl rfl rfl (y_extract rfl rfl rfl rfl (y_extract rfl rfl rfl rfl (y_extract rfl rfl rfl rfl (y_assign rfl rfl rfl (y_assign rfl rfl rfl (y_assign rfl rfl rfl (s_nil (hK274 _ _ (c_seq fun K309 hK309 => (c_region (t_assign rfl rfl rfl (t_nil' (hK309 _ _ (c_seq fun K310 hK310 => (c_seq fun K311 hK311 => (c_region (t_assign rfl rfl rfl (t_nil' (hK311 _ _ (c_block (c_loop (γ := Nat) (fun j9 => [(2, .int .u8 q9), (4, .pointer (some ⟨bk7, 0, none⟩)), (7, .pointer (some ⟨bk19, 0, none⟩)), (8, .slice ah hs.length ch), (9, .slice ax xs.length cx), (15, .slice aoP spS.length cpP), (23, .int .i64 (i9 : Int)), (27, .int .i64 0), (28, .bool (decide ((i9 : Int) ∈ spS.take j9))), (29, .int .i64 (j9 : Int))]) (fun j9 w => Upd (fun _ => False) w290 w ∧ (j9 ≤ spS.length)) (fun j9 => spS.length - j9) 0 ⟨rfl, rfl, rfl, rfl, rfl, rfl, rfl, rfl, (by first | rfl | (rw [in_step1 (show j9 < spS.length by omega) (by assumption)]; rfl) | (rw [in_step2 (show j9 < spS.length by omega) (by assumption)]; rfl)), rfl, trivial⟩ ⟨Upd.refl _ _, (Nat.zero_le _)⟩ ?_))))))))))))))))))))))
  intro j9 w313 hW K312 hK312
  obtain ⟨u314, I315⟩ := hW
  have zu314 := u314.size
  have hj9 := I315; clear I315
  refine c_seq fun K317 hK317 => (c_seq fun K318 hK318 => (c_region (t_move rfl rfl rfl (t_move rfl rfl rfl (t_len Try.underlying75 rfl rfl rfl rfl (t_cmp rfl rfl rfl rfl rfl (t_nil' (hK318 _ _ (c_condp rfl (fun g235 => ?_) (fun g235 => ?_))))))))))
  ·
   refine c_skip (hK317 _ _ (c_seq fun K319 hK319 => (c_block (c_region (t_move rfl rfl rfl (t_move rfl rfl rfl (t_split 239 rfl (fun g239 => ?_) (fun g239 => ?_))))))))
   ·
    refine t_skip rfl rfl rfl (t_skip rfl rfl rfl (t_skip rfl rfl rfl (t_skip rfl rfl rfl (t_skip rfl rfl rfl (t_skip rfl rfl rfl (t_pick_t rfl rfl rfl rfl (t_assign rfl rfl rfl (t_nil' (hK319 _ _ (c_region (t_move rfl rfl rfl (t_ari rfl rfl rfl rfl rfl (by omega) (t_assign rfl rfl rfl (t_nil' ?_))))))))))))))
    exact hK312 (j9 + 1) _ _ (by omega) ⟨rfl, rfl, rfl, rfl, rfl, rfl, rfl, rfl, (by first | rfl | (rw [in_step1 (show j9 < spS.length by omega) (by assumption)]; rfl) | (rw [in_step2 (show j9 < spS.length by omega) (by assumption)]; rfl)), rfl, trivial⟩ ⟨u314, (by omega)⟩
   refine t_move rfl rfl rfl (t_move rfl rfl rfl ?_)
   have D320 := (((((((((hSp.keep u240 (fun hp => by have h9 := hSp.lt hp; show ¬ (w228.heap.size ≤ gP); omega)).keep u248 (fun _ h => h)).keep u255 (fun _ h => h)).keep u263 (fun _ h => h)).keep u272 (fun hp => by have h9 := hSp.lt hp; show ¬ ((gP = gW251 ∧ w247.heap.size ≤ gP)); omega)).keep u276 (fun _ h => h)).keep u283 (fun _ h => h)).keep u291 (fun _ h => h)).keep u314 (fun _ h => h))
   have i321 : j9 < spS.length := (by omega)
   refine t_index (j := j9) Try.underlying75 Try.sizeOf3 rfl rfl rfl rfl (D320.addr (by omega)) rfl i321 (t_load Try.isAgg3 rfl rfl rfl ((D320.at_ j9 (by omega)) 0 _ rfl) (t_move rfl rfl rfl (t_cmp rfl rfl rfl rfl rfl (t_pick_f rfl rfl rfl rfl (t_assign rfl rfl rfl (t_nil' (hK319 _ _ (c_region (t_move rfl rfl rfl (t_ari rfl rfl rfl rfl rfl (by omega) (t_assign rfl rfl rfl (t_nil' ?_))))))))))))
   exact hK312 (j9 + 1) _ _ (by omega) ⟨rfl, rfl, rfl, rfl, rfl, rfl, rfl, rfl, (by first | rfl | (rw [in_step1 (show j9 < spS.length by omega) (by assumption)]; rfl) | (rw [in_step2 (show j9 < spS.length by omega) (by assumption)]; rfl)), rfl, trivial⟩ ⟨u314, (by omega)⟩
  refine c_same 28 (v := .bool true) rfl (congrArg Value.bool (by rw [List.take_of_length_le (show spS.length ≤ j9 by omega)]; exact decide_eq_true hmem)) (c_exit (hK310 _ _ (c_seq fun K322 hK322 => (c_region (t_move rfl rfl rfl (t_move rfl rfl rfl (t_cmp rfl rfl rfl rfl rfl (t_samehd (v := .bool true) rfl (t_neB Try.underlying4 rfl rfl rfl rfl (t_samehd (v := .bool false) (by first | rfl | decide) (t_move rfl rfl rfl (t_move rfl rfl rfl (t_cmp rfl rfl rfl rfl rfl (t_samehd (v := .bool false) rfl (t_move rfl rfl rfl (t_skip rfl rfl rfl (t_skip rfl rfl rfl (t_pick_f rfl rfl rfl rfl (t_pick_f rfl rfl rfl rfl (t_nil' (hK322 _ _ (c_cond_f rfl (c_skip ?_)))))))))))))))))))))))
  refine hK245 _ _ (c_region (t_move rfl rfl rfl (t_ari rfl rfl rfl rfl rfl (by omega) (t_assign rfl rfl rfl (t_nil' ?_)))))
  exact hK238 (i9 + 1) _ _ (by omega) ⟨rfl, rfl, rfl, rfl, rfl, rfl, rfl, trivial⟩ ⟨((((((((u240.next u248 (fun _ _ h => h.elim)).next u255 (fun _ _ h => h.elim)).next u263 (fun _ _ h => h.elim)).next u272 (fun i hi (h : (i = gW251 ∧ w247.heap.size ≤ i)) => show w228.heap.size ≤ i by first | omega | assumption)).next u276 (fun _ _ h => h.elim)).next u283 (fun _ _ h => h.elim)).next u291 (fun _ _ h => h.elim)).next u314 (fun _ _ h => h.elim)), (by omega)⟩
 refine c_exit (hK236 _ _ (c_seq fun K323 hK323 => (c_region ?_)))
 have B324 := ((((((((((((((((B9.kx u16).kx u22).keep u25 (by omega)).kx u30).kx u38).kx u45).kx u51).kx u56).kx u64).kx u71).kx u78).kx u208).kx u216).kx u223).kx u229).keep u240 (show ¬ (w228.heap.size ≤ bk7) by first | omega | assumption))
 refine t_loadN (vs := [.int .u8 v.a, .int .u8 v.b, .int .u8 v.c, .int .u8 v.d, .int .u8 v.e]) Try.isAgg22 Try.sizeOf22 rfl rfl rfl (B324.at.sub 0 5) rfl (t_bslice (ps := [(0, .agg #[.int .u8 v.a, .int .u8 v.b, .int .u8 v.c, .int .u8 v.d, .int .u8 v.e])]) (cs := [.int .u8 v.a, .int .u8 v.b, .int .u8 v.c, .int .u8 v.d, .int .u8 v.e]) (e := 22) rfl rfl ⟨rfl, rfl⟩ (fun w => by kernel_rfl) (fun bk325 w326 ebk325 sbk325 B327 u328 => ?_))
 have zu328 := u328.size
 refine t_build (ps := [(1, .slice (some ⟨bk325, 0, none⟩) 1 1)]) (v := .agg #[.int .u8 0, .int .u8 0, .int .u8 0, .int .u8 0, .int .u8 0, .slice (some ⟨bk325, 0, none⟩) 1 1, .slice none 0 0]) rfl rfl ⟨rfl, rfl⟩ (fun w => by kernel_rfl) (t_alloc (cs := [.int .u8 0, .int .u8 0, .int .u8 0, .int .u8 0, .int .u8 0, .slice none 0 0, .slice none 0 0]) Try.zeroValue61 rfl rfl rfl (fun bk330 w331 ebk330 sbk330 B332 u333 => ?_))
 have zu333 := u333.size
 refine t_st (vs := [.int .u8 0, .int .u8 0, .int .u8 0, .int .u8 0, .int .u8 0, .slice (some ⟨bk325, 0, none⟩) 1 1, .slice none 0 0]) Try.sizeOf61 rfl rfl rfl B332 rfl rfl rfl rfl (fun w335 sw335 B337 u336 => ?_)
 have zu336 := u336.size
 have B337 : Blk w335 bk330 61 [.int .u8 0, .int .u8 0, .int .u8 0, .int .u8 0, .int .u8 0, .slice (some ⟨bk325, 0, none⟩) 1 1, .slice none 0 0] := B337
 refine t_nil' (hK323 _ _ (c_seq fun K339 hK339 => (c_region (t_loadN (vs := [.int .u8 0, .int .u8 0, .int .u8 0, .int .u8 0, .int .u8 0, .slice (some ⟨bk325, 0, none⟩) 1 1, .slice none 0 0]) Try.isAgg61 Try.sizeOf61 rfl rfl rfl (B337.at.sub 0 7) rfl ?_))))
 have B340 := ((B327.kx u333).keep u336 (by omega))
 refine t_call own17 rfl rfl rfl rfl (team_c ⟨0, 0, 0, 0, 0⟩ [v] (some ⟨bk325, 0, none⟩) bk325 0 1 [] none 0 0 0 1 0 _ (by unfold okU5; decide) (Sl.ofBlk (enc := encU5) (fun _ => rfl) B340) (by show 1 ≤ 9223372036854775807; decide) (fun x hx => by rw [List.mem_singleton.1 hx]; exact hv) (Sl.nil _ _ _ _ _ _) (by decide) (fun x hx => by cases hx) (by decide) (by decide) (by omega)) (fun v341 w342 r344 => ?_)
 obtain ⟨⟨ah2, gh2, ch2, hs2, ax2, gx2, cx2, xs2, rfl, hah2, hhm2, hhc2, _, _⟩, u343⟩ := r344
 have zu343 := u343.size
 have lt_gh2 := hah2.lt
 have hhm3 : hs2.map HS.slr = [slV v] := hhm2
 have hl2 : hs2.length = 1 := by have := congrArg List.length hhm3; simpa using this
 have hsM2 := SlrsM.of hhc2
 refine t_move rfl rfl rfl (t_extract rfl rfl rfl rfl (t_extract rfl rfl rfl rfl (t_extract rfl rfl rfl rfl (t_alloc (cs := [.int .i64 0, .int .i64 0, .int .i64 0, .int .i64 0, .int .i64 0]) Try.zeroValue28 rfl rfl rfl (fun bk346 w347 ebk346 sbk346 B348 u349 => ?_)))))
 have zu349 := u349.size
 refine t_st (vs := [.int .i64 ((smR ⟨0, 0, 0, 0, 0⟩).rest), .int .i64 ((smR ⟨0, 0, 0, 0, 0⟩).span), .int .i64 ((smR ⟨0, 0, 0, 0, 0⟩).work), .int .i64 ((smR ⟨0, 0, 0, 0, 0⟩).week), .int .i64 ((smR ⟨0, 0, 0, 0, 0⟩).ww)]) Try.sizeOf28 rfl rfl rfl B348 rfl rfl rfl rfl (fun w351 sw351 B353 u352 => ?_)
 have zu352 := u352.size
 refine t_assign rfl rfl rfl (t_assign rfl rfl rfl (t_nil' (hK339 _ _ (c_seq fun K355 hK355 => (c_drawnM follows (fun _ => False) (.look 0 (.look 1 (.look 3 (.look 5 (.act 2 (.act 4 (.act 6 (.act 7 (.look 8 (.look 9 (.look 10 (.look 11 (.look 12 .done))))) .stop) .stop) .stop) .stop))))) (by kernel_rfl) fun w356 u357 => ?_)))))
 have zu357 := u357.size
 have B359 := ((((((((((((((((((((B26.kx u30).kx u38).kx u45).kx u51).kx u56).kx u64).kx u71).kx u78).kx u208).kx u216).kx u223).kx u229).keep u240 (show ¬ (w228.heap.size ≤ bk19) by first | omega | assumption)).kx u328).kx u333).keep u336 (by omega)).kx u343).kx u349).keep u352 (by omega)).kx u357)
 refine y_loadN (vs := [.int .i64 ((smR u).rest), .int .i64 ((smR u).span), .int .i64 ((smR u).work), .int .i64 ((smR u).week), .int .i64 ((smR u).ww)]) Try.isAgg28 Try.sizeOf28 rfl rfl rfl (B359.at.sub 0 5) rfl (fun h => h) (y_move rfl rfl rfl (y_move rfl rfl rfl (y_move rfl rfl rfl (s_do ?_))))
 have D360 := (((((((((((D211.keep u216 (fun _ h => h)).keep u223 (fun _ h => h)).keep u229 (fun _ h => h)).keep u240 (fun hb => show ¬ (w228.heap.size ≤ gh) by first | omega | assumption)).keep u328 (fun _ h => h)).keep u333 (fun _ h => h)).keep u336 (fun hb => show ¬ (gh = bk330) by first | omega | assumption)).keep u343 (fun _ h => h)).keep u349 (fun _ h => h)).keep u352 (fun hb => show ¬ (gh = bk346) by first | omega | assumption)).keep u357 (fun _ h => h))
 have D362 := (((((((((((D213.keep u216 (fun i hi h => h)).keep u223 (fun i hi h => h)).keep u229 (fun i hi h => h)).keep u240 (fun i hi => show ¬ (w228.heap.size ≤ i) by omega)).keep u328 (fun i hi h => h)).keep u333 (fun i hi h => h)).keep u336 (fun i hi => show ¬ (i = bk330) by omega)).keep u343 (fun i hi h => h)).keep u349 (fun i hi h => h)).keep u352 (fun i hi => show ¬ (i = bk346) by omega)).keep u357 (fun i hi h => h))
 refine t_call own19 rfl rfl rfl rfl (sailors_c hs ah gh 0 ch _ (D360.sl (fun _ => rfl)) (by omega) (fun h hh => (D362 h hh).1) (by omega)) (fun v363 w364 r366 => ?_)
 obtain ⟨⟨aoW361, gW361, cW361, oW361, rfl, haW361, hmW361, hsW361⟩, u365⟩ := r366
 have zu365 := u365.size
 have lt_gW361 := haW361.lt
 have hlW361 : oW361.length = hs.length := by have := congrArg List.length hmW361; simpa using this
 refine s_next ((Upd.refl _ _).nx u365) (s_do ?_)
 have hAa := haW361
 have hsAp := fun (h : HS) (hh : h ∈ oW361) => (hsW361 h hh).ext (Upd.refl (fun _ => False) _)
 have D368 := ((((hsM2.keep u349 (fun i hi h => h)).keep u352 (fun i hi => show ¬ (i = bk346) by omega)).keep u357 (fun i hi h => h)).keep u365 (fun i hi h => h))
 have hsBp := D368
 have h000 := hr
 have D369 := ((((hah2.keep u349 (fun _ h => h)).keep u352 (fun hb => show ¬ (gh2 = bk346) by first | omega | assumption)).keep u357 (fun _ h => h)).keep u365 (fun _ h => h))
 refine t_appendAll (enc := encHS) (z := .agg #[.int .i64 0, .int .i64 0, .slice none 0 0, .slice none 0 0]) (bytes := 64) (k := 4) (base := w356.heap.size) (xs := oW361) (ys := hs2) Try.underlying62 (by kernel_rfl) rfl (by decide) (fun _ => rfl) (by intro x; simp [encHS, Value.oneCell']) rfl rfl rfl rfl haW361 (D369.sl (fun _ => rfl)) (by omega) (by omega) (by omega) (by decide) (fun ao370 gb371 cp372 w373 A374 u375 gegb371 lngb371 => ?_)
 have zu375 := u375.size
 have lt_gb371 := A374.lt
 have hsAB : ∀ h ∈ oW361 ++ hs2, SlrM w373 h := fun h hh => (List.mem_append.1 hh).elim (fun q => ((hsAp h q).upd u375 (fun _ cs hB => hAa.notBlk hB (by decide)) (fun _ cs hB => hAa.notBlk hB (by decide))).slrM) (fun q => ((hsBp.keep u375 (fun i hi => show ¬ ((i = gW361 ∧ w356.heap.size ≤ i)) by omega)) h q).1)
 refine s_next ((Upd.refl _ _).next u375 (fun i hi (h : (i = gW361 ∧ w356.heap.size ≤ i)) => show w356.heap.size ≤ i ∨ (False) by first | omega | exact .inr h)) (s_do ?_)
 have D378 := ((((((((((((D220.keep u223 (fun _ h => h)).keep u229 (fun _ h => h)).keep u240 (fun hb => show ¬ (w228.heap.size ≤ gx) by first | omega | assumption)).keep u328 (fun _ h => h)).keep u333 (fun _ h => h)).keep u336 (fun hb => show ¬ (gx = bk330) by first | omega | assumption)).keep u343 (fun _ h => h)).keep u349 (fun _ h => h)).keep u352 (fun hb => show ¬ (gx = bk346) by first | omega | assumption)).keep u357 (fun _ h => h)).keep u365 (fun _ h => h)).keep u375 (fun hb => show ¬ ((gx = gW361 ∧ w356.heap.size ≤ gx)) by first | omega | assumption))
 refine t_call own20 rfl rfl rfl rfl (legs_c xs ax gx 0 cx _ (D378.sl (fun _ => rfl)) (by omega) (by omega)) (fun v379 w380 r382 => ?_)
 obtain ⟨⟨aoG377, gG377, cG377, rfl, haG377⟩, u381⟩ := r382
 have zu381 := u381.size
 have lt_gG377 := haG377.lt
 have hcapG377 := haG377.cap_le
 refine s_next ((Upd.refl _ _).nx u381) (s_do ?_)
 have D384 := (fun h hh => (hsAB h hh).ext u381)
 have hssB : (oW361 ++ hs2).map HS.slr = (ss ++ [slV v]) := by rw [List.map_append, hmW361, hse, hhm3]
 have hoEB : openE (smR u) (ss ++ [slV v]) xs = 0 := openE_of hr (by rw [List.length_append, List.length_singleton]; omega) (fun s h => (List.mem_append.1 h).elim (hos s) (fun q => by rw [List.mem_singleton.1 q]; exact slV_ok hv)) (by omega) hox
 have hFeB : Fe (smR u) xs ((ss ++ [slV v]).map boardP) := by rw [List.map_append]; exact Fe_ez hr (Ez.refl xs) (Dom.board hos _) hox hFe
 have D386 := (A374.keep u381 (fun _ h => h))
 refine t_call own18 rfl rfl rfl rfl ((Plan_v (smR u) (oW361 ++ hs2) ao370 gb371 0 cp372 xs aoG377 gG377 0 cG377 (ss ++ [slV v]) _ hssB (D386.sl (fun _ => rfl)) D384 (haG377.sl (fun _ => rfl)) (by omega) hoEB (by omega)).mono fun v9 w9 h9 => h9.resolve_left (fun h8 => by obtain ⟨_, _, _, _, _, h7, _⟩ := h8; exact absurd hFeB (asg_iff.1 h7))) (fun v387 w388 r390 => ?_)
 obtain ⟨apk385, gpk385, cpk385, rwk385, pk385, rfl, _, _, _, u389⟩ := r390
 have zu389 := u389.size
 have E391 := ((((((((((((((((E73.nx u78).nx u208).nx u216).nx u223).nx u229).next u240 (fun i hi (h : w228.heap.size ≤ i) => show False by first | omega | assumption)).nx u328).nx u333).next u336 (fun i hi h => by omega)).nx u343).nx u349).next u352 (fun i hi h => by omega)).nx u357).nx u365).next u375 (fun i hi h => by omega)).nx u381).nx u389
 refine s_next ((Upd.refl _ _).nx u389) (y_move rfl rfl rfl (y_extract rfl rfl rfl rfl (y_extract rfl rfl rfl rfl (y_extract rfl rfl rfl rfl (y_assign rfl rfl rfl (s_nil (hK355 _ _ (c_seq fun K392 hK392 => (c_seq fun K393 hK393 => (c_region (t_move rfl rfl rfl (t_cmp rfl rfl rfl rfl rfl (t_samehd (v := .bool false) rfl (t_nil' (hK393 _ _ (c_cond_f rfl (c_skip (hK392 _ _ (c_seq fun K394 hK394 => (c_seq fun K395 hK395 => (c_region (t_move rfl rfl rfl (t_len Try.underlying63 rfl rfl rfl rfl ?_)))))))))))))))))))))))
 refine t_cmp rfl rfl rfl rfl rfl (t_nil' (hK395 _ _ (c_condp rfl (fun g284 => ?_) (fun g284 => ?_))))
 ·
  refine c_seq fun K396 hK396 => (c_region (t_call own13 rfl rfl rfl rfl (known_c _) (fun v397 w398 r400 => ?_)))
  obtain ⟨rfl, u399⟩ := r400
  have zu399 := u399.size
  refine t_assign rfl rfl rfl (t_nil' (hK396 _ _ (c_ret (f_ret1 (v := .bool true) Try.results7 rfl ?_))))
  exact ⟨rfl, (E391.nx u399)⟩
 obtain ⟨j, hj⟩ : ∃ j : Nat, (q9 % (xs.length : Int)) = (j : Int) ∧ j < xs.length := ⟨(q9 % (xs.length : Int)).toNat, by have := Int.emod_nonneg q9 (show (xs.length : Int) ≠ 0 by omega); omega, by have h1 := Int.emod_nonneg q9 (show (xs.length : Int) ≠ 0 by omega); have h2 := Int.emod_lt_of_pos q9 (show (0 : Int) < xs.length by omega); omega⟩
 refine c_skip (hK394 _ _ (c_seq fun K402 hK402 => (c_region (t_move rfl rfl rfl ?_))))
 have D404 := ((D378.keep u381 (fun _ h => h)).keep u389 (fun _ h => h))
 refine t_call own20 rfl rfl rfl rfl (legs_c xs ax gx 0 cx _ (D404.sl (fun _ => rfl)) (by omega) (by omega)) (fun v405 w406 r408 => ?_)
 obtain ⟨⟨aoG403, gG403, cG403, rfl, haG403⟩, u407⟩ := r408
 have zu407 := u407.size
 have lt_gG403 := haG403.lt
 have hcapG403 := haG403.cap_le
 refine t_assign rfl rfl rfl (t_nil' (hK402 _ _ (c_seq fun K410 hK410 => (c_region (t_move rfl rfl rfl (t_conv Try.underlying5 Try.underlying3 rfl rfl rfl (IntWalk.i64_in _ (by omega)) (t_move rfl rfl rfl (t_len Try.underlying63 rfl rfl rfl rfl (t_rem rfl rfl rfl rfl (by omega) (by omega) (t_same 292 (v := .int .i64 (j : Int)) rfl (congrArg (Value.int .i64) hj.1) (t_assign rfl rfl rfl (t_nil' (hK410 _ _ (c_seq fun K411 hK411 => (c_region (t_move rfl rfl rfl (t_move rfl rfl rfl ?_)))))))))))))))))
 have i412 : j < xs.length := (by omega)
 refine t_index (j := j) Try.underlying63 Try.sizeOf77 rfl rfl rfl rfl ((haG403.sl (fun _ => rfl)).addr (by omega)) rfl i412 (t_field Try.underlying77 rfl Try.sizeOf3 (0 + j * 7 + 6) rfl rfl rfl rfl ?_)
 have hge9 := (haG403).geN (show xs ≠ [] from fun h => by have := hj.2; rw [h] at this; exact absurd this (Nat.not_lt_zero _))
 have h000 := hr
 refine t_storeA (vs := [.int .i64 0]) (j := j) (o' := 6) (k := 7) (⟨(nth xs j).r, (nth xs j).t, (nth xs j).h, 0⟩ : Leg) (fun _ => rfl) Try.sizeOf3 rfl rfl (by omega) rfl haG403 (by first | omega | (simp only [List.length_set, eRuns_len]; omega)) rfl rfl (by decide) (by simp [Value.oneCell']) rfl (fun w413 R415 u414 => ?_)
 have zu414 := u414.size
 obtain ⟨xA, hxA⟩ : ∃ y, y = (xs.set j (⟨(nth xs j).r, (nth xs j).t, (nth xs j).h, 0⟩ : Leg)) := ⟨_, rfl⟩
 have hwxA := R415
 rw [← hxA] at hwxA
 have lxA : xA.length = xs.length := by rw [hxA, List.length_set]
 have lt_gG403 := hwxA.lt
 refine t_nil' (hK411 _ _ (c_seq fun K417 hK417 => (c_region (t_move rfl rfl rfl (t_move rfl rfl rfl ?_)))))
 have i418 : j < xA.length := (by omega)
 refine t_index (j := j) Try.underlying63 Try.sizeOf77 rfl rfl rfl rfl ((hwxA.sl (fun _ => rfl)).addr (by omega)) rfl (by omega) (t_field Try.underlying77 rfl Try.sizeOf3 (0 + j * 7 + 5) rfl rfl rfl rfl (t_storeA (vs := [.int .i64 1]) (j := j) (o' := 5) (k := 7) (⟨(nth xA j).r, (nth xA j).t, 1, (nth xA j).p⟩ : Leg) (fun _ => rfl) Try.sizeOf3 rfl rfl (by omega) rfl hwxA (by first | omega | (simp only [List.length_set, eRuns_len]; omega)) rfl rfl (by decide) (by simp [Value.oneCell']) rfl (fun w419 R421 u420 => ?_)))
 have zu420 := u420.size
 obtain ⟨xB, hxB⟩ : ∃ y, y = (xA.set j (⟨(nth xA j).r, (nth xA j).t, 1, (nth xA j).p⟩ : Leg)) := ⟨_, rfl⟩
 have hwxB := R421
 rw [← hxB] at hwxB
 have lxB : xB.length = xs.length := by rw [hxB, List.length_set]; exact lxA
 have lt_gG403 := hwxB.lt
 have hxAj : nth xA j = ⟨(nth xs j).r, (nth xs j).t, (nth xs j).h, 0⟩ := by rw [hxA, nth_set' hj.2, if_pos rfl]
 have hxBe : xB = xs.set j ⟨(nth xs j).r, (nth xs j).t, 1, 0⟩ := by rw [hxB, hxAj, hxA, List.set_set]
 have hoxB : ∀ x ∈ xB, okLeg x = true := fun x hx9 => by
   rw [hxBe] at hx9
   rcases List.mem_or_eq_of_mem_set hx9 with q | q
   · exact hox x q
   · rw [q]; exact okLeg_ease (hox _ (nth_mem hj.2))
 have hoEC : openE (smR u) ss xB = 0 := openE_of hr (by omega) hos (by omega) hoxB
 have hFeC : Fe (smR u) xB (ss.map boardP) := by rw [hxBe]; exact Fe_ez hr (Ez_set hj.2) (Dom.self hos) hox hFe
 refine t_nil' (hK417 _ _ (c_seq fun K423 hK423 => (c_drawnM follows (fun _ => False) (.look 0 (.look 1 (.look 3 (.act 2 (.act 4 (.look 5 (.look 6 (.look 7 (.look 8 (.look 9 .done))))) .stop) .stop)))) (by kernel_rfl) fun w424 u425 => ?_)))
 have zu425 := u425.size
 have B427 := ((((((((((((((((((((((((((((B26.kx u30).kx u38).kx u45).kx u51).kx u56).kx u64).kx u71).kx u78).kx u208).kx u216).kx u223).kx u229).keep u240 (show ¬ (w228.heap.size ≤ bk19) by first | omega | assumption)).kx u328).kx u333).keep u336 (by omega)).kx u343).kx u349).keep u352 (by omega)).kx u357).kx u365).keep u375 (by omega)).kx u381).kx u389).kx u407).keep u414 (by omega)).keep u420 (by omega)).kx u425)
 refine y_loadN (vs := [.int .i64 ((smR u).rest), .int .i64 ((smR u).span), .int .i64 ((smR u).work), .int .i64 ((smR u).week), .int .i64 ((smR u).ww)]) Try.isAgg28 Try.sizeOf28 rfl rfl rfl (B427.at.sub 0 5) rfl (fun h => h) (y_move rfl rfl rfl (y_move rfl rfl rfl (y_same 305 (v := .slice aoG403 xB.length cG403) rfl (by rw [lxB]) (s_do ?_))))
 have D428 := ((((((((D360.keep u365 (fun _ h => h)).keep u375 (fun hb => show ¬ ((gh = gW361 ∧ w356.heap.size ≤ gh)) by first | omega | assumption)).keep u381 (fun _ h => h)).keep u389 (fun _ h => h)).keep u407 (fun _ h => h)).keep u414 (fun hb => show ¬ (gh = gG403) by first | omega | assumption)).keep u420 (fun hb => show ¬ (gh = gG403) by first | omega | assumption)).keep u425 (fun _ h => h))
 have D430 := ((((((((D362.keep u365 (fun i hi h => h)).keep u375 (fun i hi => show ¬ ((i = gW361 ∧ w356.heap.size ≤ i)) by omega)).keep u381 (fun i hi h => h)).keep u389 (fun i hi h => h)).keep u407 (fun i hi h => h)).keep u414 (fun i hi => show ¬ (i = gG403) by omega)).keep u420 (fun i hi => show ¬ (i = gG403) by omega)).keep u425 (fun i hi h => h))
 refine t_call own19 rfl rfl rfl rfl (sailors_c hs ah gh 0 ch _ (D428.sl (fun _ => rfl)) (by omega) (fun h hh => (D430 h hh).1) (by omega)) (fun v431 w432 r434 => ?_)
 obtain ⟨⟨aoW429, gW429, cW429, oW429, rfl, haW429, hmW429, hsW429⟩, u433⟩ := r434
 have zu433 := u433.size
 have lt_gW429 := haW429.lt
 have hlW429 : oW429.length = hs.length := by have := congrArg List.length hmW429; simpa using this
 refine s_next ((Upd.refl _ _).nx u433) (s_do ?_)
 have D436 := ((hwxB.keep u425 (fun _ h => h)).keep u433 (fun _ h => h))
 refine t_call own18 rfl rfl rfl rfl ((Plan_v (smR u) oW429 aoW429 gW429 0 cW429 xB aoG403 gG403 0 cG403 ss _ (hmW429.trans hse.symm) (haW429.sl (fun _ => rfl)) (fun h hh => ((hsW429 h hh).ext (Upd.refl (fun _ => False) _)).slrM) (D436.sl (fun _ => rfl)) (by omega) hoEC (by omega)).mono fun v9 w9 h9 => h9.resolve_left (fun h8 => by obtain ⟨_, _, _, _, _, h7, _⟩ := h8; exact absurd hFeC (asg_iff.1 h7))) (fun v438 w439 r441 => ?_)
 obtain ⟨apk437, gpk437, cpk437, rwk437, pk437, rfl, _, _, _, u440⟩ := r441
 have zu440 := u440.size
 refine s_next ((Upd.refl _ _).nx u440) (y_move rfl rfl rfl (y_extract rfl rfl rfl rfl (y_extract rfl rfl rfl rfl (y_extract rfl rfl rfl rfl (y_assign rfl rfl rfl (s_nil (hK423 _ _ (c_seq fun K443 hK443 => (c_region (t_move rfl rfl rfl (t_cmp rfl rfl rfl rfl rfl (t_samehd (v := .bool true) rfl (t_move rfl rfl rfl (t_call own13 rfl rfl rfl rfl (known_c _) (fun v444 w445 r447 => ?_)))))))))))))))
 obtain ⟨rfl, u446⟩ := r447
 have zu446 := u446.size
 refine t_pick_t rfl rfl rfl rfl (t_assign rfl rfl rfl (t_nil' (hK443 _ _ (c_ret (f_ret1 (v := .bool true) Try.results7 rfl ?_)))))
 exact ⟨rfl, (((((((E391.nx u407).next u414 (fun i hi h => by omega)).next u420 (fun i hi h => by omega)).nx u425).nx u433).nx u440).nx u446)⟩

end Go.Proofs.Ytagmodjadmecdaa
