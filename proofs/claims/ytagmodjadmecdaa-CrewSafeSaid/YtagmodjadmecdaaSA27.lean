/-
  All rests are kept. Conditions: none.
-/
import Derived.Test.YtagmodjadmecdaaSA26
import Derived.Test.YtagmodjadmecdaaSA20
namespace Go.Proofs.Ytagmodjadmecdaa
open Go Go.RowKit

theorem nth_snL {α : Type} [Inhabited α] {xs : List α} {x : α} {j : Nat} (h : j < xs.length) : nth (xs ++ [x]) j = nth xs j := by simp [nth, List.getD_eq_getElem?_getD, List.getElem?_append_left h]
theorem nth_snE {α : Type} [Inhabited α] {xs : List α} {x : α} {j : Nat} (h : j = xs.length) : nth (xs ++ [x]) j = x := by subst h; simp [nth, List.getD_eq_getElem?_getD]
theorem castL_rev (l : List Nat) : (castL l).reverse = castL l.reverse := by unfold castL; rw [List.map_reverse]
theorem rows_in {r : Rul} {xs : List Leg} {ms : List Mb} {p : List (List Nat)} (h : planOk r xs ms p) {q : List (List Int)} (hq : ∀ l ∈ q, ∃ ns ∈ p, ∀ i ∈ l, i ∈ castL ns) : ∀ l ∈ q, ∀ i ∈ l, 0 ≤ i ∧ i < (ms.length : Int) := fun l hl i hi => by
  obtain ⟨ns, hns, h1⟩ := hq l hl
  obtain ⟨a, ha, e⟩ := List.getElem_of_mem hns
  have ha2 : a < xs.length := by rw [← planOk_len h]; exact ha
  obtain ⟨h2, _, h3⟩ := stg_at h ha2
  rw [nth_eq ha, e] at h2
  obtain ⟨j, hj, rfl⟩ := List.mem_map.1 (h1 i hi)
  have := h2.asc.mem hj
  omega
theorem rev_rows {tr : List HL} {p : List (List Nat)} (hl : tr.length = p.length) (h : ∀ j, j < p.length → (nth tr j).xs = (castL (nth p j)).reverse) : tr.map HL.xs = (p.map List.reverse).map castL := by
  refine ext_nth (by simp [hl]) fun i hi => ?_
  rw [List.length_map] at hi
  rw [nth_map2 _ hi, nth_map2 _ (by rw [List.length_map]; omega), nth_map2 _ (by omega), h i (by omega), castL_rev]
set_option maxHeartbeats 8000000 in
theorem CrewSafe_c (u : U5) (ms : List U5) (am : Option Addr) (bm om cm : Nat) (ls : List U5) (al : Option Addr) (bl ol cl : Nat) (q9 : Int) (w0 : World) (hu : okU5 u) (hm9 : Sl encU5 5 w0 am bm om ms) (hml : ms.length ≤ 9223372036854775807) (hms : ∀ x ∈ ms, okU5 x) (hl9 : Sl encU5 5 w0 al bl ol ls) (hll9 : ls.length ≤ 9223372036854775807) (hls : ∀ x ∈ ls, okU5 x) (hq9 : 0 ≤ q9 ∧ q9 ≤ 255) :
    CallsV Try.prog 6 [.agg #[.int .u8 u.a, .int .u8 u.b, .int .u8 u.c, .int .u8 u.d, .int .u8 u.e, .slice am ms.length cm, .slice al ls.length cl], .int .u8 q9] w0 (fun v w' => v = .bool true ∧ Ext w0 w') := by
 have hr := smR_ok hu
 refine f_enter (N := 382) Try.func6 rfl rfl rfl (c_seq fun K1 hK1 => (c_region (t_box (cs := [.int .u8 u.a, .int .u8 u.b, .int .u8 u.c, .int .u8 u.d, .int .u8 u.e, .slice am ms.length cm, .slice al ls.length cl]) rfl rfl rfl rfl (fun bk2 w3 ebk2 sbk2 B4 u5 => ?_))))
 have zu5 := u5.size
 have E6 := (Upd.refl (fun _ => False) w0).nx u5
 refine t_assign rfl rfl rfl (t_nil' (hK1 _ _ (c_seq fun K7 hK7 => (c_region (t_loadN (vs := [.int .u8 u.a, .int .u8 u.b, .int .u8 u.c, .int .u8 u.d, .int .u8 u.e, .slice am ms.length cm, .slice al ls.length cl]) Try.isAgg61 Try.sizeOf61 rfl rfl rfl (B4.at.sub 0 7) rfl (t_call own17 rfl rfl rfl rfl (team_c u ms am bm om cm ls al bl ol cl 5 5 _ hu (hm9.keep E6 (fun _ h => h)) hml hms (hl9.keep E6 (fun _ h => h)) hll9 hls (by decide) (by decide) (by omega)) (fun v8 w9 r11 => ?_)))))))
 obtain ⟨⟨ah, gh, ch, hs, ax, gx, cx, xs, rfl, hah, hhm, hhc, hax, hxe⟩, u10⟩ := r11
 have zu10 := u10.size
 have lt_gh := hah.lt
 have lt_gx := hax.lt
 have hsM := SlrsM.of hhc
 have hcapx := hax.cap_le
 obtain ⟨ss, hse⟩ : ∃ ss, ss = hs.map HS.slr := ⟨_, rfl⟩
 have hs5 : hs.length ≤ 5 := by have := congrArg List.length hhm; rw [List.length_map, List.length_map, List.length_take] at this; omega
 have hx5 : xs.length ≤ 5 := by rw [hxe, List.length_map, List.length_take]; omega
 have hssl : ss.length = hs.length := by rw [hse, List.length_map]
 have hos : ∀ s ∈ ss, okSlr s = true := fun s hs9 => by
   rw [hse, hhm] at hs9
   obtain ⟨v, hv, rfl⟩ := List.mem_map.1 hs9
   exact slV_ok (hms v (List.mem_of_mem_take hv))
 have hox : ∀ x ∈ xs, okLeg x = true := fun x hx9 => by
   rw [hxe] at hx9
   obtain ⟨v, hv, rfl⟩ := List.mem_map.1 hx9
   exact legV_ok (hls v (List.mem_of_mem_take hv))
 have hoE : ∀ n, openE (smR u) ss (xs.take n) = 0 := fun n => openE_of hr (by omega) hos (by rw [List.length_take]; omega) (fun x hx => hox x (List.mem_of_mem_take hx))
 have hoE0 : openE (smR u) ss xs = 0 := openE_of hr (by omega) hos (by omega) hox
 have hhh : ∀ x ∈ xs, 0 ≤ x.h := fun x hx => by have := (okLeg_ok (hox x hx)).2.1; omega
 refine t_move rfl rfl rfl (t_extract rfl rfl rfl rfl (t_extract rfl rfl rfl rfl (t_extract rfl rfl rfl rfl (t_alloc (cs := [.int .i64 0, .int .i64 0, .int .i64 0, .int .i64 0, .int .i64 0]) Try.zeroValue28 rfl rfl rfl (fun bk13 w14 ebk13 sbk13 B15 u16 => ?_)))))
 have zu16 := u16.size
 refine t_st (vs := [.int .i64 ((smR u).rest), .int .i64 ((smR u).span), .int .i64 ((smR u).work), .int .i64 ((smR u).week), .int .i64 ((smR u).ww)]) Try.sizeOf28 rfl rfl rfl B15 rfl rfl rfl rfl (fun w18 sw18 B20 u19 => ?_)
 have zu19 := u19.size
 have B20 : Blk w18 bk13 28 [.int .i64 ((smR u).rest), .int .i64 ((smR u).span), .int .i64 ((smR u).work), .int .i64 ((smR u).week), .int .i64 ((smR u).ww)] := B20
 refine t_assign rfl rfl rfl (t_assign rfl rfl rfl (t_nil' (hK7 _ _ (c_seq fun K22 hK22 => (c_drawnM follows (fun _ => False) (.look 0 (.look 1 (.look 3 (.act 2 (.act 4 (.act 5 (.look 6 (.look 7 (.look 8 (.look 9 (.look 10 (.look 11 (.look 12 .done))))))) .stop) .stop) .stop)))) (by kernel_rfl) fun w23 u24 => ?_)))))
 have zu24 := u24.size
 have B26 := (B20.kx u24)
 refine y_loadN (vs := [.int .i64 ((smR u).rest), .int .i64 ((smR u).span), .int .i64 ((smR u).work), .int .i64 ((smR u).week), .int .i64 ((smR u).ww)]) Try.isAgg28 Try.sizeOf28 rfl rfl rfl (B26.at.sub 0 5) rfl (fun h => h) (y_move rfl rfl rfl (y_move rfl rfl rfl (s_do ?_)))
 have D27 := (((hah.keep u16 (fun _ h => h)).keep u19 (fun hb => show ¬ (gh = bk13) by first | omega | assumption)).keep u24 (fun _ h => h))
 have D29 := (((hsM.keep u16 (fun i hi h => h)).keep u19 (fun i hi => show ¬ (i = bk13) by omega)).keep u24 (fun i hi h => h))
 refine t_call own19 rfl rfl rfl rfl (sailors_c hs ah gh 0 ch _ (D27.sl (fun _ => rfl)) (by omega) (fun h hh => (D29 h hh).1) (by omega)) (fun v30 w31 r33 => ?_)
 obtain ⟨⟨aoW28, gW28, cW28, oW28, rfl, haW28, hmW28, hsW28⟩, u32⟩ := r33
 have zu32 := u32.size
 have lt_gW28 := haW28.lt
 have hlW28 : oW28.length = hs.length := by have := congrArg List.length hmW28; simpa using this
 refine s_next ((Upd.refl _ _).nx u32) (s_do ?_)
 have D36 := ((((hax.keep u16 (fun _ h => h)).keep u19 (fun hb => show ¬ (gx = bk13) by first | omega | assumption)).keep u24 (fun _ h => h)).keep u32 (fun _ h => h))
 refine t_call own20 rfl rfl rfl rfl (legs_c xs ax gx 0 cx _ (D36.sl (fun _ => rfl)) (by omega) (by omega)) (fun v37 w38 r40 => ?_)
 obtain ⟨⟨aoG35, gG35, cG35, rfl, haG35⟩, u39⟩ := r40
 have zu39 := u39.size
 have E41 := (((((E6.nx u10).nx u16).next u19 (fun i hi h => by omega)).nx u24).nx u32).nx u39
 have lt_gG35 := haG35.lt
 have hcapG35 := haG35.cap_le
 refine s_next ((Upd.refl _ _).nx u39) (s_do ?_)
 have D42 := (haW28.keep u39 (fun _ h => h))
 refine t_call own18 rfl rfl rfl rfl (Plan_v (smR u) oW28 aoW28 gW28 0 cW28 xs aoG35 gG35 0 cG35 ss _ (hmW28.trans hse.symm) (D42.sl (fun _ => rfl)) (fun h hh => ((hsW28 h hh).ext ((Upd.refl (fun _ => False) _).nx u39)).slrM) (haG35.sl (fun _ => rfl)) (by omega) hoE0 (by omega)) (fun v43 w44 r46 => ?_)
 rcases r46 with ⟨apN, cpN, up, rfl, hup, hN, u45⟩ | ⟨apS, gp, cpS, rows, p, rfl, ⟨hpr, prM⟩, hpl, hpx, u45⟩
 ·
  have zu45 := u45.size
  obtain ⟨hu1, hu2, hu3, hu4⟩ := asg_at hN
  rw [← hup] at hu1 hu2 hu3 hu4
  refine s_next ((Upd.refl _ _).nx u45) (y_move rfl rfl rfl (y_extract rfl rfl rfl rfl (y_extract rfl rfl rfl rfl (y_extract rfl rfl rfl rfl (y_assign rfl rfl rfl (y_assign rfl rfl rfl (y_assign rfl rfl rfl (s_nil (hK22 _ _ (c_seq fun K48 hK48 => (c_seq fun K49 hK49 => (c_region (t_move rfl rfl rfl (t_cmp rfl rfl rfl rfl rfl (t_samehd (v := .bool true) rfl (t_nil' (hK49 _ _ (c_cond_t rfl (c_seq fun K50 hK50 => (c_seq fun K51 hK51 => (c_region (t_move rfl rfl rfl (t_cmp rfl rfl rfl rfl rfl ?_)))))))))))))))))))))))
  refine t_samehd (v := .bool false) rfl (t_move rfl rfl rfl (t_move rfl rfl rfl (t_len Try.underlying66 rfl rfl rfl rfl (t_cmp rfl rfl rfl rfl rfl (t_samehd (v := .bool false) rfl (t_pick_f rfl rfl rfl rfl (t_move rfl rfl rfl (t_move rfl rfl rfl (t_cmp rfl rfl rfl rfl rfl (t_same 63 (v := .bool false) rfl (congrArg Value.bool (decide_eq_false (by omega))) (t_pick_f rfl rfl rfl rfl (t_move rfl rfl rfl (t_move rfl rfl rfl (t_move rfl rfl rfl (t_len Try.underlying63 rfl rfl rfl rfl (t_cmp rfl rfl rfl rfl rfl (t_same 69 (v := .bool false) rfl (congrArg Value.bool (decide_eq_false (by omega))) (t_pick_f rfl rfl rfl rfl (t_nil' (hK51 _ _ (c_cond_f rfl (c_skip (hK50 _ _ ?_)))))))))))))))))))))))
  refine c_seq fun K52 hK52 => (c_drawnM follows (fun _ => False) (.look 0 (.look 1 (.look 3 (.look 4 (.look 5 (.act 2 (.act 6 (.act 7 (.look 8 (.look 9 (.look 10 (.look 11 (.look 12 (.look 13 (.look 14 .done))))))) .stop) .stop) .stop)))))) (by kernel_rfl) fun w53 u54 => ?_)
  have zu54 := u54.size
  have B56 := (((((B20.kx u24).kx u32).kx u39).kx u45).kx u54)
  refine y_loadN (vs := [.int .i64 ((smR u).rest), .int .i64 ((smR u).span), .int .i64 ((smR u).work), .int .i64 ((smR u).week), .int .i64 ((smR u).ww)]) Try.isAgg28 Try.sizeOf28 rfl rfl rfl (B56.at.sub 0 5) rfl (fun h => h) (y_move rfl rfl rfl (y_move rfl rfl rfl (y_move rfl rfl rfl (y_sliceTo (up) Try.underlying63 Try.sizeOf77 rfl rfl rfl rfl (by omega) (by omega) (y_same 77 (v := .slice (subAddr ax cx 0 7) ((xs.take up).length) cx) rfl (by rw [List.length_take, Nat.min_eq_left (by omega)]) (s_do ?_))))))
  have D57 := ((((D27.keep u32 (fun _ h => h)).keep u39 (fun _ h => h)).keep u45 (fun _ h => h)).keep u54 (fun _ h => h))
  have D59 := ((((D29.keep u32 (fun i hi h => h)).keep u39 (fun i hi h => h)).keep u45 (fun i hi h => h)).keep u54 (fun i hi h => h))
  refine t_call own19 rfl rfl rfl rfl (sailors_c hs ah gh 0 ch _ (D57.sl (fun _ => rfl)) (by omega) (fun h hh => (D59 h hh).1) (by omega)) (fun v60 w61 r63 => ?_)
  obtain ⟨⟨aoW58, gW58, cW58, oW58, rfl, haW58, hmW58, hsW58⟩, u62⟩ := r63
  have zu62 := u62.size
  have lt_gW58 := haW58.lt
  have hlW58 : oW58.length = hs.length := by have := congrArg List.length hmW58; simpa using this
  refine s_next ((Upd.refl _ _).nx u62) (s_do ?_)
  have D66 := ((((D36.keep u39 (fun _ h => h)).keep u45 (fun _ h => h)).keep u54 (fun _ h => h)).keep u62 (fun _ h => h))
  refine t_call own20 rfl rfl rfl rfl (legs_c (xs.take up) (subAddr ax cx 0 7) gx 0 cx _ (Sl.subTo (D66.sl (fun _ => rfl)) cx (up) hcapx) (by rw [List.length_take]; omega) (by omega)) (fun v67 w68 r70 => ?_)
  obtain ⟨⟨aoG65, gG65, cG65, rfl, haG65⟩, u69⟩ := r70
  have zu69 := u69.size
  have lt_gG65 := haG65.lt
  have hcapG65 := haG65.cap_le
  refine s_next ((Upd.refl _ _).nx u69) (s_do ?_)
  have D72 := (haW58.keep u69 (fun _ h => h))
  refine t_call own18 rfl rfl rfl rfl ((Plan_v (smR u) oW58 aoW58 gW58 0 cW58 (xs.take up) aoG65 gG65 0 cG65 ss _ (hmW58.trans hse.symm) (D72.sl (fun _ => rfl)) (fun h hh => ((hsW58 h hh).ext ((Upd.refl (fun _ => False) _).nx u69)).slrM) (haG65.sl (fun _ => rfl)) (by omega) (hoE up) (by omega)).mono fun v w9 h9 => h9.resolve_left (fun h8 => by obtain ⟨_, _, _, _, _, h7, _⟩ := h8; exact absurd h7 hu2)) (fun v74 w75 r77 => ?_)
  obtain ⟨apk73, gpk73, cpk73, rwk73, pk73, rfl, _, _, _, u76⟩ := r77
  have zu76 := u76.size
  refine s_next ((Upd.refl _ _).nx u76) (y_move rfl rfl rfl (y_extract rfl rfl rfl rfl (y_extract rfl rfl rfl rfl (y_extract rfl rfl rfl rfl (y_assign rfl rfl rfl (y_assign rfl rfl rfl (y_assign rfl rfl rfl (s_nil (hK52 _ _ (c_seq fun K79 hK79 => (c_drawnM follows (fun _ => False) (.look 0 (.look 1 (.look 3 (.look 4 (.look 5 (.look 6 (.act 2 (.act 7 (.act 8 (.look 9 (.look 10 (.look 11 (.look 12 (.look 13 (.look 14 (.look 15 .done))))))) .stop) .stop) .stop))))))) (by kernel_rfl) fun w80 u81 => ?_)))))))))))
  have zu81 := u81.size
  have B83 := (((((((((B20.kx u24).kx u32).kx u39).kx u45).kx u54).kx u62).kx u69).kx u76).kx u81)
  refine y_loadN (vs := [.int .i64 ((smR u).rest), .int .i64 ((smR u).span), .int .i64 ((smR u).work), .int .i64 ((smR u).week), .int .i64 ((smR u).ww)]) Try.isAgg28 Try.sizeOf28 rfl rfl rfl (B83.at.sub 0 5) rfl (fun h => h) (y_move rfl rfl rfl (y_move rfl rfl rfl (y_move rfl rfl rfl (y_ari rfl rfl rfl rfl rfl (by omega) (y_sliceTo (up + 1) Try.underlying63 Try.sizeOf77 rfl rfl rfl rfl (by omega) (by omega) (y_same 90 (v := .slice (subAddr ax cx 0 7) ((xs.take (up + 1)).length) cx) rfl (by rw [List.length_take, Nat.min_eq_left (by omega)]) (s_do ?_)))))))
  have D84 := ((((D57.keep u62 (fun _ h => h)).keep u69 (fun _ h => h)).keep u76 (fun _ h => h)).keep u81 (fun _ h => h))
  have D86 := ((((D59.keep u62 (fun i hi h => h)).keep u69 (fun i hi h => h)).keep u76 (fun i hi h => h)).keep u81 (fun i hi h => h))
  refine t_call own19 rfl rfl rfl rfl (sailors_c hs ah gh 0 ch _ (D84.sl (fun _ => rfl)) (by omega) (fun h hh => (D86 h hh).1) (by omega)) (fun v87 w88 r90 => ?_)
  obtain ⟨⟨aoW85, gW85, cW85, oW85, rfl, haW85, hmW85, hsW85⟩, u89⟩ := r90
  have zu89 := u89.size
  have lt_gW85 := haW85.lt
  have hlW85 : oW85.length = hs.length := by have := congrArg List.length hmW85; simpa using this
  refine s_next ((Upd.refl _ _).nx u89) (s_do ?_)
  have D93 := ((((D66.keep u69 (fun _ h => h)).keep u76 (fun _ h => h)).keep u81 (fun _ h => h)).keep u89 (fun _ h => h))
  refine t_call own20 rfl rfl rfl rfl (legs_c (xs.take (up + 1)) (subAddr ax cx 0 7) gx 0 cx _ (Sl.subTo (D93.sl (fun _ => rfl)) cx (up + 1) hcapx) (by rw [List.length_take]; omega) (by omega)) (fun v94 w95 r97 => ?_)
  obtain ⟨⟨aoG92, gG92, cG92, rfl, haG92⟩, u96⟩ := r97
  have zu96 := u96.size
  have lt_gG92 := haG92.lt
  have hcapG92 := haG92.cap_le
  refine s_next ((Upd.refl _ _).nx u96) (s_do ?_)
  have D99 := (haW85.keep u96 (fun _ h => h))
  refine t_call own18 rfl rfl rfl rfl ((Plan_v (smR u) oW85 aoW85 gW85 0 cW85 (xs.take (up + 1)) aoG92 gG92 0 cG92 ss _ (hmW85.trans hse.symm) (D99.sl (fun _ => rfl)) (fun h hh => ((hsW85 h hh).ext ((Upd.refl (fun _ => False) _).nx u96)).slrM) (haG92.sl (fun _ => rfl)) (by omega) (hoE (up + 1)) (by omega)).mono fun v w9 h9 => h9.resolve_right (fun h8 => by obtain ⟨_, _, _, _, p9, _, _, h7, _⟩ := h8; exact asg_iff.1 hu3 ⟨p9, h7⟩)) (fun v101 w102 r104 => ?_)
  obtain ⟨apk100, cpk100, upk100, rfl, hupk100, _, u103⟩ := r104
  have zu103 := u103.size
  obtain rfl : upk100 = up := hupk100.trans hu4
  refine s_next ((Upd.refl _ _).nx u103) (y_move rfl rfl rfl (y_extract rfl rfl rfl rfl (y_extract rfl rfl rfl rfl (y_extract rfl rfl rfl rfl (y_assign rfl rfl rfl (y_assign rfl rfl rfl (y_assign rfl rfl rfl (s_nil (hK79 _ _ (c_seq fun K106 hK106 => (c_region (t_move rfl rfl rfl (t_cmp rfl rfl rfl rfl rfl (t_samehd (v := .bool true) rfl (t_move rfl rfl rfl (t_move rfl rfl rfl (t_cmp rfl rfl rfl rfl rfl (t_samehd (v := .bool true) rfl (t_pick_t rfl rfl rfl rfl (t_move rfl rfl rfl (t_move rfl rfl rfl (t_move rfl rfl rfl (t_cmp rfl rfl rfl rfl rfl ?_)))))))))))))))))))))))
  refine t_samehd (v := .bool true) (by simp) (t_pick_t rfl rfl rfl rfl (t_move rfl rfl rfl (t_call own13 rfl rfl rfl rfl (known_c _) (fun v107 w108 r110 => ?_))))
  obtain ⟨rfl, u109⟩ := r110
  have zu109 := u109.size
  refine t_pick_t rfl rfl rfl rfl (t_assign rfl rfl rfl (t_nil' (hK106 _ _ (c_ret (f_ret1 (v := .bool true) Try.results6 rfl ?_)))))
  exact ⟨rfl, ((((((((((E41.nx u45).nx u54).nx u62).nx u69).nx u76).nx u81).nx u89).nx u96).nx u103).nx u109)⟩
 have zu45 := u45.size
 have hpl9 := planOk_len hpl
 have hrl : rows.length = xs.length := by have := congrArg List.length hpx; rw [List.length_map, List.length_map] at this; omega
 have hrx : ∀ j, j < rows.length → (nth rows j).xs = castL (nth p j) := fun j hj => by
   have h9 := congrArg (fun z => nth z j) hpx
   rwa [nth_map2 _ hj, nth_map2 _ (by omega)] at h9
 refine s_next ((Upd.refl _ _).nx u45) (y_move rfl rfl rfl (y_extract rfl rfl rfl rfl (y_extract rfl rfl rfl rfl (y_extract rfl rfl rfl rfl (y_assign rfl rfl rfl (y_assign rfl rfl rfl (y_assign rfl rfl rfl (s_nil (hK22 _ _ (c_seq fun K113 hK113 => (c_seq fun K114 hK114 => (c_region (t_move rfl rfl rfl (t_cmp rfl rfl rfl rfl rfl (t_samehd (v := .bool false) rfl (t_nil' (hK114 _ _ (c_cond_f rfl (c_skip (hK113 _ _ (c_seq fun K115 hK115 => (c_seq fun K116 hK116 => (c_region ?_)))))))))))))))))))))))
 refine t_move rfl rfl rfl (t_len Try.underlying66 rfl rfl rfl rfl (t_move rfl rfl rfl (t_len Try.underlying63 rfl rfl rfl rfl (t_cmp rfl rfl rfl rfl rfl (t_same 114 (v := .bool false) rfl (congrArg Value.bool (decide_eq_false (by omega))) (t_move rfl rfl rfl (t_move rfl rfl rfl (t_cmp rfl rfl rfl rfl rfl (t_samehd (v := .bool false) rfl (t_pick_f rfl rfl rfl rfl (t_nil' (hK116 _ _ (c_cond_f rfl (c_skip (hK115 _ _ (c_seq fun K117 hK117 => (c_region (t_build (ps := []) (v := .agg #[.slice none 0 0, .slice none 0 0, .slice none 0 0, .slice none 0 0, .slice none 0 0]) rfl rfl ⟨rfl, rfl⟩ (fun w => by kernel_rfl) (t_alloc (cs := [.slice none 0 0, .slice none 0 0, .slice none 0 0, .slice none 0 0, .slice none 0 0]) Try.zeroValue71 rfl rfl rfl (fun bk118 w119 ebk118 sbk118 B120 u121 => ?_))))))))))))))))))))
 have zu121 := u121.size
 refine t_st (vs := [.slice none 0 0, .slice none 0 0, .slice none 0 0, .slice none 0 0, .slice none 0 0]) Try.sizeOf71 rfl rfl rfl B120 rfl rfl rfl rfl (fun w123 sw123 B125 u124 => ?_)
 have zu124 := u124.size
 have B125 : Blk w123 bk118 71 [.slice none 0 0, .slice none 0 0, .slice none 0 0, .slice none 0 0, .slice none 0 0] := B125
 refine t_nil' (hK117 _ _ (c_seq fun K127 hK127 => (c_seq fun K128 hK128 => (c_region (t_assign rfl rfl rfl (t_nil' (hK128 _ _ (c_block ?_))))))))
 obtain ⟨ba, hba⟩ : ∃ n, n = w123.heap.size := ⟨_, rfl⟩
 have hb17 := B125.lt
 have hdn0 : Acc encHD 1 71 bk118 w123 (some ⟨bk118, 0, none⟩) bk118 5 (List.replicate 5 (⟨[], none, 0, 0⟩ : HD)) := Acc.ofRaw (xs := (List.replicate 5 (⟨[], none, 0, 0⟩ : HD))) B125 (Nat.le_refl _) (Nat.le_refl _) (by show 5 ≤ maxLen; decide) rfl rfl
 have hDN0 := DnM.start ba w123.heap.size w123 5 (by omega) (by omega) (by omega)
 refine c_loop (γ := Nat × List HD) (fun gg => [(1, .int .u8 q9), (5, .pointer (some ⟨bk13, 0, none⟩)), (6, .slice ah hs.length ch), (7, .slice ax xs.length cx), (8, .slice apS rows.length cpS), (17, .pointer (some ⟨bk118, 0, none⟩)), (18, .int .i64 (gg.1 : Int))]) (fun gg w => Upd (fun i => i = bk118) w123 w ∧ (gg.1 ≤ hs.length) ∧ (gg.2.length = 5) ∧ (Acc encHD 1 71 bk118 w (some ⟨bk118, 0, none⟩) bk118 5 gg.2) ∧ (DnM ba w.heap.size w gg.2) ∧ (∀ j, j < gg.1 → (nth gg.2 j).xs = (nth hs j).ds)) (fun gg => hs.length - gg.1) (0, (List.replicate 5 (⟨[], none, 0, 0⟩ : HD))) ⟨rfl, rfl, rfl, rfl, rfl, rfl, rfl, trivial⟩ ⟨Upd.refl _ _, (Nat.zero_le _), rfl, hdn0, hDN0, (fun j hj => absurd hj (Nat.not_lt_zero _))⟩ ?_
 intro gg w130 hW K129 hK129
 obtain ⟨k, R⟩ := gg
 change WC _ _ _ _ _ _ [(1, .int .u8 q9), (5, .pointer (some ⟨bk13, 0, none⟩)), (6, .slice ah hs.length ch), (7, .slice ax xs.length cx), (8, .slice apS rows.length cpS), (17, .pointer (some ⟨bk118, 0, none⟩)), (18, .int .i64 (k : Int))] _
 change Upd (fun i => i = bk118) w123 w130 ∧ (k ≤ hs.length) ∧ (R.length = 5) ∧ (Acc encHD 1 71 bk118 w130 (some ⟨bk118, 0, none⟩) bk118 5 R) ∧ (DnM ba w130.heap.size w130 R) ∧ (∀ j, j < k → (nth R j).xs = (nth hs j).ds) at hW
 obtain ⟨u131, I132, I133, I134, I135, I136⟩ := hW
 have zu131 := u131.size
 have hk := I132; clear I132
 have hR5 := I133; clear I133
 have hdn := I134; clear I134
 have hDN := I135; clear I135
 have hRx := I136; clear I136
 have lt_bk118 := hdn.lt
 refine c_seq fun K138 hK138 => (c_seq fun K139 hK139 => (c_region (t_move rfl rfl rfl (t_move rfl rfl rfl (t_len Try.underlying62 rfl rfl rfl rfl (t_cmp rfl rfl rfl rfl rfl (t_nil' (hK139 _ _ (c_condp rfl (fun g123 => ?_) (fun g123 => ?_))))))))))
 ·
  refine c_skip (hK138 _ _ (c_seq fun K140 hK140 => (c_block (c_region (t_move rfl rfl rfl (t_move rfl rfl rfl (t_move rfl rfl rfl ?_)))))))
  have D141 := ((((((D27.keep u32 (fun _ h => h)).keep u39 (fun _ h => h)).keep u45 (fun _ h => h)).keep u121 (fun _ h => h)).keep u124 (fun hb => show ¬ (gh = bk118) by first | omega | assumption)).keep u131 (fun hb => show ¬ (gh = bk118) by first | omega | assumption))
  have i142 : k < hs.length := (by omega)
  refine t_index (j := k) Try.underlying62 Try.sizeOf74 rfl rfl rfl rfl ((D141.sl (fun _ => rfl)).addr (by omega)) rfl i142 (t_field Try.underlying74 rfl Try.sizeOf30 (0 + k * 4 + 3) rfl rfl rfl rfl (t_load Try.isAgg30 rfl rfl rfl (((D141.sl (fun _ => rfl)).at_ k (by omega)) 3 _ rfl) ?_))
  have D144 := ((((((D29.keep u32 (fun i hi h => h)).keep u39 (fun i hi h => h)).keep u45 (fun i hi h => h)).keep u121 (fun i hi h => h)).keep u124 (fun i hi => show ¬ (i = bk118) by omega)).keep u131 (fun i hi => show ¬ (i = bk118) by omega))
  refine t_call own11 rfl rfl rfl rfl (duties_c ((nth hs k).ds) ((nth hs k).ad) (nth hs k).bd ((nth hs k).od) ((nth hs k).cd) _ (D144 _ (nth_mem (by omega))).1.hd ((hsM (nth hs k) (nth_mem (by omega))).1.hdl) (by omega)) (fun v145 w146 r148 => ?_)
  obtain ⟨⟨aoY143, gY143, cY143, rfl, haY143⟩, u147⟩ := r148
  have zu147 := u147.size
  have lt_gY143 := haY143.lt
  refine t_indexArr (j := k) (0 + k * 1) Try.underlying71 Try.sizeOf30 rfl rfl rfl rfl rfl (by omega) rfl ?_
  have D150 := (hDN.keep u147 (fun i hb hi h => h))
  have haX := haY143
  obtain ⟨g2, ha2, hf2⟩ := Acc.lower' (base' := ba) haX (by omega) (by omega)
  have hg2 := ha2.lt
  have hDNp := D150
  have lt_g2 := ha2.lt
  have h000 := hg2
  have D151 := (hdn.keep u147 (fun _ h => h))
  refine t_storeA (vs := [.slice aoY143 (((nth hs k).ds).length) cY143]) (j := k) (o' := 0) (k := 1) (⟨(nth hs k).ds, aoY143, g2, cY143⟩ : HD) (fun _ => rfl) Try.sizeOf30 rfl rfl (by omega) rfl D151 (by first | omega | (simp only [List.length_set, eRuns_len]; omega)) rfl rfl (by decide) (by simp [Value.oneCell']) rfl (fun w152 R154 u153 => ?_)
  have zu153 := u153.size
  have D156 := (ha2.keep u153 (fun hb => show ¬ (g2 = bk118) by first | omega | assumption))
  have hDN2 := hDNp.put (n := k) (B' := w152.heap.size) (by omega) ((Upd.refl (fun i => i = bk118) w146).next u153 (fun i hi (h : i = bk118) => show i = bk118 by omega)) (fun i h1 h2 h3 => by omega) D156 (fun hq => .inr (by have := hf2 hq; omega)) (by omega) (by omega)
  refine t_nil' (hK140 _ _ (c_region (t_move rfl rfl rfl (t_ari rfl rfl rfl rfl rfl (by omega) (t_assign rfl rfl rfl (t_nil' ?_))))))
  exact hK129 (k + 1, (R.set k (⟨(nth hs k).ds, aoY143, g2, cY143⟩ : HD))) _ _ (by show hs.length - (k + 1) < hs.length - k; omega) ⟨rfl, rfl, rfl, rfl, rfl, rfl, rfl, trivial⟩ ⟨((u131.next u147 (fun _ _ h => h.elim)).next u153 (fun i hi h => by omega)), (by omega), (by rw [List.length_set]; exact hR5), R154, (hDN2.wide (by omega)), (fun j hj => by
    rw [nth_set' (by omega)]
    by_cases e : j = k
    · rw [if_pos e, e]
    · rw [if_neg e]; exact hRx j (by omega))⟩
 have hkk : k = hs.length := by omega
 have h50 : ∀ j, j < hs.length → nth (stg 0 xs p (ss.map boardP)) j = MbOf (nth hs j).f (nth hs j).u (nth hs j).ps (nth R j).xs ∧ (∀ d ∈ (nth R j).xs, okDty d = true) ∧ (nth R j).xs.length ≤ 1 + 0 := fun j hj => by
   have e1 := hRx j (by omega)
   have e2 : nth (ss.map boardP) j = boardP (nth hs j).slr := by rw [hse, List.map_map, nth_map2 _ hj]; rfl
   have e3 := okSlr_ok (hos _ (by rw [hse]; exact List.mem_map.2 ⟨_, nth_mem hj, rfl⟩))
   have e4 : (nth hs j).ds.length ≤ 1 := by
     have h9 := congrArg (fun z => nth z j) hhm
     have h8 : j < (ms.take 5).length := by have := congrArg List.length hhm; rw [List.length_map, List.length_map] at this; omega
     rw [nth_map2 _ hj, nth_map2 _ h8] at h9
     have h7 := congrArg Slr.ds h9
     have h6 := (donV_ok (hms _ (List.mem_of_mem_take (nth_mem h8)))).1
     show (nth hs j).slr.ds.length ≤ 1
     rw [h7]; exact h6
   refine ⟨?_, ?_, ?_⟩
   · show nth (ss.map boardP) j = _
     rw [e2, e1]; rfl
   · rw [e1]; exact e3.2.2.2
   · rw [e1]; omega
 refine c_exit (hK127 _ _ (c_seq fun K157 hK157 => (c_region (t_bslice (ps := []) (cs := []) (e := 75) rfl rfl ⟨rfl, rfl⟩ (fun w => by kernel_rfl) (fun bk158 w159 ebk158 sbk158 B160 u161 => ?_)))))
 have zu161 := u161.size
 refine t_assign rfl rfl rfl (t_nil' (hK157 _ _ (c_seq fun K163 hK163 => (c_seq fun K164 hK164 => (c_region (t_assign rfl rfl rfl (t_nil' (hK164 _ _ (c_block ?_)))))))))
 have D165 := (hdn.keep u161 (fun _ h => h))
 have D166 := (hDN.keep u161 (fun i hb hi h => h))
 refine c_loop (γ := Nat × List HD × List HL × Option Addr × Nat × Nat) (fun gg => [(1, .int .u8 q9), (5, .pointer (some ⟨bk13, 0, none⟩)), (6, .slice ah hs.length ch), (7, .slice ax xs.length cx), (8, .slice apS rows.length cpS), (17, .pointer (some ⟨bk118, 0, none⟩)), (19, .slice gg.2.2.2.1 gg.2.2.1.length gg.2.2.2.2.2), (20, .int .i64 (gg.1 : Int))]) (fun gg w => Upd (fun i => i = bk118 ∨ ba ≤ i) w159 w ∧ (gg.1 ≤ xs.length) ∧ (gg.2.1.length = 5) ∧ (Acc encHD 1 71 bk118 w (some ⟨bk118, 0, none⟩) bk118 5 gg.2.1) ∧ (DnM ba w.heap.size w gg.2.1) ∧ (∀ j, j < hs.length → nth (stg gg.1 xs p (ss.map boardP)) j = MbOf (nth hs j).f (nth hs j).u (nth hs j).ps (nth gg.2.1 j).xs ∧ (∀ d ∈ (nth gg.2.1 j).xs, okDty d = true) ∧ (nth gg.2.1 j).xs.length ≤ 1 + gg.1) ∧ (Acc encHL 1 75 bk158 w gg.2.2.2.1 gg.2.2.2.2.1 gg.2.2.2.2.2 gg.2.2.1) ∧ (gg.2.2.1.length = gg.1) ∧ (∀ j, j < gg.1 → (nth gg.2.2.1 j).xs = (castL (nth p j)).reverse) ∧ (∀ h ∈ gg.2.2.1, LstC ba w h) ∧ (bk158 ≤ gg.2.2.2.2.1)) (fun gg => xs.length - gg.1) (0, R, [], some ⟨bk158, 0, none⟩, bk158, 0) ⟨rfl, rfl, rfl, rfl, rfl, rfl, rfl, rfl, trivial⟩ ⟨Upd.refl _ _, (Nat.zero_le _), hR5, D165, (D166.wide (by omega)), h50, (Acc.ofRaw (cs := []) B160 (Nat.le_refl _) (Nat.le_refl _) (Nat.zero_le _) (by rfl) (by rfl)), rfl, (fun j hj => absurd hj (Nat.not_lt_zero _)), (fun h hh => by cases hh), (Nat.le_refl _)⟩ ?_
 intro gg w168 hW K167 hK167
 obtain ⟨i9, R, tr, at_, gt, ct⟩ := gg
 change WC _ _ _ _ _ _ [(1, .int .u8 q9), (5, .pointer (some ⟨bk13, 0, none⟩)), (6, .slice ah hs.length ch), (7, .slice ax xs.length cx), (8, .slice apS rows.length cpS), (17, .pointer (some ⟨bk118, 0, none⟩)), (19, .slice at_ tr.length ct), (20, .int .i64 (i9 : Int))] _
 change Upd (fun i => i = bk118 ∨ ba ≤ i) w159 w168 ∧ (i9 ≤ xs.length) ∧ (R.length = 5) ∧ (Acc encHD 1 71 bk118 w168 (some ⟨bk118, 0, none⟩) bk118 5 R) ∧ (DnM ba w168.heap.size w168 R) ∧ (∀ j, j < hs.length → nth (stg i9 xs p (ss.map boardP)) j = MbOf (nth hs j).f (nth hs j).u (nth hs j).ps (nth R j).xs ∧ (∀ d ∈ (nth R j).xs, okDty d = true) ∧ (nth R j).xs.length ≤ 1 + i9) ∧ (Acc encHL 1 75 bk158 w168 at_ gt ct tr) ∧ (tr.length = i9) ∧ (∀ j, j < i9 → (nth tr j).xs = (castL (nth p j)).reverse) ∧ (∀ h ∈ tr, LstC ba w168 h) ∧ (bk158 ≤ gt) at hW
 obtain ⟨u169, I170, I171, I172, I173, I174, I175, I176, I177, I178, I179⟩ := hW
 have zu169 := u169.size
 have hi9 := I170; clear I170
 have hR5 := I171; clear I171
 have hdn := I172; clear I172
 have hDN := I173; clear I173
 have h5 := I174; clear I174
 have htr := I175; clear I175
 have htl := I176; clear I176
 have h8 := I177; clear I177
 have hTR := I178; clear I178
 have hgt9 := I179; clear I179
 have lt_bk118 := hdn.lt
 have lt_gt := htr.lt
 have hlt9 := hDN.lt
 refine c_seq fun K181 hK181 => (c_seq fun K182 hK182 => (c_region (t_move rfl rfl rfl (t_move rfl rfl rfl (t_len Try.underlying66 rfl rfl rfl rfl (t_cmp rfl rfl rfl rfl rfl (t_nil' (hK182 _ _ (c_condp rfl (fun g138 => ?_) (fun g138 => ?_))))))))))
 ·
  obtain ⟨hT, hstg, hsl⟩ := stg_at hpl (show i9 < xs.length by omega)
  obtain ⟨M, hM⟩ : ∃ M, M = stg i9 xs p (ss.map boardP) := ⟨_, rfl⟩
  obtain ⟨ns, hns⟩ : ∃ ns, ns = nth p i9 := ⟨_, rfl⟩
  rw [← hM, ← hns] at hT hstg
  rw [← hM] at h5 hsl
  rw [List.length_map, hssl] at hsl
  have hol := okLeg_ok (hox _ (nth_mem (show i9 < xs.length by omega)))
  have hnl3 := hT.len
  have hcast : (nth rows i9).xs = castL ns := by rw [hrx i9 (by omega), hns]
  have hcl9 : (nth rows i9).xs.length = ns.length := by rw [hcast, List.length_map]
  refine c_skip (hK181 _ _ (c_seq fun K183 hK183 => (c_block (c_seq fun K184 hK184 => (c_region (t_bslice (ps := []) (cs := []) (e := 3) rfl rfl ⟨rfl, rfl⟩ (fun w => by kernel_rfl) (fun bk185 w186 ebk185 sbk185 B187 u188 => ?_)))))))
  have zu188 := u188.size
  refine t_assign rfl rfl rfl (t_assign rfl rfl rfl (t_nil' (hK184 _ _ (c_seq fun K190 hK190 => (c_seq fun K191 hK191 => (c_drawnM follows (fun _ => False) (.look 0 (.look 1 (.look 2 (.look 3 (.look 4 (.look 5 (.look 6 (.look 7 (.look 8 (.look 9 (.look 10 .done))))))))))) (by kernel_rfl) fun w192 u193 => ?_))))))
  have zu193 := u193.size
  refine y_move rfl rfl rfl (y_move rfl rfl rfl ?_)
  have D195 := (((((((hpr.keep u121 (fun _ h => h)).keep u124 (fun hp => by have h9 := hpr.lt hp; show ¬ (gp = bk118); omega)).keep u131 (fun hp => by have h9 := hpr.lt hp; show ¬ (gp = bk118); omega)).keep u161 (fun _ h => h)).keep u169 (fun hp => by have h9 := hpr.lt hp; show ¬ (gp = bk118 ∨ ba ≤ gp); omega)).keep u188 (fun _ h => h)).keep u193 (fun _ h => h))
  have i196 : i9 < rows.length := (by omega)
  refine y_index (j := i9) Try.underlying66 Try.sizeOf75 rfl rfl rfl rfl (D195.addr (by omega)) rfl i196 ?_
  have D197 := (((((((hpr.keep u121 (fun _ h => h)).keep u124 (fun hp => by have h9 := hpr.lt hp; show ¬ (gp = bk118); omega)).keep u131 (fun hp => by have h9 := hpr.lt hp; show ¬ (gp = bk118); omega)).keep u161 (fun _ h => h)).keep u169 (fun hp => by have h9 := hpr.lt hp; show ¬ (gp = bk118 ∨ ba ≤ gp); omega)).keep u188 (fun _ h => h)).keep u193 (fun _ h => h))
  refine y_load Try.isAgg75 rfl rfl rfl ((D197.at_ i9 (by omega)) 0 _ rfl) (fun h => h) (y_len Try.underlying75 rfl rfl rfl rfl (y_move rfl rfl rfl (y_move rfl rfl rfl ?_)))
  have D198 := (((((((((D36.keep u39 (fun _ h => h)).keep u45 (fun _ h => h)).keep u121 (fun _ h => h)).keep u124 (fun hb => show ¬ (gx = bk118) by first | omega | assumption)).keep u131 (fun hb => show ¬ (gx = bk118) by first | omega | assumption)).keep u161 (fun _ h => h)).keep u169 (fun hb => show ¬ (gx = bk118 ∨ ba ≤ gx) by first | omega | assumption)).keep u188 (fun _ h => h)).keep u193 (fun _ h => h))
  have i199 : i9 < xs.length := (by omega)
  refine y_index (j := i9) Try.underlying63 Try.sizeOf77 rfl rfl rfl rfl ((D198.sl (fun _ => rfl)).addr (by omega)) rfl i199 (y_field Try.underlying77 rfl Try.sizeOf3 (0 + i9 * 7 + 5) rfl rfl rfl rfl ?_)
  have D200 := (((((((((D36.keep u39 (fun _ h => h)).keep u45 (fun _ h => h)).keep u121 (fun _ h => h)).keep u124 (fun hb => show ¬ (gx = bk118) by first | omega | assumption)).keep u131 (fun hb => show ¬ (gx = bk118) by first | omega | assumption)).keep u161 (fun _ h => h)).keep u169 (fun hb => show ¬ (gx = bk118 ∨ ba ≤ gx) by first | omega | assumption)).keep u188 (fun _ h => h)).keep u193 (fun _ h => h))
  refine y_load Try.isAgg3 rfl rfl rfl (((D200.sl (fun _ => rfl)).at_ i9 (by omega)) 5 _ rfl) (fun h => h) (y_cmp rfl rfl rfl rfl rfl (y_same 152 (v := .bool false) rfl (congrArg Value.bool (decide_eq_false (by omega))) (s_nil (hK191 _ _ (c_cond_f rfl (c_skip (hK190 _ _ (c_seq fun K201 hK201 => (c_seq fun K202 hK202 => (c_region (t_assign rfl rfl rfl (t_nil' (hK202 _ _ (c_block ?_))))))))))))))
  have B203 := (B187.kx u193)
  have D204 := ((hdn.keep u188 (fun _ h => h)).keep u193 (fun _ h => h))
  have D205 := ((hDN.keep u188 (fun i hb hi h => h)).keep u193 (fun i hb hi h => h))
  have D206 := ((htr.keep u188 (fun _ h => h)).keep u193 (fun _ h => h))
  have D207 := (fun h hh => ((fun h hh => (hTR h hh).ext u188) h hh).ext u193)
  refine c_loop (γ := Nat × List HD × Nat × Option Addr × Nat × Nat × List Int) (fun gg => [(1, .int .u8 q9), (5, .pointer (some ⟨bk13, 0, none⟩)), (6, .slice ah hs.length ch), (7, .slice ax xs.length cx), (8, .slice apS rows.length cpS), (17, .pointer (some ⟨bk118, 0, none⟩)), (19, .slice at_ tr.length ct), (20, .int .i64 (i9 : Int)), (21, .int .i64 (pltN (nth xs i9) M (ns.take gg.1))), (22, .slice gg.2.2.2.1 gg.2.2.2.2.2.2.length gg.2.2.2.2.2.1), (23, .int .i64 (gg.1 : Int))]) (fun gg w => Upd (fun i => i = bk118 ∨ ba ≤ i) w192 w ∧ (gg.1 ≤ ns.length) ∧ (gg.2.1.length = 5) ∧ (Acc encHD 1 71 bk118 w (some ⟨bk118, 0, none⟩) bk118 5 gg.2.1) ∧ (DnM ba w.heap.size w gg.2.1) ∧ (∀ j, j < hs.length → (nth gg.2.1 j).xs = (if j ∈ ns.take gg.1 then (nth R j).xs ++ [(nth xs i9).t] else (nth R j).xs)) ∧ (bk158 ≤ gg.2.2.1 ∧ gg.2.2.1 ≤ gg.2.2.2.2.1) ∧ (Acc encI 1 3 gg.2.2.1 w gg.2.2.2.1 gg.2.2.2.2.1 gg.2.2.2.2.2.1 gg.2.2.2.2.2.2) ∧ (gg.2.2.2.2.2.2 = (castL (ns.take gg.1)).reverse) ∧ (Acc encHL 1 75 bk158 w at_ gt ct tr) ∧ (∀ h ∈ tr, LstC ba w h)) (fun gg => ns.length - gg.1) (0, R, bk185, some ⟨bk185, 0, none⟩, bk185, 0, []) ⟨rfl, rfl, rfl, rfl, rfl, rfl, rfl, rfl, rfl, rfl, rfl, trivial⟩ ⟨Upd.refl _ _, (Nat.zero_le _), hR5, D204, (D205.wide (by omega)), (fun j _ => rfl), (by show bk158 ≤ bk185 ∧ bk185 ≤ bk185; omega), (Acc.ofRaw (cs := []) B203 (Nat.le_refl _) (Nat.le_refl _) (Nat.zero_le _) (by rfl) (by rfl)), rfl, D206, D207⟩ ?_
  intro gg w209 hW K208 hK208
  obtain ⟨k9, R2, bo, ao2, go2, co2, ot⟩ := gg
  change WC _ _ _ _ _ _ [(1, .int .u8 q9), (5, .pointer (some ⟨bk13, 0, none⟩)), (6, .slice ah hs.length ch), (7, .slice ax xs.length cx), (8, .slice apS rows.length cpS), (17, .pointer (some ⟨bk118, 0, none⟩)), (19, .slice at_ tr.length ct), (20, .int .i64 (i9 : Int)), (21, .int .i64 (pltN (nth xs i9) M (ns.take k9))), (22, .slice ao2 ot.length co2), (23, .int .i64 (k9 : Int))] _
  change Upd (fun i => i = bk118 ∨ ba ≤ i) w192 w209 ∧ (k9 ≤ ns.length) ∧ (R2.length = 5) ∧ (Acc encHD 1 71 bk118 w209 (some ⟨bk118, 0, none⟩) bk118 5 R2) ∧ (DnM ba w209.heap.size w209 R2) ∧ (∀ j, j < hs.length → (nth R2 j).xs = (if j ∈ ns.take k9 then (nth R j).xs ++ [(nth xs i9).t] else (nth R j).xs)) ∧ (bk158 ≤ bo ∧ bo ≤ go2) ∧ (Acc encI 1 3 bo w209 ao2 go2 co2 ot) ∧ (ot = (castL (ns.take k9)).reverse) ∧ (Acc encHL 1 75 bk158 w209 at_ gt ct tr) ∧ (∀ h ∈ tr, LstC ba w209 h) at hW
  obtain ⟨u210, I211, I212, I213, I214, I215, I216, I217, I218, I219, I220⟩ := hW
  have zu210 := u210.size
  have hk9 := I211; clear I211
  have hR25 := I212; clear I212
  have hdn2 := I213; clear I213
  have hDN2 := I214; clear I214
  have hR2 := I215; clear I215
  have hbo := I216; clear I216
  have hot := I217; clear I217
  have hote := I218; clear I218
  have htr2 := I219; clear I219
  have hTR2 := I220; clear I220
  have lt_bk118 := hdn2.lt
  have lt_gt := htr2.lt
  have lt_go2 := hot.lt
  have hol9 : ot.length = k9 := by rw [hote, List.length_reverse, List.length_map, List.length_take]; omega
  have hlt2 := hDN2.lt
  refine c_seq fun K222 hK222 => (c_seq fun K223 hK223 => (c_region (t_move rfl rfl rfl (t_move rfl rfl rfl (t_move rfl rfl rfl ?_)))))
  have D224 := (D195.keep u210 (fun hp => by have h9 := hpr.lt hp; show ¬ (gp = bk118 ∨ ba ≤ gp); omega))
  have i225 : i9 < rows.length := (by omega)
  refine t_index (j := i9) Try.underlying66 Try.sizeOf75 rfl rfl rfl rfl (D224.addr (by omega)) rfl i225 (t_load Try.isAgg75 rfl rfl rfl ((D224.at_ i9 (by omega)) 0 _ rfl) (t_len Try.underlying75 rfl rfl rfl rfl (t_cmp rfl rfl rfl rfl rfl (t_nil' (hK223 _ _ (c_condp rfl (fun g159 => ?_) (fun g159 => ?_)))))))
  ·
   obtain ⟨n, hn⟩ : ∃ n, n = nth ns k9 := ⟨_, rfl⟩
   have hnm : n ∈ ns := by rw [hn]; exact nth_mem (by omega)
   have hnb := hT.asc.mem hnm
   have hq8 := pltN_rng (nth xs i9) M (ns.take k9)
   have hq9x := pltN_rng (nth xs i9) M (ns.take (k9 + 1))
   rw [List.length_take] at hq8 hq9x
   have hnt : n ∉ ns.take k9 := by rw [hn]; exact nodup_take hT.asc.nodup (by omega)
   have hcan := hT.can n hnm
   obtain ⟨h5a, h5b, h5c⟩ := h5 n (by omega)
   have hR2n : (nth R2 n).xs = (nth R n).xs := by rw [hR2 n (by omega), if_neg hnt]
   rw [← hR2n] at h5a h5b h5c
   obtain ⟨hmy, hwin, hbrk⟩ := may_of h5a hcan
   have hod2 := h5b
   have hokn : okSlr ⟨(nth hs n).f, (nth hs n).u, (nth hs n).ps, (nth R2 n).xs⟩ = true := okSlr_ds (ds := (nth hs n).ds) (hos _ (by rw [hse]; exact List.mem_map.2 ⟨_, nth_mem (by omega), rfl⟩)) (by omega) h5b
   have hne : (nth (nth rows i9).xs k9) = (n : Int) := by rw [hcast, nth_map2 _ (by omega), hn]
   refine c_skip (hK222 _ _ (c_seq fun K226 hK226 => (c_block (c_seq fun K227 hK227 => (c_region (t_move rfl rfl rfl (t_move rfl rfl rfl ?_)))))))
   have i228 : i9 < rows.length := (by omega)
   refine t_index (j := i9) Try.underlying66 Try.sizeOf75 rfl rfl rfl rfl (D224.addr (by omega)) rfl i228 (t_load Try.isAgg75 rfl rfl rfl ((D224.at_ i9 (by omega)) 0 _ rfl) (t_move rfl rfl rfl ?_))
   have D229 := ((((((((prM.keep u121 (fun i hi h => h)).keep u124 (fun i hi => show ¬ (i = bk118) by omega)).keep u131 (fun i hi => show ¬ (i = bk118) by omega)).keep u161 (fun i hi h => h)).keep u169 (fun i hi => show ¬ (i = bk118 ∨ ba ≤ i) by omega)).keep u188 (fun i hi h => h)).keep u193 (fun i hi h => h)).keep u210 (fun i hi => show ¬ (i = bk118 ∨ ba ≤ i) by omega))
   have i230 : k9 < (nth rows i9).xs.length := (by omega)
   refine t_index (j := k9) Try.underlying75 Try.sizeOf3 rfl rfl rfl rfl ((D229 _ (nth_mem (by omega))).1.1.addr (by omega)) rfl i230 (t_load Try.isAgg3 rfl rfl rfl (((D229 _ (nth_mem (by omega))).1.1.at_ k9 (by omega)) 0 _ rfl) (t_same 168 (v := .int .i64 (n : Int)) rfl (congrArg (Value.int .i64) hne) (t_assign rfl rfl rfl (t_nil' (hK227 _ _ (c_seq fun K231 hK231 => (c_cut (γ := Nat) (fun zz => [(1, .int .u8 q9), (5, .pointer (some ⟨bk13, 0, none⟩)), (6, .slice ah hs.length ch), (7, .slice ax xs.length cx), (8, .slice apS rows.length cpS), (17, .pointer (some ⟨bk118, 0, none⟩)), (19, .slice at_ tr.length ct), (20, .int .i64 (i9 : Int)), (21, .int .i64 (pltN (nth xs i9) M (ns.take k9))), (22, .slice ao2 ot.length co2), (23, .int .i64 (k9 : Int)), (24, .int .i64 (n : Int)), (192, .bool false)]) (fun zz w => Upd (fun _ => False) w209 w) (fun K233 hK233 => ?_) ?_)))))))
   ·
    refine c_region (t_move rfl rfl rfl (t_cmp rfl rfl rfl rfl rfl (t_same 170 (v := .bool false) rfl (congrArg Value.bool (decide_eq_false (by omega))) (t_move rfl rfl rfl (t_move rfl rfl rfl (t_move rfl rfl rfl (t_len Try.underlying62 rfl rfl rfl rfl (t_cmp rfl rfl rfl rfl rfl (t_same 175 (v := .bool false) rfl (congrArg Value.bool (decide_eq_false (by omega))) (t_pick_f rfl rfl rfl rfl (t_move rfl rfl rfl (t_move rfl rfl rfl (t_cmp rfl rfl rfl rfl rfl (t_move rfl rfl rfl (t_splitp 180 rfl (fun g180 => ?_) (fun g180 => ?_))))))))))))))))
    ·
     have hlt8 := hT.asc.lt (a := k9) (by omega) (by omega)
     rw [← hn] at hlt8
     have hpr9 : nth (nth rows i9).xs (k9 - 1) = ((nth ns (k9 - 1) : Nat) : Int) := by rw [hcast, nth_map2 _ (by omega)]
     refine t_move rfl rfl rfl (t_move rfl rfl rfl (t_move rfl rfl rfl ?_))
     have i236 : i9 < rows.length := (by omega)
     refine t_index (j := i9) Try.underlying66 Try.sizeOf75 rfl rfl rfl rfl (D224.addr (by omega)) rfl i236 (t_load Try.isAgg75 rfl rfl rfl ((D224.at_ i9 (by omega)) 0 _ rfl) (t_move rfl rfl rfl (t_ari rfl rfl rfl rfl rfl (by omega) ?_)))
     have i237 : (k9 - 1) < (nth rows i9).xs.length := (by omega)
     refine t_index (j := (k9 - 1)) Try.underlying75 Try.sizeOf3 rfl rfl rfl rfl ((D229 _ (nth_mem (by omega))).1.1.addr (by omega)) (by omega) i237 (t_load Try.isAgg3 rfl rfl rfl (((D229 _ (nth_mem (by omega))).1.1.at_ (k9 - 1) (by omega)) 0 _ rfl) (t_cmp rfl rfl rfl rfl rfl (t_same 190 (v := .bool false) rfl (congrArg Value.bool (decide_eq_false (by omega))) (t_pick_t rfl rfl rfl rfl (t_pick_f rfl rfl rfl rfl (t_nil' ?_))))))
     exact hK233 0 _ _ ⟨rfl, rfl, rfl, rfl, rfl, rfl, rfl, rfl, rfl, rfl, rfl, rfl, rfl, trivial⟩ (Upd.refl _ _)
    refine t_skip rfl rfl rfl (t_skip rfl rfl rfl (t_skip rfl rfl rfl (t_skip rfl rfl rfl (t_skip rfl rfl rfl (t_skip rfl rfl rfl (t_skip rfl rfl rfl (t_skip rfl rfl rfl (t_skip rfl rfl rfl (t_skip rfl rfl rfl (t_pick_f rfl rfl rfl rfl (t_pick_f rfl rfl rfl rfl (t_nil' ?_))))))))))))
    exact hK233 0 _ _ ⟨rfl, rfl, rfl, rfl, rfl, rfl, rfl, rfl, rfl, rfl, rfl, rfl, rfl, trivial⟩ (Upd.refl _ _)
   intro zz w234 u235
   have zu235 := u235.size
   refine c_cond_f rfl (c_skip (hK231 _ _ (c_seq fun K239 hK239 => (c_region (t_move rfl rfl rfl (t_move rfl rfl rfl ?_))))))
   have D240 := ((((((((((((D27.keep u32 (fun _ h => h)).keep u39 (fun _ h => h)).keep u45 (fun _ h => h)).keep u121 (fun _ h => h)).keep u124 (fun hb => show ¬ (gh = bk118) by first | omega | assumption)).keep u131 (fun hb => show ¬ (gh = bk118) by first | omega | assumption)).keep u161 (fun _ h => h)).keep u169 (fun hb => show ¬ (gh = bk118 ∨ ba ≤ gh) by first | omega | assumption)).keep u188 (fun _ h => h)).keep u193 (fun _ h => h)).keep u210 (fun hb => show ¬ (gh = bk118 ∨ ba ≤ gh) by first | omega | assumption)).keep u235 (fun _ h => h))
   have i241 : n < hs.length := (by omega)
   refine t_index (j := n) Try.underlying62 Try.sizeOf74 rfl rfl rfl rfl ((D240.sl (fun _ => rfl)).addr (by omega)) rfl i241 (t_loadN (vs := [.int .i64 ((nth hs n).f), .int .i64 ((nth hs n).u), .slice ((nth hs n).ap) ((nth hs n).ps.length) ((nth hs n).cp), .slice ((nth hs n).ad) ((nth hs n).ds.length) ((nth hs n).cd)]) Try.isAgg74 Try.sizeOf74 rfl rfl rfl (((D240.sl (fun _ => rfl)).at_ n (by omega)).sub 0 4) rfl (t_alloc (cs := [.int .i64 0, .int .i64 0, .slice none 0 0, .slice none 0 0]) Try.zeroValue74 rfl rfl rfl (fun bk242 w243 ebk242 sbk242 B244 u245 => ?_)))
   have zu245 := u245.size
   refine t_st (vs := [.int .i64 ((nth hs n).f), .int .i64 ((nth hs n).u), .slice ((nth hs n).ap) ((nth hs n).ps.length) ((nth hs n).cp), .slice ((nth hs n).ad) ((nth hs n).ds.length) ((nth hs n).cd)]) Try.sizeOf74 rfl rfl rfl B244 rfl rfl rfl rfl (fun w247 sw247 B249 u248 => ?_)
   have zu248 := u248.size
   have B249 : Blk w247 bk242 74 [.int .i64 ((nth hs n).f), .int .i64 ((nth hs n).u), .slice ((nth hs n).ap) ((nth hs n).ps.length) ((nth hs n).cp), .slice ((nth hs n).ad) ((nth hs n).ds.length) ((nth hs n).cd)] := B249
   refine t_nil' (hK239 _ _ (c_seq fun K251 hK251 => (c_region (t_move rfl rfl rfl (t_indexArr (j := n) (0 + n * 1) Try.underlying71 Try.sizeOf30 rfl rfl rfl rfl rfl (by omega) rfl ?_)))))
   have D252 := (((hdn2.keep u235 (fun _ h => h)).keep u245 (fun _ h => h)).keep u248 (fun hb => show ¬ (bk118 = bk242) by first | omega | assumption))
   refine t_load Try.isAgg30 rfl rfl rfl (((D252.sl (fun _ => rfl)).at_ n (by omega)) 0 _ rfl) ?_
   have D254 := (((hDN2.keep u235 (fun i hb hi h => h)).keep u245 (fun i hb hi h => h)).keep u248 (fun i hb hi => show ¬ (i = bk242) by omega))
   refine t_call own11 rfl rfl rfl rfl (duties_c ((nth R2 n).xs) ((nth R2 n).ao) (nth R2 n).g 0 ((nth R2 n).cap) _ ((D254.mem n (by omega)).sl (fun _ => rfl)) (by omega) (by omega)) (fun v255 w256 r258 => ?_)
   obtain ⟨⟨aoY253, gY253, cY253, rfl, haY253⟩, u257⟩ := r258
   have zu257 := u257.size
   have lt_gY253 := haY253.lt
   refine t_field Try.underlying74 rfl Try.sizeOf30 (3) rfl rfl rfl rfl ?_
   have B260 := (B249.kx u257)
   refine t_st (vs := [.slice aoY253 (((nth R2 n).xs).length) cY253]) Try.sizeOf30 rfl rfl rfl B260 rfl rfl rfl rfl (fun w261 sw261 B263 u262 => ?_)
   have zu262 := u262.size
   have B263 : Blk w261 bk242 74 [.int .i64 ((nth hs n).f), .int .i64 ((nth hs n).u), .slice ((nth hs n).ap) ((nth hs n).ps.length) ((nth hs n).cp), .slice aoY253 (((nth R2 n).xs).length) cY253] := B263
   refine t_nil' (hK251 _ _ (c_seq fun K265 hK265 => (c_drawnM follows (fun _ => False) (.look 0 (.look 1 (.look 2 (.look 3 (.look 4 (.look 5 (.act 6 (.look 7 (.look 8 (.look 9 (.look 10 (.look 11 (.look 12 (.look 13 .done))))))) .stop))))))) (by kernel_rfl) fun w266 u267 => ?_)))
   have zu267 := u267.size
   have B269 := ((((((((((((((((((B20.kx u24).kx u32).kx u39).kx u45).kx u121).keep u124 (by omega)).keep u131 (by omega)).kx u161).keep u169 (show ¬ (bk13 = bk118 ∨ ba ≤ bk13) by first | omega | assumption)).kx u188).kx u193).keep u210 (show ¬ (bk13 = bk118 ∨ ba ≤ bk13) by first | omega | assumption)).kx u235).kx u245).keep u248 (by omega)).kx u257).keep u262 (by omega)).kx u267)
   refine y_loadN (vs := [.int .i64 ((smR u).rest), .int .i64 ((smR u).span), .int .i64 ((smR u).work), .int .i64 ((smR u).week), .int .i64 ((smR u).ww)]) Try.isAgg28 Try.sizeOf28 rfl rfl rfl (B269.at.sub 0 5) rfl (fun h => h) ?_
   have B270 := (B263.kx u267)
   refine y_loadN (vs := [.int .i64 ((nth hs n).f), .int .i64 ((nth hs n).u), .slice ((nth hs n).ap) ((nth hs n).ps.length) ((nth hs n).cp), .slice aoY253 (((nth R2 n).xs).length) cY253]) Try.isAgg74 Try.sizeOf74 rfl rfl rfl (B270.at.sub 0 4) rfl (fun h => h) (y_move rfl rfl rfl (y_move rfl rfl rfl ?_))
   have D271 := (((((((D198.keep u210 (fun hb => show ¬ (gx = bk118 ∨ ba ≤ gx) by first | omega | assumption)).keep u235 (fun _ h => h)).keep u245 (fun _ h => h)).keep u248 (fun hb => show ¬ (gx = bk242) by first | omega | assumption)).keep u257 (fun _ h => h)).keep u262 (fun hb => show ¬ (gx = bk242) by first | omega | assumption)).keep u267 (fun _ h => h))
   have i272 : i9 < xs.length := (by omega)
   refine y_index (j := i9) Try.underlying63 Try.sizeOf77 rfl rfl rfl rfl ((D271.sl (fun _ => rfl)).addr (by omega)) rfl i272 ?_
   have D273 := (((((((D198.keep u210 (fun hb => show ¬ (gx = bk118 ∨ ba ≤ gx) by first | omega | assumption)).keep u235 (fun _ h => h)).keep u245 (fun _ h => h)).keep u248 (fun hb => show ¬ (gx = bk242) by first | omega | assumption)).keep u257 (fun _ h => h)).keep u262 (fun hb => show ¬ (gx = bk242) by first | omega | assumption)).keep u267 (fun _ h => h))
   refine y_loadN (vs := [.int .i64 ((nth xs i9).r), .int .i64 ((nth xs i9).t.bl), .int .i64 ((nth xs i9).t.bh), .int .i64 ((nth xs i9).t.el), .int .i64 ((nth xs i9).t.eh), .int .i64 ((nth xs i9).h), .int .i64 ((nth xs i9).p)]) Try.isAgg77 Try.sizeOf77 rfl rfl rfl (((D273.sl (fun _ => rfl)).at_ i9 (by omega)).sub 0 7) rfl (fun h => h) (s_do ?_)
   have D274 := ((haY253.keep u262 (fun hb => show ¬ (gY253 = bk242) by first | omega | assumption)).keep u267 (fun _ h => h))
   have D275 := (((((((((((((((((D29.keep u32 (fun i hi h => h)).keep u39 (fun i hi h => h)).keep u45 (fun i hi h => h)).keep u121 (fun i hi h => h)).keep u124 (fun i hi => show ¬ (i = bk118) by omega)).keep u131 (fun i hi => show ¬ (i = bk118) by omega)).keep u161 (fun i hi h => h)).keep u169 (fun i hi => show ¬ (i = bk118 ∨ ba ≤ i) by omega)).keep u188 (fun i hi h => h)).keep u193 (fun i hi h => h)).keep u210 (fun i hi => show ¬ (i = bk118 ∨ ba ≤ i) by omega)).keep u235 (fun i hi h => h)).keep u245 (fun i hi h => h)).keep u248 (fun i hi => show ¬ (i = bk242) by omega)).keep u257 (fun i hi h => h)).keep u262 (fun i hi => show ¬ (i = bk242) by omega)).keep u267 (fun i hi h => h))
   refine t_call own21 rfl rfl rfl rfl (May_ok (f := (nth hs n).f) (u := (nth hs n).u) (ps := (nth hs n).ps) (nth hs n).ap (nth hs n).bp (nth hs n).op (nth hs n).cp (ds := (nth R2 n).xs) aoY253 gY253 0 cY253 (x := (nth xs i9)) _ (D275 _ (nth_mem (by omega))).1.hp (hsM (nth hs n) (nth_mem (by omega))).1.hpl (D274.sl (fun _ => rfl)) (by omega) hr hokn (hox _ (nth_mem (by omega))) hmy (by omega)) (fun v276 w277 r279 => ?_)
   obtain ⟨rfl, u278⟩ := r279
   have zu278 := u278.size
   refine s_next ((Upd.refl _ _).nx u278) (y_move rfl rfl rfl (y_extract rfl rfl rfl rfl (y_extract rfl rfl rfl rfl (y_extract rfl rfl rfl rfl (y_assign rfl rfl rfl (y_assign rfl rfl rfl (y_assign rfl rfl rfl (s_nil (hK265 _ _ (c_seq fun K281 hK281 => (c_seq fun K282 hK282 => (c_region (t_move rfl rfl rfl (t_cmp rfl rfl rfl rfl rfl (t_samehd (v := .bool false) rfl (t_move rfl rfl rfl (t_move rfl rfl rfl (t_not rfl rfl rfl (t_pick_f rfl rfl rfl rfl (t_nil' (hK282 _ _ (c_cond_f rfl (c_skip ?_)))))))))))))))))))))))
   refine hK281 _ _ (c_cut (γ := Nat) (fun zz => [(1, .int .u8 q9), (5, .pointer (some ⟨bk13, 0, none⟩)), (6, .slice ah hs.length ch), (7, .slice ax xs.length cx), (8, .slice apS rows.length cpS), (17, .pointer (some ⟨bk118, 0, none⟩)), (19, .slice at_ tr.length ct), (20, .int .i64 (i9 : Int)), (21, .int .i64 (pltN (nth xs i9) M (ns.take (k9 + 1)))), (22, .slice ao2 ot.length co2), (23, .int .i64 (k9 : Int)), (24, .int .i64 (n : Int)), (25, .pointer (some ⟨bk242, 0, none⟩))]) (fun zz w => Upd (fun _ => False) w277 w) (fun K284 hK284 => ?_) ?_)
   ·
    refine c_seq fun K287 hK287 => (c_region (t_move rfl rfl rfl (t_nil' (hK287 _ _ (c_cond rfl (fun g219 => ?_) (fun g219 => ?_))))))
    ·
     have hplt : pltN (nth xs i9) M (ns.take k9) + 1 = pltN (nth xs i9) M (ns.take (k9 + 1)) := by
       rw [pltN_take (by omega), ← hn]
       unfold pltI
       rw [h5a]
       show _ = _ + if pltP (nth hs n).ps (nth xs i9) = true then 1 else 0
       rw [g219]; simp
     refine c_region (t_move rfl rfl rfl (t_ari rfl rfl rfl rfl rfl (by omega) (t_assign rfl rfl rfl (t_nil' ?_))))
     exact hK284 0 _ _ ⟨rfl, rfl, rfl, rfl, rfl, rfl, rfl, rfl, (congrArg (fun z => some (Value.int .i64 z)) hplt), rfl, rfl, rfl, rfl, trivial⟩ (Upd.refl _ _)
    have hplt : pltN (nth xs i9) M (ns.take k9) = pltN (nth xs i9) M (ns.take (k9 + 1)) := by
      rw [pltN_take (by omega), ← hn]
      unfold pltI
      rw [h5a]
      show _ = _ + if pltP (nth hs n).ps (nth xs i9) = true then 1 else 0
      rw [g219]; simp
    refine c_skip ?_
    exact hK284 0 _ _ ⟨rfl, rfl, rfl, rfl, rfl, rfl, rfl, rfl, (congrArg (fun z => some (Value.int .i64 z)) hplt), rfl, rfl, rfl, rfl, trivial⟩ (Upd.refl _ _)
   intro zz w285 u286
   have zu286 := u286.size
   refine c_seq fun K289 hK289 => (c_drawnM follows (fun i => (i = (nth R2 n).g ∧ ba ≤ i) ∨ i = bk118) (.look 0 (.look 1 (.look 2 (.look 4 (.look 5 (.look 6 (.look 7 (.look 8 (.act 3 (.act 9 (.act 10 (.look 11 (.act 12 .done .stop)) .stop) .stop) (.act 9 (.act 3 (.act 10 (.look 11 (.act 12 .done .stop)) .stop) .stop) .stop)))))))))) (by kernel_rfl) fun w290 u291 => ?_)
   have zu291 := u291.size
   refine y_move rfl rfl rfl (y_move rfl rfl rfl (y_indexArr (j := n) (0 + n * 1) Try.underlying71 Try.sizeOf30 rfl rfl rfl rfl rfl (by omega) rfl (y_move rfl rfl rfl (y_move rfl rfl rfl ?_))))
   have D293 := (((D271.keep u278 (fun _ h => h)).keep u286 (fun _ h => h)).keep u291 (fun _ h => h))
   have i294 : i9 < xs.length := (by omega)
   refine y_index (j := i9) Try.underlying63 Try.sizeOf77 rfl rfl rfl rfl ((D293.sl (fun _ => rfl)).addr (by omega)) rfl i294 (y_field Try.underlying77 rfl Try.sizeOf40 (0 + i9 * 7 + 1) rfl rfl rfl rfl ?_)
   have D295 := (((D271.keep u278 (fun _ h => h)).keep u286 (fun _ h => h)).keep u291 (fun _ h => h))
   refine y_loadN (vs := [.int .i64 ((nth xs i9).t.bl), .int .i64 ((nth xs i9).t.bh), .int .i64 ((nth xs i9).t.el), .int .i64 ((nth xs i9).t.eh)]) Try.isAgg40 Try.sizeOf40 rfl rfl rfl (((D295.sl (fun _ => rfl)).at_ i9 (by omega)).sub 1 4) rfl (by show ¬ ((gx = (nth R2 n).g ∧ ba ≤ gx) ∨ gx = bk118); first | omega | assumption) (s_or ?_ ?_)
   ·
    refine s_do ?_
    have D296 := ((((((D252.keep u257 (fun _ h => h)).keep u262 (fun hb => show ¬ (bk118 = bk242) by first | omega | assumption)).keep u267 (fun _ h => h)).keep u278 (fun _ h => h)).keep u286 (fun _ h => h)).keep u291 (fun _ h => h))
    refine t_load Try.isAgg30 rfl rfl rfl (((D296.sl (fun _ => rfl)).at_ n (by omega)) 0 _ rfl) (s_next (Upd.refl _ _) (s_do (t_bslice (ps := [(0, .agg #[.int .i64 ((nth xs i9).t.bl), .int .i64 ((nth xs i9).t.bh), .int .i64 ((nth xs i9).t.el), .int .i64 ((nth xs i9).t.eh)])]) (cs := [.int .i64 ((nth xs i9).t.bl), .int .i64 ((nth xs i9).t.bh), .int .i64 ((nth xs i9).t.el), .int .i64 ((nth xs i9).t.eh)]) (e := 40) rfl rfl ⟨rfl, rfl⟩ (fun w => by kernel_rfl) (fun bk297 w298 ebk297 sbk297 B299 u300 => ?_))))
    have zu300 := u300.size
    refine s_next ((Upd.refl _ _).nx u300) (s_do ?_)
    have D302 := (((((((D254.keep u257 (fun i hb hi h => h)).keep u262 (fun i hb hi => show ¬ (i = bk242) by omega)).keep u267 (fun i hb hi h => h)).keep u278 (fun i hb hi h => h)).keep u286 (fun i hb hi h => h)).keep u291 (fun i hb hi h => h)).keep u300 (fun i hb hi h => h))
    have D303 := ((((((((((hot.keep u235 (fun _ h => h)).keep u245 (fun _ h => h)).keep u248 (fun hb => show ¬ (go2 = bk242) by first | omega | assumption)).keep u257 (fun _ h => h)).keep u262 (fun hb => show ¬ (go2 = bk242) by first | omega | assumption)).keep u267 (fun _ h => h)).keep u278 (fun _ h => h)).keep u286 (fun _ h => h)).keep u291 (fun _ h => h)).keep u300 (fun _ h => h))
    have D304 := ((((((((((htr2.keep u235 (fun _ h => h)).keep u245 (fun _ h => h)).keep u248 (fun hb => show ¬ (gt = bk242) by first | omega | assumption)).keep u257 (fun _ h => h)).keep u262 (fun hb => show ¬ (gt = bk242) by first | omega | assumption)).keep u267 (fun _ h => h)).keep u278 (fun _ h => h)).keep u286 (fun _ h => h)).keep u291 (fun _ h => h)).keep u300 (fun _ h => h))
    have hDNp := D302
    have hRn0 := hDN2.mem n (by omega)
    have hRn1 := hDNp.mem n (by omega)
    have hne1 : go2 ≠ (nth R2 n).g := (D303).neU hRn1 (by decide) hbo.2 (by omega)
    have hne2 : gt ≠ (nth R2 n).g := (D304).neU hRn1 (by decide) hgt9 (by omega)
    have hgn := hlt2 n (by omega)
    have h000 := hgn
    refine t_append (z := .agg #[.int .i64 0, .int .i64 0, .int .i64 0, .int .i64 0]) (bytes := 32) (k := 4) (base := ba) ((nth xs i9).t) Try.underlying30 (by kernel_rfl) rfl (by decide) (fun _ => rfl) (by intro x; simp [encDty, Value.oneCell']) rfl rfl rfl rfl (D302.mem n (by omega)) B299 (by omega) (by omega) (by decide) (fun ao305 gb306 cp307 w308 A309 u310 gegb306 lngb306 => ?_)
    have zu310 := u310.size
    have lt_gb306 := A309.lt
    refine s_next ((Upd.refl _ _).next u310 (fun i hi (h : (i = (nth R2 n).g ∧ ba ≤ i)) => show w290.heap.size ≤ i ∨ ((i = (nth R2 n).g ∧ ba ≤ i) ∨ i = bk118) by first | omega | exact .inr h)) (y_indexArr (j := n) (0 + n * 1) Try.underlying71 Try.sizeOf30 rfl rfl rfl rfl rfl (by omega) rfl (s_do ?_))
    have D312 := ((D296.keep u300 (fun _ h => h)).keep u310 (fun hb => show ¬ ((bk118 = (nth R2 n).g ∧ ba ≤ bk118)) by first | omega | assumption))
    refine t_storeA (vs := [.slice ao305 ((((nth R2 n).xs ++ [((nth xs i9).t)])).length) cp307]) (j := n) (o' := 0) (k := 1) (⟨((nth R2 n).xs ++ [((nth xs i9).t)]), ao305, gb306, cp307⟩ : HD) (fun _ => rfl) Try.sizeOf30 rfl rfl (by omega) rfl D312 (by first | omega | (simp only [List.length_set, eRuns_len]; omega)) rfl rfl (by decide) (by simp [Value.oneCell']) rfl (fun w313 R315 u314 => ?_)
    have zu314 := u314.size
    have D317 := (A309.keep u314 (fun hb => show ¬ (gb306 = bk118) by first | omega | assumption))
    have hDN3 := hDNp.put (n := n) (B' := w313.heap.size) (by omega) (((Upd.refl (fun i => (i = (nth R2 n).g ∧ ba ≤ i) ∨ i = bk118) w298).next u310 (fun i hi (h : (i = (nth R2 n).g ∧ ba ≤ i)) => show (i = (nth R2 n).g ∧ ba ≤ i) ∨ i = bk118 by omega)).next u314 (fun i hi (h : i = bk118) => show (i = (nth R2 n).g ∧ ba ≤ i) ∨ i = bk118 by omega)) (fun i h1 h2 h3 => by omega) D317 (fun hq => by omega) (by omega) (by omega)
    have hdn3 := R315
    obtain ⟨R3, hR3⟩ : ∃ R3, R3 = (R2.set n (⟨((nth R2 n).xs ++ [((nth xs i9).t)]), ao305, gb306, cp307⟩ : HD)) := ⟨_, rfl⟩
    rw [← hR3] at hDN3 hdn3
    have hR35 : R3.length = 5 := by rw [hR3, List.length_set]; exact hR25
    have hR3n : (nth R3 n).xs = (nth R2 n).xs ++ [(nth xs i9).t] := by rw [hR3, nth_set' (by omega), if_pos rfl]
    have hR3l : (nth R3 n).xs.length = (nth R2 n).xs.length + 1 := by rw [hR3n, List.length_append, List.length_singleton]
    have hok3 : ∀ d ∈ (nth R3 n).xs, okDty d = true := by rw [hR3n]; exact ok_snoc hod2 (okLeg_ok (hox _ (nth_mem (show i9 < xs.length by omega)))).1
    have hnew3 : ∀ j, j < hs.length → (nth R3 j).xs = (if j ∈ ns.take (k9 + 1) then (nth R j).xs ++ [(nth xs i9).t] else (nth R j).xs) := fun j hj => by
      rw [take_nth (show k9 < ns.length by omega), ← hn, hR3, nth_set' (by omega)]
      by_cases e : j = n
      · rw [if_pos e, e, if_pos (by simp), hR2n]
      · rw [if_neg e, hR2 j hj]
        by_cases q : j ∈ ns.take k9
        · rw [if_pos q, if_pos (List.mem_append_left _ q)]
        · rw [if_neg q, if_neg (fun h => (List.mem_append.1 h).elim q (fun h => e (List.mem_singleton.1 h)))]
    have lt_bk118 := hdn3.lt
    refine s_next ((Upd.refl _ _).next u314 (fun i hi (h : i = bk118) => show w290.heap.size ≤ i ∨ ((i = (nth R2 n).g ∧ ba ≤ i) ∨ i = bk118) by first | omega | exact .inr h)) (s_nil (hK289 _ _ (c_seq fun K318 hK318 => (c_drawnM follows (fun _ => False) (.look 0 (.look 1 (.look 2 (.look 3 (.act 4 (.act 5 (.look 6 (.look 7 (.look 8 (.look 9 (.look 10 (.look 11 (.look 12 (.look 13 (.look 14 .done))))))))) .stop) .stop))))) (by kernel_rfl) fun w319 u320 => ?_))))
    have zu320 := u320.size
    have B322 := (((((((((((((((((((((((((B20.kx u24).kx u32).kx u39).kx u45).kx u121).keep u124 (by omega)).keep u131 (by omega)).kx u161).keep u169 (show ¬ (bk13 = bk118 ∨ ba ≤ bk13) by first | omega | assumption)).kx u188).kx u193).keep u210 (show ¬ (bk13 = bk118 ∨ ba ≤ bk13) by first | omega | assumption)).kx u235).kx u245).keep u248 (by omega)).kx u257).keep u262 (by omega)).kx u267).kx u278).kx u286).kx u291).kx u300).keep u310 (by omega)).keep u314 (by omega)).kx u320)
    refine y_loadN (vs := [.int .i64 ((smR u).rest), .int .i64 ((smR u).span), .int .i64 ((smR u).work), .int .i64 ((smR u).week), .int .i64 ((smR u).ww)]) Try.isAgg28 Try.sizeOf28 rfl rfl rfl (B322.at.sub 0 5) rfl (fun h => h) (y_move rfl rfl rfl (y_indexArr (j := n) (0 + n * 1) Try.underlying71 Try.sizeOf30 rfl rfl rfl rfl rfl (by omega) rfl ?_))
    have D323 := (hdn3.keep u320 (fun _ h => h))
    refine y_load Try.isAgg30 rfl rfl rfl (((D323.sl (fun _ => rfl)).at_ n (by omega)) 0 _ rfl) (fun h => h) (s_do ?_)
    have D325 := (hDN3.keep u320 (fun i hb hi h => h))
    refine t_call own11 rfl rfl rfl rfl (duties_c ((nth R3 n).xs) ((nth R3 n).ao) (nth R3 n).g 0 ((nth R3 n).cap) _ ((D325.mem n (by omega)).sl (fun _ => rfl)) (by omega) (by omega)) (fun v326 w327 r329 => ?_)
    obtain ⟨⟨aoY324, gY324, cY324, rfl, haY324⟩, u328⟩ := r329
    have zu328 := u328.size
    have lt_gY324 := haY324.lt
    refine s_next ((Upd.refl _ _).nx u328) (s_do (t_call own10 rfl rfl rfl rfl (Rested_v aoY324 gY324 0 cY324 _ (haY324.sl (fun _ => rfl)) (chk_of hr (by omega) hok3) (by omega)) (fun v331 w332 r334 => ?_)))
    obtain ⟨⟨atn, rulen, rfl, hRn⟩, u333⟩ := r334
    have zu333 := u333.size
    obtain rfl : atn = -1 := by
      have h9 := rest_at hr hok3 hRn
      have h8 := h9.1.2 (by rw [hR3n]; exact hbrk)
      rcases h9.2.1 with h7 | h7
      · exact h7
      · omega
    refine s_next ((Upd.refl _ _).nx u333) (y_move rfl rfl rfl (y_extract rfl rfl rfl rfl (y_extract rfl rfl rfl rfl (y_extract rfl rfl rfl rfl (y_extract rfl rfl rfl rfl (y_assign rfl rfl rfl (y_assign rfl rfl rfl (y_assign rfl rfl rfl (y_assign rfl rfl rfl (s_nil (hK318 _ _ (c_seq fun K336 hK336 => (c_seq fun K337 hK337 => (c_drawnM follows (fun _ => False) (.look 0 (.look 1 (.look 2 (.look 3 (.look 4 (.look 5 (.look 6 (.look 7 (.look 8 (.look 9 (.look 10 (.look 11 (.look 12 (.look 13 (.look 14 (.look 15 (.look 16 (.look 17 (.look 18 (.look 19 (.look 20 (.look 21 (.look 22 (.look 23 (.look 24 (.look 25 (.look 26 (.look 27 (.look 28 (.look 29 .done)))))))))))))))))))))))))))))) (by kernel_rfl) fun w338 u339 => ?_))))))))))))))
    have zu339 := u339.size
    refine y_move rfl rfl rfl (y_cmp rfl rfl rfl rfl rfl (y_samehd (v := .bool false) rfl (y_move rfl rfl rfl (y_move rfl rfl rfl (y_cmp rfl rfl rfl rfl rfl (y_samehd (v := .bool false) rfl (y_pick_f rfl rfl rfl rfl (y_move rfl rfl rfl (y_move rfl rfl rfl (y_move rfl rfl rfl ?_))))))))))
    have D341 := (((((((D293.keep u300 (fun _ h => h)).keep u310 (fun hb => show ¬ ((gx = (nth R2 n).g ∧ ba ≤ gx)) by first | omega | assumption)).keep u314 (fun hb => show ¬ (gx = bk118) by first | omega | assumption)).keep u320 (fun _ h => h)).keep u328 (fun _ h => h)).keep u333 (fun _ h => h)).keep u339 (fun _ h => h))
    have i342 : i9 < xs.length := (by omega)
    refine y_index (j := i9) Try.underlying63 Try.sizeOf77 rfl rfl rfl rfl ((D341.sl (fun _ => rfl)).addr (by omega)) rfl i342 (y_field Try.underlying77 rfl Try.sizeOf40 (0 + i9 * 7 + 1) rfl rfl rfl rfl (y_field Try.underlying40 rfl Try.sizeOf38 (0 + i9 * 7 + 1 + 0) rfl rfl rfl rfl (y_field Try.underlying38 rfl Try.sizeOf3 (0 + i9 * 7 + 1 + 0 + 0) rfl rfl rfl rfl ?_)))
    have D343 := (((((((D293.keep u300 (fun _ h => h)).keep u310 (fun hb => show ¬ ((gx = (nth R2 n).g ∧ ba ≤ gx)) by first | omega | assumption)).keep u314 (fun hb => show ¬ (gx = bk118) by first | omega | assumption)).keep u320 (fun _ h => h)).keep u328 (fun _ h => h)).keep u333 (fun _ h => h)).keep u339 (fun _ h => h))
    refine y_load Try.isAgg3 rfl rfl rfl (((D343.sl (fun _ => rfl)).at_ i9 (by omega)) 1 _ rfl) (fun h => h) (y_field Try.underlying74 rfl Try.sizeOf3 (0) rfl rfl rfl rfl ?_)
    have B344 := (((((((((((B263.kx u267).kx u278).kx u286).kx u291).kx u300).keep u310 (by omega)).keep u314 (by omega)).kx u320).kx u328).kx u333).kx u339)
    refine y_load Try.isAgg3 rfl rfl rfl (B344.get rfl) (fun h => h) (y_cmp rfl rfl rfl rfl rfl (y_same 261 (v := .bool false) rfl (congrArg Value.bool (decide_eq_false (by omega))) (y_pick_f rfl rfl rfl rfl (y_move rfl rfl rfl (y_move rfl rfl rfl (y_move rfl rfl rfl ?_))))))
    have i345 : i9 < xs.length := (by omega)
    refine y_index (j := i9) Try.underlying63 Try.sizeOf77 rfl rfl rfl rfl ((D341.sl (fun _ => rfl)).addr (by omega)) rfl i345 (y_field Try.underlying77 rfl Try.sizeOf40 (0 + i9 * 7 + 1) rfl rfl rfl rfl (y_field Try.underlying40 rfl Try.sizeOf38 (0 + i9 * 7 + 1 + 2) rfl rfl rfl rfl (y_field Try.underlying38 rfl Try.sizeOf3 (0 + i9 * 7 + 1 + 2 + 1) rfl rfl rfl rfl (y_load Try.isAgg3 rfl rfl rfl (((D343.sl (fun _ => rfl)).at_ i9 (by omega)) 4 _ rfl) (fun h => h) (y_field Try.underlying74 rfl Try.sizeOf3 (1) rfl rfl rfl rfl (y_load Try.isAgg3 rfl rfl rfl (B344.get rfl) (fun h => h) (y_cmp rfl rfl rfl rfl rfl (y_same 273 (v := .bool false) rfl (congrArg Value.bool (decide_eq_false (by omega))) (y_pick_f rfl rfl rfl rfl (s_nil (hK337 _ _ (c_cond_f rfl (c_skip (hK336 _ _ (c_region (t_move rfl rfl rfl (t_bslice (ps := [(0, .int .i64 (n : Int))]) (cs := [.int .i64 (n : Int)]) (e := 3) rfl rfl ⟨rfl, rfl⟩ (fun w => by kernel_rfl) (fun bk346 w347 ebk346 sbk346 B348 u349 => ?_))))))))))))))))))
    have zu349 := u349.size
    refine t_move rfl rfl rfl ?_
    have D351 := (((((((D303.keep u310 (fun hb => show ¬ ((go2 = (nth R2 n).g ∧ ba ≤ go2)) by first | omega | assumption)).keep u314 (fun hb => show ¬ (go2 = bk118) by first | omega | assumption)).keep u320 (fun _ h => h)).keep u328 (fun _ h => h)).keep u333 (fun _ h => h)).keep u339 (fun _ h => h)).keep u349 (fun _ h => h))
    refine t_appLit (enc := encI) (z := .int .i64 0) (bytes := 8) (k := 1) (xs := [(n : Int)]) (ys := ot) Try.underlying75 (by kernel_rfl) rfl (by decide) (fun _ => rfl) (by intro x; simp [encI, Value.oneCell']) rfl rfl rfl rfl B348 (D351.sl (fun _ => rfl)) (by first | decide | simp) (by omega) (by decide) (fun ao352 gb353 cp354 w355 A356 u357 gegb353 => ?_)
    have zu357 := u357.size
    have lt_gb353 := A356.lt
    refine t_assign rfl rfl rfl (t_nil' (hK226 _ _ (c_region (t_move rfl rfl rfl (t_ari rfl rfl rfl rfl rfl (by omega) (t_assign rfl rfl rfl (t_nil' ?_)))))))
    have uI := (((((((((((((((((((Upd.refl (fun i => (i = (nth R2 n).g ∧ ba ≤ i) ∨ i = bk118 ∨ w209.heap.size ≤ i) w209).nx u235).nx u245).next u248 (fun i hi (h : i = bk242) => show (i = (nth R2 n).g ∧ ba ≤ i) ∨ i = bk118 ∨ w209.heap.size ≤ i by omega)).nx u257).next u262 (fun i hi (h : i = bk242) => show (i = (nth R2 n).g ∧ ba ≤ i) ∨ i = bk118 ∨ w209.heap.size ≤ i by omega)).nx u267).nx u278).nx u286).nx u291).nx u300).next u310 (fun i hi (h : (i = (nth R2 n).g ∧ ba ≤ i)) => show (i = (nth R2 n).g ∧ ba ≤ i) ∨ i = bk118 ∨ w209.heap.size ≤ i by omega)).next u314 (fun i hi (h : i = bk118) => show (i = (nth R2 n).g ∧ ba ≤ i) ∨ i = bk118 ∨ w209.heap.size ≤ i by omega)).nx u320).nx u328).nx u333).nx u339).nx u349).next u357 (fun i hi (h : (i = bk346 ∧ bk346 ≤ i)) => show (i = (nth R2 n).g ∧ ba ≤ i) ∨ i = bk118 ∨ w209.heap.size ≤ i by omega))
    have D359 := ((((((hdn3.keep u320 (fun _ h => h)).keep u328 (fun _ h => h)).keep u333 (fun _ h => h)).keep u339 (fun _ h => h)).keep u349 (fun _ h => h)).keep u357 (fun hb => show ¬ ((bk118 = bk346 ∧ bk346 ≤ bk118)) by first | omega | assumption))
    have D360 := (((((D325.keep u328 (fun i hb hi h => h)).keep u333 (fun i hb hi h => h)).keep u339 (fun i hb hi h => h)).keep u349 (fun i hb hi h => h)).keep u357 (fun i hb hi => show ¬ ((i = bk346 ∧ bk346 ≤ i)) by omega))
    have D361 := ((((((((D304.keep u310 (fun hb => show ¬ ((gt = (nth R2 n).g ∧ ba ≤ gt)) by first | omega | assumption)).keep u314 (fun hb => show ¬ (gt = bk118) by first | omega | assumption)).keep u320 (fun _ h => h)).keep u328 (fun _ h => h)).keep u333 (fun _ h => h)).keep u339 (fun _ h => h)).keep u349 (fun _ h => h)).keep u357 (fun hb => show ¬ ((gt = bk346 ∧ bk346 ≤ gt)) by first | omega | assumption))
    exact hK208 (k9 + 1, R3, bk346, ao352, gb353, cp354, ([(n : Int)] ++ ot)) _ _ (by show ns.length - (k9 + 1) < ns.length - k9; omega) ⟨rfl, rfl, rfl, rfl, rfl, rfl, rfl, rfl, rfl, rfl, rfl, trivial⟩ ⟨((((((((((((((((((u210.next u235 (fun _ _ h => h.elim)).next u245 (fun _ _ h => h.elim)).next u248 (fun i hi (h : i = bk242) => show i = bk118 ∨ ba ≤ i by first | omega | assumption)).next u257 (fun _ _ h => h.elim)).next u262 (fun i hi (h : i = bk242) => show i = bk118 ∨ ba ≤ i by first | omega | assumption)).next u267 (fun _ _ h => h.elim)).next u278 (fun _ _ h => h.elim)).next u286 (fun _ _ h => h.elim)).next u291 (fun _ _ h => h.elim)).next u300 (fun _ _ h => h.elim)).next u310 (fun i hi (h : (i = (nth R2 n).g ∧ ba ≤ i)) => show i = bk118 ∨ ba ≤ i by first | omega | assumption)).next u314 (fun i hi (h : i = bk118) => show i = bk118 ∨ ba ≤ i by first | omega | assumption)).next u320 (fun _ _ h => h.elim)).next u328 (fun _ _ h => h.elim)).next u333 (fun _ _ h => h.elim)).next u339 (fun _ _ h => h.elim)).next u349 (fun _ _ h => h.elim)).next u357 (fun i hi (h : (i = bk346 ∧ bk346 ≤ i)) => show i = bk118 ∨ ba ≤ i by first | omega | assumption)), (by omega), hR35, D359, (D360.wide (by omega)), hnew3, (by show bk158 ≤ bk346 ∧ bk346 ≤ gb353; omega), A356, (by rw [take_nth (by omega), hote, ← hn]; simp [castL]), D361, (fun h hh => (hTR2 h hh).upd uI (fun h1 cs hB q => by
      rcases q with q | q | q
      · exact hRn0.notBlk hB (by decide) q
      · omega
      · have := hB.lt; omega))⟩
   refine s_do (t_bslice (ps := [(0, .agg #[.int .i64 ((nth xs i9).t.bl), .int .i64 ((nth xs i9).t.bh), .int .i64 ((nth xs i9).t.el), .int .i64 ((nth xs i9).t.eh)])]) (cs := [.int .i64 ((nth xs i9).t.bl), .int .i64 ((nth xs i9).t.bh), .int .i64 ((nth xs i9).t.el), .int .i64 ((nth xs i9).t.eh)]) (e := 40) rfl rfl ⟨rfl, rfl⟩ (fun w => by kernel_rfl) (fun bk362 w363 ebk362 sbk362 B364 u365 => ?_))
   have zu365 := u365.size
   refine s_next ((Upd.refl _ _).nx u365) (s_do ?_)
   have D367 := (((((((D252.keep u257 (fun _ h => h)).keep u262 (fun hb => show ¬ (bk118 = bk242) by first | omega | assumption)).keep u267 (fun _ h => h)).keep u278 (fun _ h => h)).keep u286 (fun _ h => h)).keep u291 (fun _ h => h)).keep u365 (fun _ h => h))
   refine t_load Try.isAgg30 rfl rfl rfl (((D367.sl (fun _ => rfl)).at_ n (by omega)) 0 _ rfl) (s_next (Upd.refl _ _) (s_do ?_))
   have D368 := (((((((D254.keep u257 (fun i hb hi h => h)).keep u262 (fun i hb hi => show ¬ (i = bk242) by omega)).keep u267 (fun i hb hi h => h)).keep u278 (fun i hb hi h => h)).keep u286 (fun i hb hi h => h)).keep u291 (fun i hb hi h => h)).keep u365 (fun i hb hi h => h))
   have D369 := ((((((((((hot.keep u235 (fun _ h => h)).keep u245 (fun _ h => h)).keep u248 (fun hb => show ¬ (go2 = bk242) by first | omega | assumption)).keep u257 (fun _ h => h)).keep u262 (fun hb => show ¬ (go2 = bk242) by first | omega | assumption)).keep u267 (fun _ h => h)).keep u278 (fun _ h => h)).keep u286 (fun _ h => h)).keep u291 (fun _ h => h)).keep u365 (fun _ h => h))
   have D370 := ((((((((((htr2.keep u235 (fun _ h => h)).keep u245 (fun _ h => h)).keep u248 (fun hb => show ¬ (gt = bk242) by first | omega | assumption)).keep u257 (fun _ h => h)).keep u262 (fun hb => show ¬ (gt = bk242) by first | omega | assumption)).keep u267 (fun _ h => h)).keep u278 (fun _ h => h)).keep u286 (fun _ h => h)).keep u291 (fun _ h => h)).keep u365 (fun _ h => h))
   have hDNp := D368
   have hRn0 := hDN2.mem n (by omega)
   have hRn1 := hDNp.mem n (by omega)
   have hne1 : go2 ≠ (nth R2 n).g := (D369).neU hRn1 (by decide) hbo.2 (by omega)
   have hne2 : gt ≠ (nth R2 n).g := (D370).neU hRn1 (by decide) hgt9 (by omega)
   have hgn := hlt2 n (by omega)
   have h000 := hgn
   refine t_append (z := .agg #[.int .i64 0, .int .i64 0, .int .i64 0, .int .i64 0]) (bytes := 32) (k := 4) (base := ba) ((nth xs i9).t) Try.underlying30 (by kernel_rfl) rfl (by decide) (fun _ => rfl) (by intro x; simp [encDty, Value.oneCell']) rfl rfl rfl rfl (D368.mem n (by omega)) B364 (by omega) (by omega) (by decide) (fun ao371 gb372 cp373 w374 A375 u376 gegb372 lngb372 => ?_)
   have zu376 := u376.size
   have lt_gb372 := A375.lt
   refine s_next ((Upd.refl _ _).next u376 (fun i hi (h : (i = (nth R2 n).g ∧ ba ≤ i)) => show w290.heap.size ≤ i ∨ ((i = (nth R2 n).g ∧ ba ≤ i) ∨ i = bk118) by first | omega | exact .inr h)) (y_indexArr (j := n) (0 + n * 1) Try.underlying71 Try.sizeOf30 rfl rfl rfl rfl rfl (by omega) rfl (s_do ?_))
   have D378 := (D367.keep u376 (fun hb => show ¬ ((bk118 = (nth R2 n).g ∧ ba ≤ bk118)) by first | omega | assumption))
   refine t_storeA (vs := [.slice ao371 ((((nth R2 n).xs ++ [((nth xs i9).t)])).length) cp373]) (j := n) (o' := 0) (k := 1) (⟨((nth R2 n).xs ++ [((nth xs i9).t)]), ao371, gb372, cp373⟩ : HD) (fun _ => rfl) Try.sizeOf30 rfl rfl (by omega) rfl D378 (by first | omega | (simp only [List.length_set, eRuns_len]; omega)) rfl rfl (by decide) (by simp [Value.oneCell']) rfl (fun w379 R381 u380 => ?_)
   have zu380 := u380.size
   have D383 := (A375.keep u380 (fun hb => show ¬ (gb372 = bk118) by first | omega | assumption))
   have hDN3 := hDNp.put (n := n) (B' := w379.heap.size) (by omega) (((Upd.refl (fun i => (i = (nth R2 n).g ∧ ba ≤ i) ∨ i = bk118) w363).next u376 (fun i hi (h : (i = (nth R2 n).g ∧ ba ≤ i)) => show (i = (nth R2 n).g ∧ ba ≤ i) ∨ i = bk118 by omega)).next u380 (fun i hi (h : i = bk118) => show (i = (nth R2 n).g ∧ ba ≤ i) ∨ i = bk118 by omega)) (fun i h1 h2 h3 => by omega) D383 (fun hq => by omega) (by omega) (by omega)
   have hdn3 := R381
   obtain ⟨R3, hR3⟩ : ∃ R3, R3 = (R2.set n (⟨((nth R2 n).xs ++ [((nth xs i9).t)]), ao371, gb372, cp373⟩ : HD)) := ⟨_, rfl⟩
   rw [← hR3] at hDN3 hdn3
   have hR35 : R3.length = 5 := by rw [hR3, List.length_set]; exact hR25
   have hR3n : (nth R3 n).xs = (nth R2 n).xs ++ [(nth xs i9).t] := by rw [hR3, nth_set' (by omega), if_pos rfl]
   have hR3l : (nth R3 n).xs.length = (nth R2 n).xs.length + 1 := by rw [hR3n, List.length_append, List.length_singleton]
   have hok3 : ∀ d ∈ (nth R3 n).xs, okDty d = true := by rw [hR3n]; exact ok_snoc hod2 (okLeg_ok (hox _ (nth_mem (show i9 < xs.length by omega)))).1
   have hnew3 : ∀ j, j < hs.length → (nth R3 j).xs = (if j ∈ ns.take (k9 + 1) then (nth R j).xs ++ [(nth xs i9).t] else (nth R j).xs) := fun j hj => by
     rw [take_nth (show k9 < ns.length by omega), ← hn, hR3, nth_set' (by omega)]
     by_cases e : j = n
     · rw [if_pos e, e, if_pos (by simp), hR2n]
     · rw [if_neg e, hR2 j hj]
       by_cases q : j ∈ ns.take k9
       · rw [if_pos q, if_pos (List.mem_append_left _ q)]
       · rw [if_neg q, if_neg (fun h => (List.mem_append.1 h).elim q (fun h => e (List.mem_singleton.1 h)))]
   have lt_bk118 := hdn3.lt
   refine s_next ((Upd.refl _ _).next u380 (fun i hi (h : i = bk118) => show w290.heap.size ≤ i ∨ ((i = (nth R2 n).g ∧ ba ≤ i) ∨ i = bk118) by first | omega | exact .inr h)) (s_nil (hK289 _ _ (c_seq fun K384 hK384 => (c_drawnM follows (fun _ => False) (.look 0 (.look 1 (.look 2 (.look 3 (.act 4 (.act 5 (.look 6 (.look 7 (.look 8 (.look 9 (.look 10 (.look 11 (.look 12 (.look 13 (.look 14 .done))))))))) .stop) .stop))))) (by kernel_rfl) fun w385 u386 => ?_))))
   have zu386 := u386.size
   have B388 := (((((((((((((((((((((((((B20.kx u24).kx u32).kx u39).kx u45).kx u121).keep u124 (by omega)).keep u131 (by omega)).kx u161).keep u169 (show ¬ (bk13 = bk118 ∨ ba ≤ bk13) by first | omega | assumption)).kx u188).kx u193).keep u210 (show ¬ (bk13 = bk118 ∨ ba ≤ bk13) by first | omega | assumption)).kx u235).kx u245).keep u248 (by omega)).kx u257).keep u262 (by omega)).kx u267).kx u278).kx u286).kx u291).kx u365).keep u376 (by omega)).keep u380 (by omega)).kx u386)
   refine y_loadN (vs := [.int .i64 ((smR u).rest), .int .i64 ((smR u).span), .int .i64 ((smR u).work), .int .i64 ((smR u).week), .int .i64 ((smR u).ww)]) Try.isAgg28 Try.sizeOf28 rfl rfl rfl (B388.at.sub 0 5) rfl (fun h => h) (y_move rfl rfl rfl (y_indexArr (j := n) (0 + n * 1) Try.underlying71 Try.sizeOf30 rfl rfl rfl rfl rfl (by omega) rfl ?_))
   have D389 := (hdn3.keep u386 (fun _ h => h))
   refine y_load Try.isAgg30 rfl rfl rfl (((D389.sl (fun _ => rfl)).at_ n (by omega)) 0 _ rfl) (fun h => h) (s_do ?_)
   have D391 := (hDN3.keep u386 (fun i hb hi h => h))
   refine t_call own11 rfl rfl rfl rfl (duties_c ((nth R3 n).xs) ((nth R3 n).ao) (nth R3 n).g 0 ((nth R3 n).cap) _ ((D391.mem n (by omega)).sl (fun _ => rfl)) (by omega) (by omega)) (fun v392 w393 r395 => ?_)
   obtain ⟨⟨aoY390, gY390, cY390, rfl, haY390⟩, u394⟩ := r395
   have zu394 := u394.size
   have lt_gY390 := haY390.lt
   refine s_next ((Upd.refl _ _).nx u394) (s_do (t_call own10 rfl rfl rfl rfl (Rested_v aoY390 gY390 0 cY390 _ (haY390.sl (fun _ => rfl)) (chk_of hr (by omega) hok3) (by omega)) (fun v397 w398 r400 => ?_)))
   obtain ⟨⟨atn, rulen, rfl, hRn⟩, u399⟩ := r400
   have zu399 := u399.size
   obtain rfl : atn = -1 := by
     have h9 := rest_at hr hok3 hRn
     have h8 := h9.1.2 (by rw [hR3n]; exact hbrk)
     rcases h9.2.1 with h7 | h7
     · exact h7
     · omega
   refine s_next ((Upd.refl _ _).nx u399) (y_move rfl rfl rfl (y_extract rfl rfl rfl rfl (y_extract rfl rfl rfl rfl (y_extract rfl rfl rfl rfl (y_extract rfl rfl rfl rfl (y_assign rfl rfl rfl (y_assign rfl rfl rfl (y_assign rfl rfl rfl (y_assign rfl rfl rfl (s_nil (hK384 _ _ (c_seq fun K402 hK402 => (c_seq fun K403 hK403 => (c_drawnM follows (fun _ => False) (.look 0 (.look 1 (.look 2 (.look 3 (.look 4 (.look 5 (.look 6 (.look 7 (.look 8 (.look 9 (.look 10 (.look 11 (.look 12 (.look 13 (.look 14 (.look 15 (.look 16 (.look 17 (.look 18 (.look 19 (.look 20 (.look 21 (.look 22 (.look 23 (.look 24 (.look 25 (.look 26 (.look 27 (.look 28 (.look 29 .done)))))))))))))))))))))))))))))) (by kernel_rfl) fun w404 u405 => ?_))))))))))))))
   have zu405 := u405.size
   refine y_move rfl rfl rfl (y_cmp rfl rfl rfl rfl rfl (y_samehd (v := .bool false) rfl (y_move rfl rfl rfl (y_move rfl rfl rfl (y_cmp rfl rfl rfl rfl rfl (y_samehd (v := .bool false) rfl (y_pick_f rfl rfl rfl rfl (y_move rfl rfl rfl (y_move rfl rfl rfl (y_move rfl rfl rfl ?_))))))))))
   have D407 := (((((((D293.keep u365 (fun _ h => h)).keep u376 (fun hb => show ¬ ((gx = (nth R2 n).g ∧ ba ≤ gx)) by first | omega | assumption)).keep u380 (fun hb => show ¬ (gx = bk118) by first | omega | assumption)).keep u386 (fun _ h => h)).keep u394 (fun _ h => h)).keep u399 (fun _ h => h)).keep u405 (fun _ h => h))
   have i408 : i9 < xs.length := (by omega)
   refine y_index (j := i9) Try.underlying63 Try.sizeOf77 rfl rfl rfl rfl ((D407.sl (fun _ => rfl)).addr (by omega)) rfl i408 (y_field Try.underlying77 rfl Try.sizeOf40 (0 + i9 * 7 + 1) rfl rfl rfl rfl (y_field Try.underlying40 rfl Try.sizeOf38 (0 + i9 * 7 + 1 + 0) rfl rfl rfl rfl (y_field Try.underlying38 rfl Try.sizeOf3 (0 + i9 * 7 + 1 + 0 + 0) rfl rfl rfl rfl ?_)))
   have D409 := (((((((D293.keep u365 (fun _ h => h)).keep u376 (fun hb => show ¬ ((gx = (nth R2 n).g ∧ ba ≤ gx)) by first | omega | assumption)).keep u380 (fun hb => show ¬ (gx = bk118) by first | omega | assumption)).keep u386 (fun _ h => h)).keep u394 (fun _ h => h)).keep u399 (fun _ h => h)).keep u405 (fun _ h => h))
   refine y_load Try.isAgg3 rfl rfl rfl (((D409.sl (fun _ => rfl)).at_ i9 (by omega)) 1 _ rfl) (fun h => h) (y_field Try.underlying74 rfl Try.sizeOf3 (0) rfl rfl rfl rfl ?_)
   have B410 := (((((((((((B263.kx u267).kx u278).kx u286).kx u291).kx u365).keep u376 (by omega)).keep u380 (by omega)).kx u386).kx u394).kx u399).kx u405)
   refine y_load Try.isAgg3 rfl rfl rfl (B410.get rfl) (fun h => h) (y_cmp rfl rfl rfl rfl rfl (y_same 261 (v := .bool false) rfl (congrArg Value.bool (decide_eq_false (by omega))) (y_pick_f rfl rfl rfl rfl (y_move rfl rfl rfl (y_move rfl rfl rfl (y_move rfl rfl rfl ?_))))))
   have i411 : i9 < xs.length := (by omega)
   refine y_index (j := i9) Try.underlying63 Try.sizeOf77 rfl rfl rfl rfl ((D407.sl (fun _ => rfl)).addr (by omega)) rfl i411 (y_field Try.underlying77 rfl Try.sizeOf40 (0 + i9 * 7 + 1) rfl rfl rfl rfl (y_field Try.underlying40 rfl Try.sizeOf38 (0 + i9 * 7 + 1 + 2) rfl rfl rfl rfl (y_field Try.underlying38 rfl Try.sizeOf3 (0 + i9 * 7 + 1 + 2 + 1) rfl rfl rfl rfl (y_load Try.isAgg3 rfl rfl rfl (((D409.sl (fun _ => rfl)).at_ i9 (by omega)) 4 _ rfl) (fun h => h) (y_field Try.underlying74 rfl Try.sizeOf3 (1) rfl rfl rfl rfl (y_load Try.isAgg3 rfl rfl rfl (B410.get rfl) (fun h => h) (y_cmp rfl rfl rfl rfl rfl (y_same 273 (v := .bool false) rfl (congrArg Value.bool (decide_eq_false (by omega))) (y_pick_f rfl rfl rfl rfl (s_nil (hK403 _ _ (c_cond_f rfl (c_skip (hK402 _ _ (c_region (t_move rfl rfl rfl (t_bslice (ps := [(0, .int .i64 (n : Int))]) (cs := [.int .i64 (n : Int)]) (e := 3) rfl rfl ⟨rfl, rfl⟩ (fun w => by kernel_rfl) (fun bk412 w413 ebk412 sbk412 B414 u415 => ?_))))))))))))))))))
   have zu415 := u415.size
   refine t_move rfl rfl rfl ?_
   have D417 := (((((((D369.keep u376 (fun hb => show ¬ ((go2 = (nth R2 n).g ∧ ba ≤ go2)) by first | omega | assumption)).keep u380 (fun hb => show ¬ (go2 = bk118) by first | omega | assumption)).keep u386 (fun _ h => h)).keep u394 (fun _ h => h)).keep u399 (fun _ h => h)).keep u405 (fun _ h => h)).keep u415 (fun _ h => h))
   refine t_appLit (enc := encI) (z := .int .i64 0) (bytes := 8) (k := 1) (xs := [(n : Int)]) (ys := ot) Try.underlying75 (by kernel_rfl) rfl (by decide) (fun _ => rfl) (by intro x; simp [encI, Value.oneCell']) rfl rfl rfl rfl B414 (D417.sl (fun _ => rfl)) (by first | decide | simp) (by omega) (by decide) (fun ao418 gb419 cp420 w421 A422 u423 gegb419 => ?_)
   have zu423 := u423.size
   have lt_gb419 := A422.lt
   refine t_assign rfl rfl rfl (t_nil' (hK226 _ _ (c_region (t_move rfl rfl rfl (t_ari rfl rfl rfl rfl rfl (by omega) (t_assign rfl rfl rfl (t_nil' ?_)))))))
   have uI := (((((((((((((((((((Upd.refl (fun i => (i = (nth R2 n).g ∧ ba ≤ i) ∨ i = bk118 ∨ w209.heap.size ≤ i) w209).nx u235).nx u245).next u248 (fun i hi (h : i = bk242) => show (i = (nth R2 n).g ∧ ba ≤ i) ∨ i = bk118 ∨ w209.heap.size ≤ i by omega)).nx u257).next u262 (fun i hi (h : i = bk242) => show (i = (nth R2 n).g ∧ ba ≤ i) ∨ i = bk118 ∨ w209.heap.size ≤ i by omega)).nx u267).nx u278).nx u286).nx u291).nx u365).next u376 (fun i hi (h : (i = (nth R2 n).g ∧ ba ≤ i)) => show (i = (nth R2 n).g ∧ ba ≤ i) ∨ i = bk118 ∨ w209.heap.size ≤ i by omega)).next u380 (fun i hi (h : i = bk118) => show (i = (nth R2 n).g ∧ ba ≤ i) ∨ i = bk118 ∨ w209.heap.size ≤ i by omega)).nx u386).nx u394).nx u399).nx u405).nx u415).next u423 (fun i hi (h : (i = bk412 ∧ bk412 ≤ i)) => show (i = (nth R2 n).g ∧ ba ≤ i) ∨ i = bk118 ∨ w209.heap.size ≤ i by omega))
   have D425 := ((((((hdn3.keep u386 (fun _ h => h)).keep u394 (fun _ h => h)).keep u399 (fun _ h => h)).keep u405 (fun _ h => h)).keep u415 (fun _ h => h)).keep u423 (fun hb => show ¬ ((bk118 = bk412 ∧ bk412 ≤ bk118)) by first | omega | assumption))
   have D426 := (((((D391.keep u394 (fun i hb hi h => h)).keep u399 (fun i hb hi h => h)).keep u405 (fun i hb hi h => h)).keep u415 (fun i hb hi h => h)).keep u423 (fun i hb hi => show ¬ ((i = bk412 ∧ bk412 ≤ i)) by omega))
   have D427 := ((((((((D370.keep u376 (fun hb => show ¬ ((gt = (nth R2 n).g ∧ ba ≤ gt)) by first | omega | assumption)).keep u380 (fun hb => show ¬ (gt = bk118) by first | omega | assumption)).keep u386 (fun _ h => h)).keep u394 (fun _ h => h)).keep u399 (fun _ h => h)).keep u405 (fun _ h => h)).keep u415 (fun _ h => h)).keep u423 (fun hb => show ¬ ((gt = bk412 ∧ bk412 ≤ gt)) by first | omega | assumption))
   exact hK208 (k9 + 1, R3, bk412, ao418, gb419, cp420, ([(n : Int)] ++ ot)) _ _ (by show ns.length - (k9 + 1) < ns.length - k9; omega) ⟨rfl, rfl, rfl, rfl, rfl, rfl, rfl, rfl, rfl, rfl, rfl, trivial⟩ ⟨((((((((((((((((((u210.next u235 (fun _ _ h => h.elim)).next u245 (fun _ _ h => h.elim)).next u248 (fun i hi (h : i = bk242) => show i = bk118 ∨ ba ≤ i by first | omega | assumption)).next u257 (fun _ _ h => h.elim)).next u262 (fun i hi (h : i = bk242) => show i = bk118 ∨ ba ≤ i by first | omega | assumption)).next u267 (fun _ _ h => h.elim)).next u278 (fun _ _ h => h.elim)).next u286 (fun _ _ h => h.elim)).next u291 (fun _ _ h => h.elim)).next u365 (fun _ _ h => h.elim)).next u376 (fun i hi (h : (i = (nth R2 n).g ∧ ba ≤ i)) => show i = bk118 ∨ ba ≤ i by first | omega | assumption)).next u380 (fun i hi (h : i = bk118) => show i = bk118 ∨ ba ≤ i by first | omega | assumption)).next u386 (fun _ _ h => h.elim)).next u394 (fun _ _ h => h.elim)).next u399 (fun _ _ h => h.elim)).next u405 (fun _ _ h => h.elim)).next u415 (fun _ _ h => h.elim)).next u423 (fun i hi (h : (i = bk412 ∧ bk412 ≤ i)) => show i = bk118 ∨ ba ≤ i by first | omega | assumption)), (by omega), hR35, D425, (D426.wide (by omega)), hnew3, (by show bk158 ≤ bk412 ∧ bk412 ≤ gb419; omega), A422, (by rw [take_nth (by omega), hote, ← hn]; simp [castL]), D427, (fun h hh => (hTR2 h hh).upd uI (fun h1 cs hB q => by
     rcases q with q | q | q
     · exact hRn0.notBlk hB (by decide) q
     · omega
     · have := hB.lt; omega))⟩
  have hke : k9 = ns.length := by omega
  have hpte := hT.plt
  have hplk : pltN (nth xs i9) M (ns.take k9) = pltN (nth xs i9) M ns := by rw [hke, List.take_length]
  refine c_exit (hK201 _ _ (c_seq fun K428 hK428 => (c_seq fun K429 hK429 => (c_region (t_move rfl rfl rfl (t_move rfl rfl rfl (t_move rfl rfl rfl ?_)))))))
  have D430 := (D198.keep u210 (fun hb => show ¬ (gx = bk118 ∨ ba ≤ gx) by first | omega | assumption))
  have i431 : i9 < xs.length := (by omega)
  refine t_index (j := i9) Try.underlying63 Try.sizeOf77 rfl rfl rfl rfl ((D430.sl (fun _ => rfl)).addr (by omega)) rfl i431 (t_field Try.underlying77 rfl Try.sizeOf3 (0 + i9 * 7 + 6) rfl rfl rfl rfl (t_load Try.isAgg3 rfl rfl rfl (((D430.sl (fun _ => rfl)).at_ i9 (by omega)) 6 _ rfl) (t_cmp rfl rfl rfl rfl rfl (t_same 285 (v := .bool false) rfl (congrArg Value.bool (decide_eq_false (by omega))) (t_nil' (hK429 _ _ (c_cond_f rfl (c_skip (hK428 _ _ (c_region (t_move rfl rfl rfl (t_move rfl rfl rfl (t_bslice (ps := [(0, .slice ao2 ot.length co2)]) (cs := [.slice ao2 ot.length co2]) (e := 75) rfl rfl ⟨rfl, rfl⟩ (fun w => by kernel_rfl) (fun bk432 w433 ebk432 sbk432 B434 u435 => ?_))))))))))))))
  have zu435 := u435.size
  have D437 := (hDN2.keep u435 (fun i hb hi h => h))
  have D438 := (htr2.keep u435 (fun _ h => h))
  have D439 := (hot.keep u435 (fun _ h => h))
  have D440 := (fun h hh => (hTR2 h hh).ext u435)
  have hDNq := D437
  have htrq := D438
  have hotq := D439
  have hTRq := D440
  have hne4 : go2 ≠ gt := hotq.neU htrq (by decide) hbo.2 (by omega)
  have hne5 : ∀ j, j < R2.length → ba ≤ (nth R2 j).g → (nth R2 j).g ≠ gt := fun j hj hb => (hDNq.mem j hj).neAcc htrq (by decide) hb hgt9
  have h000 := hne4
  refine t_append (z := .slice none 0 0) (bytes := 24) (k := 1) (base := bk158) (⟨ot, ao2, go2, 0, co2⟩ : HL) Try.underlying66 (by kernel_rfl) rfl (by decide) (fun _ => rfl) (by intro x; simp [encHL, Value.oneCell']) rfl rfl rfl rfl D438 B434 (by omega) (by omega) (by decide) (fun ao441 gb442 cp443 w444 A445 u446 gegb442 lngb442 => ?_)
  have zu446 := u446.size
  have lt_gb442 := A445.lt
  have D448 := (D439.keep u446 (fun hb => show ¬ ((go2 = gt ∧ bk158 ≤ go2)) by first | omega | assumption))
  have hDNr := hDNq.keep' u446 (fun j hj hb q => hne5 j hj hb q.1)
  have hotr := D448
  have hTRr : ∀ h ∈ tr ++ [(⟨ot, ao2, go2, 0, co2⟩ : HL)], LstC ba w444 h := fun h hh => by
    rcases List.mem_append.1 hh with q | q
    · exact (hTRq h q).upd u446 (fun _ cs hB => htrq.notBlk hB (by decide))
    · rw [List.mem_singleton.1 q]; exact ⟨⟨bo, by omega, hotr⟩, rfl, by show ot.length ≤ 1000000; omega⟩
  refine t_assign rfl rfl rfl (t_nil' (hK183 _ _ (c_region (t_move rfl rfl rfl (t_ari rfl rfl rfl rfl rfl (by omega) (t_assign rfl rfl rfl (t_nil' ?_)))))))
  have hnew5 : ∀ j, j < hs.length → nth (stg (i9 + 1) xs p (ss.map boardP)) j = MbOf (nth hs j).f (nth hs j).u (nth hs j).ps (nth R2 j).xs ∧ (∀ d ∈ (nth R2 j).xs, okDty d = true) ∧ (nth R2 j).xs.length ≤ 1 + (i9 + 1) := fun j hj => by
    obtain ⟨q1, q2, q3⟩ := h5 j hj
    have q4 := hR2 j hj
    rw [hke, List.take_length] at q4
    rw [hstg, aftN_at hT.asc.nodup (fun k hk => (hT.asc.mem hk).2)]
    by_cases e : j ∈ ns
    · rw [if_pos e] at q4 ⊢
      obtain ⟨_, w9, _⟩ := may_of q1 (hT.can j e)
      rw [q4]
      exact ⟨aft_of q1 w9, ok_snoc q2 hol.1, by rw [List.length_append, List.length_singleton]; omega⟩
    · rw [if_neg e] at q4 ⊢
      rw [q4]; exact ⟨q1, q2, by omega⟩
  have hnew8 : ∀ j, j < i9 + 1 → (nth (tr ++ [(⟨ot, ao2, go2, 0, co2⟩ : HL)]) j).xs = (castL (nth p j)).reverse := fun j hj => by
    by_cases e : j < i9
    · rw [nth_snL (by omega)]; exact h8 j e
    · rw [show j = i9 by omega, nth_snE htl.symm]
      show ot = _
      rw [hote, hke, List.take_length, hns]
  have D449 := ((hdn2.keep u435 (fun _ h => h)).keep u446 (fun hb => show ¬ ((bk118 = gt ∧ bk158 ≤ bk118)) by first | omega | assumption))
  exact hK167 (i9 + 1, R2, (tr ++ [(⟨ot, ao2, go2, 0, co2⟩ : HL)]), ao441, gb442, cp443) _ _ (by show xs.length - (i9 + 1) < xs.length - i9; omega) ⟨rfl, rfl, rfl, rfl, rfl, rfl, rfl, rfl, trivial⟩ ⟨(((((u169.next u188 (fun _ _ h => h.elim)).next u193 (fun _ _ h => h.elim)).next u210 (fun i hi (h : i = bk118 ∨ ba ≤ i) => show i = bk118 ∨ ba ≤ i by first | omega | assumption)).next u435 (fun _ _ h => h.elim)).next u446 (fun i hi (h : (i = gt ∧ bk158 ≤ i)) => show i = bk118 ∨ ba ≤ i by first | omega | assumption)), (by omega), hR25, D449, (hDNr.wide (by omega)), hnew5, A445, (by rw [List.length_append, List.length_singleton, htl]), hnew8, hTRr, (by show bk158 ≤ gb442; omega)⟩
 have hie : i9 = xs.length := by omega
 have htx := rev_rows (tr := tr) (p := p) (by omega) (fun j hj => h8 j (by omega))
 refine c_exit (hK163 _ _ (c_seq fun K450 hK450 => (c_drawnM follows (fun _ => False) (.look 0 (.look 1 (.look 3 (.look 5 (.act 2 (.act 4 (.act 6 (.act 7 (.look 8 (.look 9 (.look 10 (.look 11 (.look 12 .done))))) .stop) .stop) .stop) .stop))))) (by kernel_rfl) fun w451 u452 => ?_)))
 have zu452 := u452.size
 have B454 := ((((((((((B20.kx u24).kx u32).kx u39).kx u45).kx u121).keep u124 (by omega)).keep u131 (by omega)).kx u161).keep u169 (show ¬ (bk13 = bk118 ∨ ba ≤ bk13) by first | omega | assumption)).kx u452)
 refine y_loadN (vs := [.int .i64 ((smR u).rest), .int .i64 ((smR u).span), .int .i64 ((smR u).work), .int .i64 ((smR u).week), .int .i64 ((smR u).ww)]) Try.isAgg28 Try.sizeOf28 rfl rfl rfl (B454.at.sub 0 5) rfl (fun h => h) (y_move rfl rfl rfl (y_move rfl rfl rfl (y_move rfl rfl rfl (s_do ?_))))
 have D455 := (((((((((D27.keep u32 (fun _ h => h)).keep u39 (fun _ h => h)).keep u45 (fun _ h => h)).keep u121 (fun _ h => h)).keep u124 (fun hb => show ¬ (gh = bk118) by first | omega | assumption)).keep u131 (fun hb => show ¬ (gh = bk118) by first | omega | assumption)).keep u161 (fun _ h => h)).keep u169 (fun hb => show ¬ (gh = bk118 ∨ ba ≤ gh) by first | omega | assumption)).keep u452 (fun _ h => h))
 have D457 := (((((((((D29.keep u32 (fun i hi h => h)).keep u39 (fun i hi h => h)).keep u45 (fun i hi h => h)).keep u121 (fun i hi h => h)).keep u124 (fun i hi => show ¬ (i = bk118) by omega)).keep u131 (fun i hi => show ¬ (i = bk118) by omega)).keep u161 (fun i hi h => h)).keep u169 (fun i hi => show ¬ (i = bk118 ∨ ba ≤ i) by omega)).keep u452 (fun i hi h => h))
 refine t_call own19 rfl rfl rfl rfl (sailors_c hs ah gh 0 ch _ (D455.sl (fun _ => rfl)) (by omega) (fun h hh => (D457 h hh).1) (by omega)) (fun v458 w459 r461 => ?_)
 obtain ⟨⟨aoW456, gW456, cW456, oW456, rfl, haW456, hmW456, hsW456⟩, u460⟩ := r461
 have zu460 := u460.size
 have lt_gW456 := haW456.lt
 have hlW456 : oW456.length = hs.length := by have := congrArg List.length hmW456; simpa using this
 refine s_next ((Upd.refl _ _).nx u460) (s_do ?_)
 have D464 := (((((((((D36.keep u39 (fun _ h => h)).keep u45 (fun _ h => h)).keep u121 (fun _ h => h)).keep u124 (fun hb => show ¬ (gx = bk118) by first | omega | assumption)).keep u131 (fun hb => show ¬ (gx = bk118) by first | omega | assumption)).keep u161 (fun _ h => h)).keep u169 (fun hb => show ¬ (gx = bk118 ∨ ba ≤ gx) by first | omega | assumption)).keep u452 (fun _ h => h)).keep u460 (fun _ h => h))
 refine t_call own20 rfl rfl rfl rfl (legs_c xs ax gx 0 cx _ (D464.sl (fun _ => rfl)) (by omega) (by omega)) (fun v465 w466 r468 => ?_)
 obtain ⟨⟨aoG463, gG463, cG463, rfl, haG463⟩, u467⟩ := r468
 have zu467 := u467.size
 have lt_gG463 := haG463.lt
 have hcapG463 := haG463.cap_le
 refine s_next ((Upd.refl _ _).nx u467) (s_do ?_)
 have D470 := ((((((((hpr.keep u121 (fun _ h => h)).keep u124 (fun hp => by have h9 := hpr.lt hp; show ¬ (gp = bk118); omega)).keep u131 (fun hp => by have h9 := hpr.lt hp; show ¬ (gp = bk118); omega)).keep u161 (fun _ h => h)).keep u169 (fun hp => by have h9 := hpr.lt hp; show ¬ (gp = bk118 ∨ ba ≤ gp); omega)).keep u452 (fun _ h => h)).keep u460 (fun _ h => h)).keep u467 (fun _ h => h))
 have D472 := ((((((((prM.keep u121 (fun i hi h => h)).keep u124 (fun i hi => show ¬ (i = bk118) by omega)).keep u131 (fun i hi => show ¬ (i = bk118) by omega)).keep u161 (fun i hi h => h)).keep u169 (fun i hi => show ¬ (i = bk118 ∨ ba ≤ i) by omega)).keep u452 (fun i hi h => h)).keep u460 (fun i hi h => h)).keep u467 (fun i hi h => h))
 refine t_call own23 rfl rfl rfl rfl (lists_c rows apS gp 0 cpS _ D470 (by omega) (fun h hh => (D472 h hh).1) (by omega)) (fun v473 w474 r476 => ?_)
 obtain ⟨⟨aoV471, gV471, cV471, oV471, rfl, haV471, hmV471, hsV471⟩, u475⟩ := r476
 have zu475 := u475.size
 have lt_gV471 := haV471.lt
 have hlV471 : oV471.length = rows.length := by have := congrArg List.length hmV471; simpa using this
 refine s_next ((Upd.refl _ _).nx u475) (s_do ?_)
 have D478 := ((haW456.keep u467 (fun _ h => h)).keep u475 (fun _ h => h))
 have D479 := (haG463.keep u475 (fun _ h => h))
 have hVV471 : verGo (smR u) xs (oV471.map HL.xs) (ss.map boardP) 0 = -1 := by rw [hmV471, hpx]; exact ver_ok hhh hpl rfl (fun i _ => List.Perm.refl _)
 refine t_call own22 rfl rfl rfl rfl ((Verify_v (smR u) oW456 aoW456 gW456 0 cW456 xs aoG463 gG463 0 cG463 oV471 aoV471 gV471 0 cV471 ss _ (hmW456.trans hse.symm) (D478.sl (fun _ => rfl)) (fun h hh => ((hsW456 h hh).ext (((Upd.refl (fun _ => False) _).nx u467).nx u475)).slrM) (D479.sl (fun _ => rfl)) (haV471.sl (fun _ => rfl)) (fun h hh => ((hsV471 h hh).ext (Upd.refl (fun _ => False) _)).sl) hoE0 (by omega) (by rw [hmV471, hpx]; have h9 := rows_in (q := p.map castL) hpl (fun l hl => by obtain ⟨ns, hns, rfl⟩ := List.mem_map.1 hl; exact ⟨ns, hns, fun i hi => hi⟩); rwa [List.length_map] at h9) (by omega)).mono fun v w9 h9 => (⟨h9.1.trans (by rw [hVV471]), h9.2⟩ : v = Value.tuple #[.int .i64 (-1), .int .i64 0] ∧ Ext w474 w9)) (fun v480 w481 r483 => ?_)
 obtain ⟨rfl, u482⟩ := r483
 have zu482 := u482.size
 refine s_next ((Upd.refl _ _).nx u482) (y_move rfl rfl rfl (y_extract rfl rfl rfl rfl (y_extract rfl rfl rfl rfl (y_assign rfl rfl rfl (y_assign rfl rfl rfl (s_nil (hK450 _ _ (c_seq fun K485 hK485 => (c_drawnM follows (fun _ => False) (.look 0 (.look 1 (.look 3 (.look 5 (.act 2 (.act 4 (.act 6 (.act 7 (.look 8 (.look 9 (.look 10 (.look 11 (.look 12 .done))))) .stop) .stop) .stop) .stop))))) (by kernel_rfl) fun w486 u487 => ?_)))))))))
 have zu487 := u487.size
 have B489 := (((((((((((((((B20.kx u24).kx u32).kx u39).kx u45).kx u121).keep u124 (by omega)).keep u131 (by omega)).kx u161).keep u169 (show ¬ (bk13 = bk118 ∨ ba ≤ bk13) by first | omega | assumption)).kx u452).kx u460).kx u467).kx u475).kx u482).kx u487)
 refine y_loadN (vs := [.int .i64 ((smR u).rest), .int .i64 ((smR u).span), .int .i64 ((smR u).work), .int .i64 ((smR u).week), .int .i64 ((smR u).ww)]) Try.isAgg28 Try.sizeOf28 rfl rfl rfl (B489.at.sub 0 5) rfl (fun h => h) (y_move rfl rfl rfl (y_move rfl rfl rfl (y_move rfl rfl rfl (s_do ?_))))
 have D490 := (((((D455.keep u460 (fun _ h => h)).keep u467 (fun _ h => h)).keep u475 (fun _ h => h)).keep u482 (fun _ h => h)).keep u487 (fun _ h => h))
 have D492 := (((((D457.keep u460 (fun i hi h => h)).keep u467 (fun i hi h => h)).keep u475 (fun i hi h => h)).keep u482 (fun i hi h => h)).keep u487 (fun i hi h => h))
 refine t_call own19 rfl rfl rfl rfl (sailors_c hs ah gh 0 ch _ (D490.sl (fun _ => rfl)) (by omega) (fun h hh => (D492 h hh).1) (by omega)) (fun v493 w494 r496 => ?_)
 obtain ⟨⟨aoW491, gW491, cW491, oW491, rfl, haW491, hmW491, hsW491⟩, u495⟩ := r496
 have zu495 := u495.size
 have lt_gW491 := haW491.lt
 have hlW491 : oW491.length = hs.length := by have := congrArg List.length hmW491; simpa using this
 refine s_next ((Upd.refl _ _).nx u495) (s_do ?_)
 have D499 := (((((D464.keep u467 (fun _ h => h)).keep u475 (fun _ h => h)).keep u482 (fun _ h => h)).keep u487 (fun _ h => h)).keep u495 (fun _ h => h))
 refine t_call own20 rfl rfl rfl rfl (legs_c xs ax gx 0 cx _ (D499.sl (fun _ => rfl)) (by omega) (by omega)) (fun v500 w501 r503 => ?_)
 obtain ⟨⟨aoG498, gG498, cG498, rfl, haG498⟩, u502⟩ := r503
 have zu502 := u502.size
 have lt_gG498 := haG498.lt
 have hcapG498 := haG498.cap_le
 refine s_next ((Upd.refl _ _).nx u502) (s_do ?_)
 have D505 := ((((((((htr.keep u452 (fun _ h => h)).keep u460 (fun _ h => h)).keep u467 (fun _ h => h)).keep u475 (fun _ h => h)).keep u482 (fun _ h => h)).keep u487 (fun _ h => h)).keep u495 (fun _ h => h)).keep u502 (fun _ h => h))
 have D507 := (fun h hh => ((fun h hh => ((fun h hh => ((fun h hh => ((fun h hh => ((fun h hh => ((fun h hh => ((fun h hh => (hTR h hh).ext u452) h hh).ext u460) h hh).ext u467) h hh).ext u475) h hh).ext u482) h hh).ext u487) h hh).ext u495) h hh).ext u502)
 refine t_call own23 rfl rfl rfl rfl (lists_c tr at_ gt 0 ct _ (D505.sl (fun _ => rfl)) (by omega) (fun h hh => (D507 h hh).sl) (by omega)) (fun v508 w509 r511 => ?_)
 obtain ⟨⟨aoV506, gV506, cV506, oV506, rfl, haV506, hmV506, hsV506⟩, u510⟩ := r511
 have zu510 := u510.size
 have lt_gV506 := haV506.lt
 have hlV506 : oV506.length = tr.length := by have := congrArg List.length hmV506; simpa using this
 refine s_next ((Upd.refl _ _).nx u510) (s_do ?_)
 have D513 := ((haW491.keep u502 (fun _ h => h)).keep u510 (fun _ h => h))
 have D514 := (haG498.keep u510 (fun _ h => h))
 have hVV506 : verGo (smR u) xs (oV506.map HL.xs) (ss.map boardP) 0 = -1 := by rw [hmV506, htx]; exact ver_ok hhh hpl (by rw [List.length_map]) (fun i hi => by rw [nth_map2 _ hi]; exact List.reverse_perm _)
 refine t_call own22 rfl rfl rfl rfl ((Verify_v (smR u) oW491 aoW491 gW491 0 cW491 xs aoG498 gG498 0 cG498 oV506 aoV506 gV506 0 cV506 ss _ (hmW491.trans hse.symm) (D513.sl (fun _ => rfl)) (fun h hh => ((hsW491 h hh).ext (((Upd.refl (fun _ => False) _).nx u502).nx u510)).slrM) (D514.sl (fun _ => rfl)) (haV506.sl (fun _ => rfl)) (fun h hh => ((hsV506 h hh).ext (Upd.refl (fun _ => False) _)).sl) hoE0 (by omega) (by rw [hmV506, htx]; have h9 := rows_in (q := (p.map List.reverse).map castL) hpl (fun l hl => by obtain ⟨l2, hl2, rfl⟩ := List.mem_map.1 hl; obtain ⟨ns, hns, rfl⟩ := List.mem_map.1 hl2; exact ⟨ns, hns, fun i hi => by rw [← castL_rev] at hi; exact List.mem_reverse.1 hi⟩); rwa [List.length_map] at h9) (by omega)).mono fun v w9 h9 => (⟨h9.1.trans (by rw [hVV506]), h9.2⟩ : v = Value.tuple #[.int .i64 (-1), .int .i64 0] ∧ Ext w509 w9)) (fun v515 w516 r518 => ?_)
 obtain ⟨rfl, u517⟩ := r518
 have zu517 := u517.size
 have E519 := (((((((((((((((E41.nx u45).nx u121).next u124 (fun i hi h => by omega)).next u131 (fun i hi h => by omega)).nx u161).next u169 (fun i hi (h : i = bk118 ∨ ba ≤ i) => show False by first | omega | assumption)).nx u452).nx u460).nx u467).nx u475).nx u482).nx u487).nx u495).nx u502).nx u510).nx u517
 refine s_next ((Upd.refl _ _).nx u517) (y_move rfl rfl rfl (y_extract rfl rfl rfl rfl (y_extract rfl rfl rfl rfl (y_assign rfl rfl rfl (y_assign rfl rfl rfl (s_nil (hK485 _ _ (c_seq fun K520 hK520 => (c_seq fun K521 hK521 => (c_region (t_move rfl rfl rfl (t_cmp rfl rfl rfl rfl rfl (t_samehd (v := .bool false) rfl (t_move rfl rfl rfl (t_move rfl rfl rfl (t_cmp rfl rfl rfl rfl rfl (t_samehd (v := .bool false) rfl (t_pick_f rfl rfl rfl rfl (t_move rfl rfl rfl (t_move rfl rfl rfl (t_cmp rfl rfl rfl rfl rfl (t_samehd (v := .bool false) rfl (t_pick_f rfl rfl rfl rfl ?_)))))))))))))))))))))))
 refine t_move rfl rfl rfl (t_move rfl rfl rfl (t_cmp rfl rfl rfl rfl rfl (t_samehd (v := .bool false) rfl (t_pick_f rfl rfl rfl rfl (t_nil' (hK521 _ _ (c_cond_f rfl (c_skip (hK520 _ _ (c_seq fun K522 hK522 => (c_seq fun K523 hK523 => (c_region (t_move rfl rfl rfl (t_len Try.underlying63 rfl rfl rfl rfl (t_cmp rfl rfl rfl rfl rfl (t_nil' (hK523 _ _ (c_condp rfl (fun g328 => ?_) (fun g328 => ?_)))))))))))))))))))
 ·
  refine c_seq fun K524 hK524 => (c_region (t_call own13 rfl rfl rfl rfl (known_c _) (fun v525 w526 r528 => ?_)))
  obtain ⟨rfl, u527⟩ := r528
  have zu527 := u527.size
  refine t_assign rfl rfl rfl (t_nil' (hK524 _ _ (c_ret (f_ret1 (v := .bool true) Try.results6 rfl ?_))))
  exact ⟨rfl, (E519.nx u527)⟩
 obtain ⟨j, hj⟩ : ∃ j : Nat, (q9 % (xs.length : Int)) = (j : Int) ∧ j < xs.length := ⟨(q9 % (xs.length : Int)).toNat, by have := Int.emod_nonneg q9 (show (xs.length : Int) ≠ 0 by omega); omega, by have h1 := Int.emod_nonneg q9 (show (xs.length : Int) ≠ 0 by omega); have h2 := Int.emod_lt_of_pos q9 (show (0 : Int) < xs.length by omega); omega⟩
 obtain ⟨hjT, _, _⟩ := stg_at hpl hj.2
 have hjh := (okLeg_ok (hox _ (nth_mem hj.2))).2.1
 have hjl := hjT.len
 have hjx := h8 j (by omega)
 have hjxl : (nth tr j).xs.length = (nth p j).length := by rw [hjx, List.length_reverse, List.length_map]
 refine c_skip (hK522 _ _ (c_seq fun K530 hK530 => (c_region (t_move rfl rfl rfl (t_conv Try.underlying5 Try.underlying3 rfl rfl rfl (IntWalk.i64_in _ (by omega)) (t_move rfl rfl rfl (t_len Try.underlying63 rfl rfl rfl rfl (t_rem rfl rfl rfl rfl (by omega) (by omega) (t_same 334 (v := .int .i64 (j : Int)) rfl (congrArg (Value.int .i64) hj.1) (t_assign rfl rfl rfl (t_nil' (hK530 _ _ (c_seq fun K531 hK531 => (c_region (t_move rfl rfl rfl (t_move rfl rfl rfl (t_move rfl rfl rfl (t_move rfl rfl rfl ?_))))))))))))))))))
 have D532 := ((D505.keep u510 (fun _ h => h)).keep u517 (fun _ h => h))
 have i533 : j < tr.length := (by omega)
 refine t_index (j := j) Try.underlying66 Try.sizeOf75 rfl rfl rfl rfl ((D532.sl (fun _ => rfl)).addr (by omega)) rfl i533 (t_load Try.isAgg75 rfl rfl rfl (((D532.sl (fun _ => rfl)).at_ j (by omega)) 0 _ rfl) ?_)
 have D534 := (fun h hh => ((fun h hh => (D507 h hh).ext u510) h hh).ext u517)
 have hTRj := D534 (nth tr j) (nth_mem (by omega))
 have hcapj : (nth tr j).xs.length ≤ (nth tr j).cap := by obtain ⟨_, _, h9⟩ := hTRj.hx; exact h9.cap_le
 have h000 := hcapj
 refine t_sliceFrom (1) Try.underlying75 Try.sizeOf3 rfl rfl rfl rfl rfl (by omega) (by omega) (t_same 341 (v := .slice (subAddr (nth tr j).ao (nth tr j).cap 1 1) (((nth tr j).xs.drop 1).length) ((nth tr j).cap - 1)) rfl (by rw [List.length_drop]) ?_)
 have i535 : j < tr.length := (by omega)
 refine t_index (j := j) Try.underlying66 Try.sizeOf75 rfl rfl rfl rfl ((D532.sl (fun _ => rfl)).addr (by omega)) rfl i535 ?_
 have htrq := D532
 have hTRq := D534
 have h000 := hgt9
 refine t_storeA (vs := [.slice (subAddr (nth tr j).ao (nth tr j).cap 1 1) (((nth tr j).xs.drop 1).length) ((nth tr j).cap - 1)]) (j := j) (o' := 0) (k := 1) (⟨(nth tr j).xs.drop 1, subAddr (nth tr j).ao (nth tr j).cap 1 1, (nth tr j).b, (nth tr j).o + 1 * 1, (nth tr j).cap - 1⟩ : HL) (fun _ => rfl) Try.sizeOf75 rfl rfl (by omega) rfl D532 (by first | omega | (simp only [List.length_set, eRuns_len]; omega)) rfl rfl (by decide) (by simp [Value.oneCell']) rfl (fun w536 R538 u537 => ?_)
 have zu537 := u537.size
 obtain ⟨tr2, htr9⟩ : ∃ tr2, tr2 = (tr.set j (⟨(nth tr j).xs.drop 1, subAddr (nth tr j).ao (nth tr j).cap 1 1, (nth tr j).b, (nth tr j).o + 1 * 1, (nth tr j).cap - 1⟩ : HL)) := ⟨_, rfl⟩
 have htrS := R538
 rw [← htr9] at htrS
 have htl2 : tr2.length = xs.length := by rw [htr9, List.length_set]; omega
 have htx2 : tr2.map HL.xs = ((p.map List.reverse).map castL).set j ((castL (nth p j)).reverse.drop 1) := by rw [htr9, List.map_set, htx, hjx]
 have hTRs : ∀ h ∈ tr, LstC ba w536 h := fun h hh => (hTRq h hh).upd u537 (fun hb cs hB q => by obtain ⟨cs9, h9⟩ := htrq.blkT hgt9; exact hB.ne h9 (by decide) q)
 have hTR2 : LstsM w536.heap.size w536 tr2 := fun h hh => by
   rw [htr9] at hh
   rcases List.mem_or_eq_of_mem_set hh with q | q
   · exact ⟨(hTRs h q).sl, fun hp => (hTRs h q).sl.1.lt hp⟩
   · have hTj := hTRs _ (nth_mem (show j < tr.length by omega))
     have hSj := (hTj.sl.1).from_ (nth tr j).cap 1 hcapj
     rw [q]; exact ⟨⟨hSj, by have := hTj.sl.2; show ((nth tr j).xs.drop 1).length ≤ 1000000; rw [List.length_drop]; omega⟩, fun hp => hSj.lt hp⟩
 have lt_gt := htrS.lt
 refine t_nil' (hK531 _ _ (c_seq fun K540 hK540 => (c_drawnM follows (fun _ => False) (.look 0 (.look 1 (.look 3 (.look 5 (.act 2 (.act 4 (.act 6 (.act 7 (.look 8 (.look 9 (.look 10 (.look 11 (.look 12 .done))))) .stop) .stop) .stop) .stop))))) (by kernel_rfl) fun w541 u542 => ?_)))
 have zu542 := u542.size
 have B544 := (((((((((((((((((((((B20.kx u24).kx u32).kx u39).kx u45).kx u121).keep u124 (by omega)).keep u131 (by omega)).kx u161).keep u169 (show ¬ (bk13 = bk118 ∨ ba ≤ bk13) by first | omega | assumption)).kx u452).kx u460).kx u467).kx u475).kx u482).kx u487).kx u495).kx u502).kx u510).kx u517).keep u537 (by omega)).kx u542)
 refine y_loadN (vs := [.int .i64 ((smR u).rest), .int .i64 ((smR u).span), .int .i64 ((smR u).work), .int .i64 ((smR u).week), .int .i64 ((smR u).ww)]) Try.isAgg28 Try.sizeOf28 rfl rfl rfl (B544.at.sub 0 5) rfl (fun h => h) (y_move rfl rfl rfl (y_move rfl rfl rfl (y_move rfl rfl rfl (y_same 349 (v := .slice at_ tr2.length ct) rfl (by rw [htr9, List.length_set]) (s_do ?_)))))
 have D545 := ((((((D490.keep u495 (fun _ h => h)).keep u502 (fun _ h => h)).keep u510 (fun _ h => h)).keep u517 (fun _ h => h)).keep u537 (fun hb => show ¬ (gh = gt) by first | omega | assumption)).keep u542 (fun _ h => h))
 have D547 := ((((((D492.keep u495 (fun i hi h => h)).keep u502 (fun i hi h => h)).keep u510 (fun i hi h => h)).keep u517 (fun i hi h => h)).keep u537 (fun i hi => show ¬ (i = gt) by omega)).keep u542 (fun i hi h => h))
 refine t_call own19 rfl rfl rfl rfl (sailors_c hs ah gh 0 ch _ (D545.sl (fun _ => rfl)) (by omega) (fun h hh => (D547 h hh).1) (by omega)) (fun v548 w549 r551 => ?_)
 obtain ⟨⟨aoW546, gW546, cW546, oW546, rfl, haW546, hmW546, hsW546⟩, u550⟩ := r551
 have zu550 := u550.size
 have lt_gW546 := haW546.lt
 have hlW546 : oW546.length = hs.length := by have := congrArg List.length hmW546; simpa using this
 refine s_next ((Upd.refl _ _).nx u550) (s_do ?_)
 have D554 := ((((((D499.keep u502 (fun _ h => h)).keep u510 (fun _ h => h)).keep u517 (fun _ h => h)).keep u537 (fun hb => show ¬ (gx = gt) by first | omega | assumption)).keep u542 (fun _ h => h)).keep u550 (fun _ h => h))
 refine t_call own20 rfl rfl rfl rfl (legs_c xs ax gx 0 cx _ (D554.sl (fun _ => rfl)) (by omega) (by omega)) (fun v555 w556 r558 => ?_)
 obtain ⟨⟨aoG553, gG553, cG553, rfl, haG553⟩, u557⟩ := r558
 have zu557 := u557.size
 have lt_gG553 := haG553.lt
 have hcapG553 := haG553.cap_le
 refine s_next ((Upd.refl _ _).nx u557) (s_do ?_)
 have D560 := (((htrS.keep u542 (fun _ h => h)).keep u550 (fun _ h => h)).keep u557 (fun _ h => h))
 have D562 := (((hTR2.keep u542 (fun i hi h => h)).keep u550 (fun i hi h => h)).keep u557 (fun i hi h => h))
 refine t_call own23 rfl rfl rfl rfl (lists_c tr2 at_ gt 0 ct _ (D560.sl (fun _ => rfl)) (by omega) (fun h hh => (D562 h hh).1) (by omega)) (fun v563 w564 r566 => ?_)
 obtain ⟨⟨aoV561, gV561, cV561, oV561, rfl, haV561, hmV561, hsV561⟩, u565⟩ := r566
 have zu565 := u565.size
 have lt_gV561 := haV561.lt
 have hlV561 : oV561.length = tr2.length := by have := congrArg List.length hmV561; simpa using this
 refine s_next ((Upd.refl _ _).nx u565) (s_do ?_)
 have D568 := ((haW546.keep u557 (fun _ h => h)).keep u565 (fun _ h => h))
 have D569 := (haG553.keep u565 (fun _ h => h))
 have hVV561 : verGo (smR u) xs (oV561.map HL.xs) (ss.map boardP) 0 = (j : Int) := by
   rw [hmV561, htx2]
   have h9 := ver_less (k := 0) hhh hpl (q := p.map List.reverse) (l := (castL (nth p j)).reverse.drop 1) (by rw [List.length_map]) (fun i hi => by rw [nth_map2 _ hi]; exact List.reverse_perm _) hj.2 (by rw [List.length_drop, List.length_reverse, List.length_map, hjT.len]; omega)
   rwa [Nat.zero_add] at h9
 refine t_call own22 rfl rfl rfl rfl ((Verify_v (smR u) oW546 aoW546 gW546 0 cW546 xs aoG553 gG553 0 cG553 oV561 aoV561 gV561 0 cV561 ss _ (hmW546.trans hse.symm) (D568.sl (fun _ => rfl)) (fun h hh => ((hsW546 h hh).ext (((Upd.refl (fun _ => False) _).nx u557).nx u565)).slrM) (D569.sl (fun _ => rfl)) (haV561.sl (fun _ => rfl)) (fun h hh => ((hsV561 h hh).ext (Upd.refl (fun _ => False) _)).sl) hoE0 (by omega) (by rw [hmV561, htx2]; have h9 := rows_in (q := ((p.map List.reverse).map castL).set j ((castL (nth p j)).reverse.drop 1)) hpl (fun l hl => (List.mem_or_eq_of_mem_set hl).elim (fun hl => by obtain ⟨l2, hl2, rfl⟩ := List.mem_map.1 hl; obtain ⟨ns, hns, rfl⟩ := List.mem_map.1 hl2; exact ⟨ns, hns, fun i hi => by rw [← castL_rev] at hi; exact List.mem_reverse.1 hi⟩) (fun hl => ⟨nth p j, nth_mem (by omega), fun i hi => by rw [hl] at hi; exact List.mem_reverse.1 (List.mem_of_mem_drop hi)⟩)); rwa [List.length_map] at h9) (by omega)).mono fun v w9 h9 => (⟨h9.1.trans (by rw [hVV561]), h9.2⟩ : v = Value.tuple #[.int .i64 (j : Int), .int .i64 0] ∧ Ext w564 w9)) (fun v570 w571 r573 => ?_)
 obtain ⟨rfl, u572⟩ := r573
 have zu572 := u572.size
 refine s_next ((Upd.refl _ _).nx u572) (y_move rfl rfl rfl (y_extract rfl rfl rfl rfl (y_extract rfl rfl rfl rfl (y_assign rfl rfl rfl (y_assign rfl rfl rfl (s_nil (hK540 _ _ (c_seq fun K575 hK575 => (c_drawnM follows (fun _ => False) (.look 0 (.look 1 (.look 3 (.look 4 (.look 5 (.look 6 (.look 7 (.act 2 (.act 8 (.act 9 (.look 10 (.look 11 (.look 12 (.look 13 (.look 14 .done))))) .stop) .stop) .stop)))))))) (by kernel_rfl) fun w576 u577 => ?_)))))))))
 have zu577 := u577.size
 have B579 := ((((((((((((((((((((((((((B20.kx u24).kx u32).kx u39).kx u45).kx u121).keep u124 (by omega)).keep u131 (by omega)).kx u161).keep u169 (show ¬ (bk13 = bk118 ∨ ba ≤ bk13) by first | omega | assumption)).kx u452).kx u460).kx u467).kx u475).kx u482).kx u487).kx u495).kx u502).kx u510).kx u517).keep u537 (by omega)).kx u542).kx u550).kx u557).kx u565).kx u572).kx u577)
 refine y_loadN (vs := [.int .i64 ((smR u).rest), .int .i64 ((smR u).span), .int .i64 ((smR u).work), .int .i64 ((smR u).week), .int .i64 ((smR u).ww)]) Try.isAgg28 Try.sizeOf28 rfl rfl rfl (B579.at.sub 0 5) rfl (fun h => h) (y_move rfl rfl rfl (y_move rfl rfl rfl (y_move rfl rfl rfl (y_len Try.underlying63 rfl rfl rfl rfl (y_ari rfl rfl rfl rfl rfl (by omega) (y_sliceTo (xs.length - 1) Try.underlying63 Try.sizeOf77 rfl rfl rfl rfl (by omega) (by omega) (y_same 362 (v := .slice (subAddr ax cx 0 7) ((xs.take (xs.length - 1)).length) cx) rfl (by rw [List.length_take, Nat.min_eq_left (by omega)]) (s_do ?_))))))))
 have D580 := (((((D545.keep u550 (fun _ h => h)).keep u557 (fun _ h => h)).keep u565 (fun _ h => h)).keep u572 (fun _ h => h)).keep u577 (fun _ h => h))
 have D582 := (((((D547.keep u550 (fun i hi h => h)).keep u557 (fun i hi h => h)).keep u565 (fun i hi h => h)).keep u572 (fun i hi h => h)).keep u577 (fun i hi h => h))
 refine t_call own19 rfl rfl rfl rfl (sailors_c hs ah gh 0 ch _ (D580.sl (fun _ => rfl)) (by omega) (fun h hh => (D582 h hh).1) (by omega)) (fun v583 w584 r586 => ?_)
 obtain ⟨⟨aoW581, gW581, cW581, oW581, rfl, haW581, hmW581, hsW581⟩, u585⟩ := r586
 have zu585 := u585.size
 have lt_gW581 := haW581.lt
 have hlW581 : oW581.length = hs.length := by have := congrArg List.length hmW581; simpa using this
 refine s_next ((Upd.refl _ _).nx u585) (s_do ?_)
 have D589 := (((((D554.keep u557 (fun _ h => h)).keep u565 (fun _ h => h)).keep u572 (fun _ h => h)).keep u577 (fun _ h => h)).keep u585 (fun _ h => h))
 refine t_call own20 rfl rfl rfl rfl (legs_c (xs.take (xs.length - 1)) (subAddr ax cx 0 7) gx 0 cx _ (Sl.subTo (D589.sl (fun _ => rfl)) cx (xs.length - 1) hcapx) (by rw [List.length_take]; omega) (by omega)) (fun v590 w591 r593 => ?_)
 obtain ⟨⟨aoG588, gG588, cG588, rfl, haG588⟩, u592⟩ := r593
 have zu592 := u592.size
 have lt_gG588 := haG588.lt
 have hcapG588 := haG588.cap_le
 refine s_next ((Upd.refl _ _).nx u592) (s_do ?_)
 have D595 := (haW581.keep u592 (fun _ h => h))
 refine t_call own18 rfl rfl rfl rfl ((Plan_v (smR u) oW581 aoW581 gW581 0 cW581 (xs.take (xs.length - 1)) aoG588 gG588 0 cG588 ss _ (hmW581.trans hse.symm) (D595.sl (fun _ => rfl)) (fun h hh => ((hsW581 h hh).ext ((Upd.refl (fun _ => False) _).nx u592)).slrM) (haG588.sl (fun _ => rfl)) (by omega) (hoE (xs.length - 1)) (by omega)).mono fun v w9 h9 => h9.resolve_left (fun h8 => by obtain ⟨_, _, _, _, _, h7, _⟩ := h8; exact absurd h7 (fun h9 => asg_iff.1 h9 (Fe_take _ ⟨p, hpl⟩)))) (fun v597 w598 r600 => ?_)
 obtain ⟨apk596, gpk596, cpk596, rwk596, pk596, rfl, _, _, _, u599⟩ := r600
 have zu599 := u599.size
 refine s_next ((Upd.refl _ _).nx u599) (y_move rfl rfl rfl (y_extract rfl rfl rfl rfl (y_extract rfl rfl rfl rfl (y_extract rfl rfl rfl rfl (y_assign rfl rfl rfl (s_nil (hK575 _ _ (c_seq fun K602 hK602 => (c_region (t_move rfl rfl rfl (t_cmp rfl rfl rfl rfl rfl (t_samehd (v := .bool true) rfl (t_move rfl rfl rfl (t_move rfl rfl rfl (t_move rfl rfl rfl (t_cmp rfl rfl rfl rfl rfl (t_samehd (v := .bool true) (by simp) (t_pick_t rfl rfl rfl rfl (t_move rfl rfl rfl (t_move rfl rfl rfl (t_cmp rfl rfl rfl rfl rfl (t_samehd (v := .bool true) rfl (t_pick_t rfl rfl rfl rfl ?_)))))))))))))))))))))))
 refine t_move rfl rfl rfl (t_call own13 rfl rfl rfl rfl (known_c _) (fun v603 w604 r606 => ?_))
 obtain ⟨rfl, u605⟩ := r606
 have zu605 := u605.size
 refine t_pick_t rfl rfl rfl rfl (t_assign rfl rfl rfl (t_nil' (hK602 _ _ (c_ret (f_ret1 (v := .bool true) Try.results6 rfl ?_)))))
 exact ⟨rfl, (((((((((((E519.next u537 (fun i hi h => by omega)).nx u542).nx u550).nx u557).nx u565).nx u572).nx u577).nx u585).nx u592).nx u599).nx u605)⟩

end Go.Proofs.Ytagmodjadmecdaa
