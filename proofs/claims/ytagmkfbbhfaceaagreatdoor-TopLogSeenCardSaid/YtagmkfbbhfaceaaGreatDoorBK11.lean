/-
  Part 11 of the proof: contracts and plain laws. Conditions: none.
-/
import Derived.Test.YtagmkfbbhfaceaaGreatDoorBK10
namespace Go.Proofs.YtagmkfbbhfaceaaGreatDoor
open Go Go.RowKit Go.Proofs.Tryz
set_option maxRecDepth 10000
theorem isGauge_c (x : Gau) (w0 : World) (hs : Sl encI 1 w0 x.ao x.g x.ob x.s) (_hcp : x.s.length ≤ x.cp) (hsl : x.s.length ≤ 17592186044416) :
    CallsV Tryz.prog 102 [.agg #[.int .i64 x.st, .int .i64 x.hr, .slice x.ao x.s.length x.cp]] w0 (fun v w' => v = .bool (okGau x) ∧ Ext w0 w') := by
 refine f_n func102 ?_
 refine go ?_
 refine x_b fun bk2 w3 ebk2 sbk2 B4 u5 => ?_
 refine go ?_
 refine x_l fun bk8 w9 ebk8 sbk8 B10 u11 => ?_
 refine x_c func108 rfl rfl (within1_v 0 99 x.st bk8 _ _ B10) ?_
 rintro _ w14 ⟨rfl, u15⟩ zu15
 refine go ?_
 refine t_splitp 7 rfl (fun g7 => ?_) (fun g7 => ?_)
 ·
  refine go ?_
  refine x_l fun bk18 w19 ebk18 sbk18 B20 u21 => ?_
  refine x_c func108 rfl rfl (within1_v 0 100000 x.hr bk18 _ _ B20) ?_
  rintro _ w24 ⟨rfl, u25⟩ zu25
  refine go ?_
  refine t_splitp 13 rfl (fun g13 => ?_) (fun g13 => ?_)
  ·
   refine go ?_
   refine x_l fun bk28 w29 ebk28 sbk28 B30 u31 => ?_
   refine x_c func108 rfl rfl (within1_v 1 24 (x.s.length : Int) bk28 _ _ B30) ?_
   rintro _ w34 ⟨rfl, u35⟩ zu35
   refine go ?_
   refine t_splitp 20 rfl (fun g20 => ?_) (fun g20 => ?_)
   ·
    refine go ?_
    refine x_c func108 rfl rfl (within_c 0 10000 x.s x.ao x.g x.ob x.cp _ (hs.keep ((((((((Upd.refl (fun _ => False) w0).nx u5).nx u11).nx u15).nx u21).nx u25).nx u31).nx u35) (fun _ h => h)) (by omega)) ?_
    rintro _ w39 ⟨rfl, u40⟩ zu40
    refine go ?_
    refine f_1 results102 ?_
    exact ⟨congrArg Value.bool (by unfold okGau; first | exact (decide_eq_false (by omega)).symm | exact (decide_eq_false (fun h => by have h1 := h.1; have h2 := h.2.1; have h3 := h.2.2.1; omega)).symm | exact decide_eq_decide.2 ⟨fun h => ⟨by omega, by omega, by omega, h⟩, fun h => h.2.2.2⟩), u_d⟩
   refine go ?_
   refine f_1 results102 ?_
   exact ⟨congrArg Value.bool (by unfold okGau; first | exact (decide_eq_false (by omega)).symm | exact (decide_eq_false (fun h => by have h1 := h.1; have h2 := h.2.1; have h3 := h.2.2.1; omega)).symm | exact decide_eq_decide.2 ⟨fun h => ⟨by omega, by omega, by omega, h⟩, fun h => h.2.2.2⟩), u_d⟩
  refine go ?_
  refine f_1 results102 ?_
  exact ⟨congrArg Value.bool (by unfold okGau; first | exact (decide_eq_false (by omega)).symm | exact (decide_eq_false (fun h => by have h1 := h.1; have h2 := h.2.1; have h3 := h.2.2.1; omega)).symm | exact decide_eq_decide.2 ⟨fun h => ⟨by omega, by omega, by omega, h⟩, fun h => h.2.2.2⟩), u_d⟩
 refine go ?_
 refine f_1 results102 ?_
 exact ⟨congrArg Value.bool (by unfold okGau; first | exact (decide_eq_false (by omega)).symm | exact (decide_eq_false (fun h => by have h1 := h.1; have h2 := h.2.1; have h3 := h.2.2.1; omega)).symm | exact decide_eq_decide.2 ⟨fun h => ⟨by omega, by omega, by omega, h⟩, fun h => h.2.2.2⟩), u_d⟩

theorem gaugeAfter_c (x y : Gau) (w0 : World) (hx : okGau x = true) :
    CallsV Tryz.prog 103 [.agg #[.int .i64 x.st, .int .i64 x.hr, .slice x.ao x.s.length x.cp], .agg #[.int .i64 y.st, .int .i64 y.hr, .slice y.ao y.s.length y.cp]] w0 (fun v w' => v = .bool (decide (aftG x y)) ∧ Ext w0 w') := by
 have hx9 := okGau_iff hx
 obtain ⟨hx1, hx2, hx3, _⟩ := hx9
 refine f_n func103 ?_
 refine go ?_
 refine x_b fun bk2 w3 ebk2 sbk2 B4 u5 => ?_
 refine x_b fun bk7 w8 ebk7 sbk7 B9 u10 => ?_
 refine go ?_
 refine t_splitp 10 rfl (fun g10 => ?_) (fun g10 => ?_)
 ·
  refine go ?_
  refine f_1 results103 ?_
  exact ⟨congrArg Value.bool (by unfold aftG; first | exact (decide_eq_false (by omega)).symm | exact (decide_eq_true (by omega)).symm | exact decide_eq_decide.2 (by omega)), u_d⟩
 refine go ?_
 refine t_splitp 16 rfl (fun g16 => ?_) (fun g16 => ?_)
 ·
  refine go ?_
  refine f_1 results103 ?_
  exact ⟨congrArg Value.bool (by unfold aftG; first | exact (decide_eq_false (by omega)).symm | exact (decide_eq_true (by omega)).symm | exact decide_eq_decide.2 (by omega)), u_d⟩
 refine go ?_
 refine f_1 results103 ?_
 exact ⟨congrArg Value.bool (by unfold aftG; first | exact (decide_eq_false (by omega)).symm | exact (decide_eq_true (by omega)).symm | exact decide_eq_decide.2 (by omega)), u_d⟩

set_option maxHeartbeats 4000000 in
set_option maxRecDepth 20000 in
theorem gaugeLine_c (x : Gau) (w0 : World) (hs : Sl encI 1 w0 x.ao x.g x.ob x.s) (hcp : x.s.length ≤ x.cp) (hsl : x.s.length ≤ 17592186044416) (hok : okGau x = true) (hT : Tab10 w0) (_hpos : 0 < w0.heap.size) :
    CallsV Tryz.prog 104 [.agg #[.int .i64 x.st, .int .i64 x.hr, .slice x.ao x.s.length x.cp]] w0 (fun v w' => v = .string (strB (gauP x)) ∧ Ext w0 w') := by
 have hx9 := okGau_iff hok
 obtain ⟨hx1, hx2, hx3, hx4⟩ := hx9
 have hx0 := hx4 _ (nth_mem (xs := x.s) (i := 0) (by omega))
 have hblt := hs.lt (show 0 < x.s.length by omega)
 refine f_n func104 ?_
 refine go ?_
 refine x_b fun bk2 w3 ebk2 sbk2 B4 u5 => ?_
 refine go ?_
 refine c_drawnM follows (fun _ => False) (OTl [0, 2, 6, 8, 12, 14, 16, 18, 5, 11, 21, 23, 24]) (by kernel_rfl) fun w8 u9 => ?_
 have zu9 := u9.size
 have E10 := Sc.mk (((Upd.refl (fun _ => False) w0).nx u5).nx u9)
 refine go ?_
 refine y_i 0 (hs.keep E10.u (fun _ h => h)) (fun _ => ?_)
 refine go ?_
 refine x_c func147 rfl rfl (itoa_c x.st _ (by omega) (hT.ext E10.u)) ?_
 rintro _ w13 ⟨rfl, u14⟩ zu14
 have E16 := Sc.mk (E10.u.nx u14)
 refine go ?_
 refine x_c func147 rfl rfl (itoa_c x.hr _ (by omega) (hT.ext E16.u)) ?_
 rintro _ w18 ⟨rfl, u19⟩ zu19
 have E21 := Sc.mk (E16.u.nx u19)
 refine go ?_
 refine x_c func147 rfl rfl (itoa_c (nth x.s 0) _ (by omega) (hT.ext E21.u)) ?_
 rintro _ w23 ⟨rfl, u24⟩ zu24
 refine go ?_
 refine x_l fun bk27 w28 ebk27 sbk27 B29 u30 => ?_
 refine go ?_
 refine t_sliceFrom 1 underlying28 sizeOf3 rfl rfl rfl rfl rfl (by omega) (by omega) ?_
 refine go ?_
 refine x_l2 (fun i => i = bk27 ∨ w28.heap.size ≤ i) [1, 21, 22] (fun (i : Nat) (q : (Option Addr × Nat × Nat)) => [(3, .slice q.1 ((wlG x i).length) q.2.2), (23, .int .i64 (i : Int))]) (fun i q w => (i ≤ x.s.length - 1) ∧ (Acc encStr 1 9 w0.heap.size w q.1 q.2.1 q.2.2 (wlG x i)) ∧ (q.2.1 = bk27 ∨ w28.heap.size ≤ q.2.1)) (fun i q => x.s.length - 1 - i) 0 (some ⟨bk27, 0, none⟩, bk27, 3) ⟨(Nat.zero_le _), (Acc.ofBlk (base := w0.heap.size) (xs := wlG x 0) encStr 1 (fun _ => rfl) B29 (by omega) (by have h9 := wlG_len x 0; omega)), (.inl rfl)⟩ ?_
 rintro i q w35 ⟨hi, hA, hqW⟩ u36 zu36 K34 hK34
 have E37 := Sc.mk (((E21.u.nx u24).nx u30).next u36 (fun i hi h => by omega))
 have lt_q_2_1 := hA.lt
 have hwl := wlG_len x i
 have hdrl : (x.s.drop 1).length = x.s.length - 1 := List.length_drop
 refine go ?_
 refine q_p (fun g24 => ?_) fun g24 => ?_
 ·
  have hv1 := hx4 _ (nth_mem (xs := x.s) (i := i + 1) (by omega))
  have hv2 := hx4 _ (nth_mem (xs := x.s) (i := i) (by omega))
  obtain ⟨hfs, hfl⟩ := itoa_first (d := (nth x.s (i + 1) - nth x.s i))
  have hil := itoa_len (n := (nth x.s (i + 1) - nth x.s i)) (by omega)
  refine go ?_
  refine g_i i (by have h9 := ((hs.keep E37.u (fun _ h => h))).sub x.cp 1 (x.s.length - 1) hcp; rw [List.take_of_length_le (by rw [List.length_drop]; exact Nat.le_refl _)] at h9; exact h9) (fun _ => ?_)
  refine st1 ?_
  refine t_same 27 (v := .int .i64 (nth x.s (i + 1))) rfl (congrArg (Value.int .i64) (by rw [nth_drop, Nat.add_comm])) ?_
  refine go ?_
  refine g_i i (hs.keep E37.u (fun _ h => h)) (fun _ => ?_)
  refine go ?_
  refine x_c func147 rfl rfl (itoa_c ((nth x.s (i + 1)) - (nth x.s i)) _ (by omega) (hT.ext E37.u)) ?_
  rintro _ w46 ⟨rfl, u47⟩ zu47
  refine go ?_
  refine t_idxS 0 underlying9 rfl rfl rfl rfl rfl (by omega) ?_
  refine go ?_
  refine q_p (fun g38 => ?_) fun g38 => ?_
  ·
   have hd0 : 0 ≤ (nth x.s (i + 1) - nth x.s i) := hfs.1 (by omega)
   refine go ?_
   refine t_bo (Bo.addS (by simp only [List.length_cons, List.length_nil]; omega)) rfl rfl rfl rfl (t_same 40 (v := .string (strB (dW (nth x.s (i + 1) - nth x.s i)))) rfl (congrArg (fun z => Value.string (strB z)) (by unfold dW; rw [if_neg (by omega)]; rfl)) ?_)
   refine go ?_
   refine x_l fun bk52 w53 ebk52 sbk52 B54 u55 => ?_
   have D57 := ((hA.keep u47 (fun _ h => h)).keep u55 (fun _ h => h))
   refine t_append (z := .string (strB ([]))) (bytes := 16) (k := 1) (base := w0.heap.size) (dW (nth x.s (i + 1) - nth x.s i)) underlying206 (by kernel_rfl) rfl (by decide) (fun _ => rfl) (by intro x; simp [encStr, Value.oneCell']) rfl rfl rfl rfl D57 B54 (by omega) (by omega) (by decide) (fun ao58 gb59 cp60 w61 A62 u63 gegb59 lngb59 => ?_)
   have zu63 := u63.size
   have lt_gb59 := A62.lt
   refine go ?_
   exact hK34 (i + 1) (ao58, gb59, cp60) ⟨(by omega), (by rw [wlG_next (by omega)]; exact A62), (show gb59 = bk27 ∨ w28.heap.size ≤ gb59 by omega)⟩ (hs := by exact ⟨(congrArg some (by rw [wlG_next (by omega)])), rfl, rfl, rfl, rfl, trivial⟩)
  have hd0 : (nth x.s (i + 1) - nth x.s i) < 0 := by
    rcases Int.lt_or_le (nth x.s (i + 1) - nth x.s i) 0 with h | h
    · exact h
    · exact absurd (hfs.2 h) (by omega)
  refine c_same 6 (v := .string (strB (dW (nth x.s (i + 1) - nth x.s i)))) rfl (congrArg (fun z => Value.string (strB z)) (by unfold dW; rw [if_pos hd0])) ?_
  refine go ?_
  refine x_l fun bk65 w66 ebk65 sbk65 B67 u68 => ?_
  have D70 := ((hA.keep u47 (fun _ h => h)).keep u68 (fun _ h => h))
  refine t_append (z := .string (strB ([]))) (bytes := 16) (k := 1) (base := w0.heap.size) (dW (nth x.s (i + 1) - nth x.s i)) underlying206 (by kernel_rfl) rfl (by decide) (fun _ => rfl) (by intro x; simp [encStr, Value.oneCell']) rfl rfl rfl rfl D70 B67 (by omega) (by omega) (by decide) (fun ao71 gb72 cp73 w74 A75 u76 gegb72 lngb72 => ?_)
  have zu76 := u76.size
  have lt_gb72 := A75.lt
  refine go ?_
  exact hK34 (i + 1) (ao71, gb72, cp73) ⟨(by omega), (by rw [wlG_next (by omega)]; exact A75), (show gb72 = bk27 ∨ w28.heap.size ≤ gb72 by omega)⟩ (hs := by exact ⟨(congrArg some (by rw [wlG_next (by omega)])), rfl, rfl, rfl, rfl, trivial⟩)
 have hend := wlG_end (x := x) (i := i) (by omega)
 have hjl := wrdG_len hok
 refine go ?_
 refine x_c func148 rfl rfl (by have h9 := sealed_c (wlG x i) q.1 q.2.1 0 q.2.2 w35 (hA.sl (fun _ => rfl)) (hA).cap_le (by omega) (by rw [hend]; omega); rw [hend] at h9 ⊢; exact h9) ?_
 rintro _ w80 ⟨rfl, u81⟩ zu81
 refine go ?_
 refine f_1 results104 ?_
 exact ⟨rfl, u_d⟩

end Go.Proofs.YtagmkfbbhfaceaaGreatDoor
namespace Go.Proofs.YtagmkfbbhfaceaaGreatDoor
open Go Go.RowKit Go.Proofs.Tryz
set_option maxRecDepth 10000
def SlG (W : World) (ys : List Gau) : Prop := ∀ z ∈ ys, Sl encI 1 W z.ao z.g z.ob z.s ∧ z.s.length ≤ z.cp ∧ z.s.length ≤ 17592186044416
theorem SlG.ext {W W' : World} {ys : List Gau} (h : SlG W ys) (u : Ext W W') : SlG W' ys := fun z hz => ⟨(h z hz).1.keep u (fun _ h => h), (h z hz).2⟩
theorem prvG_zero {l : List Gau} {i : Nat} (h : i = 0) : prvG l i = none := if_pos h
theorem prvG_pos {l : List Gau} {i : Nat} (h : 0 < i) : prvG l i = some (nth l (i - 1)) := if_neg (by omega)
theorem prvG_succ {l : List Gau} {i : Nat} : prvG l (i + 1) = some (nth l i) := by rw [prvG_pos (show 0 < i + 1 from Nat.succ_pos i), Nat.add_sub_cancel]
theorem gauges_c  (w0 : World) :
    CallsV Tryz.prog 60 [] w0 (fun v w' => v = .agg #[.func (.func 102) #[] #[], .func (.func 103) #[] #[], .func (.func 104) #[] #[], .func (.func 105) #[] #[], .int .i64 200] ∧ Ext w0 w') := by
 refine f_n func60 ?_
 refine go ?_
 refine x_n fun bk2 w3 ebk2 sbk2 B4 u5 => ?_
 refine go ?_
 refine x_s fun w8 sw8 B10 u9 => ?_
 refine go ?_
 refine f_ret1 (v := .agg #[.func (.func 102) #[] #[], .func (.func 103) #[] #[], .func (.func 104) #[] #[], .func (.func 105) #[] #[], .int .i64 200]) results60 ⟨_, _, rfl, run_loadVarN (vs := [.func (.func 102) #[] #[], .func (.func 103) #[] #[], .func (.func 104) #[] #[], .func (.func 105) #[] #[], .int .i64 200]) isAgg157 sizeOf157 rfl (B10.at.sub 0 5)⟩ ?_
 exact ⟨rfl, u_d⟩

set_option maxHeartbeats 4000000 in
theorem textG_c (l : List Gau) (al : Option Addr) (bl ol cl : Nat) (w0 : World) (hl : Sl encGau 3 w0 al bl ol l) (hss : SlG w0 l) (hll : l.length ≤ 1000000000) (hT : Tab10 w0) (hpos : 0 < w0.heap.size) :
    CallsV Tryz.prog 61 [.agg #[.func (.func 102) #[] #[], .func (.func 103) #[] #[], .func (.func 104) #[] #[], .func (.func 105) #[] #[], .int .i64 200], .slice al l.length cl] w0 (fun v w' => v = .tuple #[.string (strB (textG l).1), .int .i64 (textG l).2] ∧ Ext w0 w') := by
 refine f_n func61 ?_
 refine go ?_
 refine x_b fun bk2 w3 ebk2 sbk2 B4 u5 => ?_
 refine go ?_
 refine q_p (fun g13 => ?_) fun g13 => ?_
 ·
  refine go ?_
  refine f_ret2 (v1 := .string (strB ([]))) (v2 := .int .i64 5) results61 rfl rfl ?_
  exact ⟨by unfold textG; rw [if_pos (by omega)], u_d⟩
 refine go ?_
 refine x_n fun bk11 w12 ebk11 sbk11 B13 u14 => ?_
 have hbui := BuiM.new B13
 refine go ?_
 refine x_l1 (fun i => bk11 ≤ i) [1, 2, 6, 14, 15] (fun (i : Nat) => [(16, .int .i64 (i : Int))]) (fun i w => (i ≤ l.length) ∧ (chkGa none l = chkGa (prvG l i) (l.drop i)) ∧ (BuiM bk11 bk11 ((l.take i).flatMap gauP) w) ∧ (((l.take i).flatMap gauP).length ≤ 304 * i) ∧ (∀ j, j < i → okGau (nth l j) = true)) (fun i => l.length - i) 0 ⟨(Nat.zero_le _), rfl, hbui, (Nat.zero_le _), (fun j h => absurd h (Nat.not_lt_zero _))⟩ ?_
 rintro i w19 ⟨hi, hc, hbl, hln, hko⟩ u20 zu20 K18 hK18
 have E21 := Sc.mk ((((Upd.refl (fun _ => False) w0).nx u5).nx u14).next u20 (fun i hi h => by omega))
 refine go ?_
 refine q_p (fun g17 => ?_) fun g17 => ?_
 ·
  refine go ?_
  refine g_i i (hl.keep E21.u (fun _ h => h)) (fun _ => ?_)
  refine go ?_
  refine x_n fun bk27 w28 ebk27 sbk27 B29 u30 => ?_
  refine go ?_
  refine x_s fun w32 sw32 B34 u33 => ?_
  have E35 := Sc.mk ((E21.u.nx u30).next u33 (fun i hi h => by omega))
  refine go ?_
  refine x_c func102 rfl rfl (isGauge_c (nth l i) _ ((hss _ (nth_mem (xs := l) (i := i) (by omega))).1.keep E35.u (fun _ h => h)) (hss _ (nth_mem (xs := l) (i := i) (by omega))).2.1 (hss _ (nth_mem (xs := l) (i := i) (by omega))).2.2) ?_
  rintro _ w39 ⟨rfl, u40⟩ zu40
  refine go ?_
  refine q_b (fun g21 => ?_) fun g21 => ?_
  ·
   have hx : okGau (nth l i) = false := by simpa using g21
   refine go ?_
   refine f_ret2 (v1 := .string (strB ([]))) (v2 := .int .i64 2) results61 rfl rfl ?_
   have h200 : ¬ 200 < l.length := by omega
   have he : chkGa none l = 2 := by rw [hc, drop_nth (by omega)]; unfold chkGa; rw [if_neg (by rw [hx]; decide)]
   exact ⟨by unfold textG; rw [if_neg h200, he, if_neg (by decide)], u_d⟩
  have hx : okGau (nth l i) = true := by simpa using g21
  have hpl := gauP_le hx
  refine go ?_
  refine c_drawnM follows (fun _ => False) (OTl [0, 2, 4, 6, 8, 10, 12, 14, 16, 18, 20, 23, 24, 26, 28]) (by kernel_rfl) fun w45 u46 => ?_
  have zu46 := u46.size
  have E47 := Sc.mk ((E35.u.nx u40).nx u46)
  refine go ?_
  refine y_splitp 30 rfl (fun g30 => ?_) (fun g30 => ?_)
  ·
   refine go ?_
   refine y_i (i - 1) (hl.keep E47.u (fun _ h => h)) (fun _ => ?_)
   refine go ?_
   refine x_c func103 rfl rfl (gaugeAfter_c (nth l (i - 1)) (nth l i) _ (hko (i - 1) (by omega))) ?_
   rintro _ w50 ⟨rfl, u51⟩ zu51
   have E53 := Sc.mk (E47.u.nx u51)
   refine go ?_
   refine q_p (fun g27 => ?_) fun g27 => ?_
   ·
    have hmn : ¬ aftO (prvG l i) (nth l i) := by
      rw [prvG_pos (by omega)]
      exact g27
    refine go ?_
    refine f_ret2 (v1 := .string (strB ([]))) (v2 := .int .i64 6) results61 rfl rfl ?_
    have h200 : ¬ 200 < l.length := by omega
    have he : chkGa none l = 6 := by rw [hc, drop_nth (by omega)]; unfold chkGa; rw [if_pos hx, if_neg hmn]
    exact ⟨by unfold textG; rw [if_neg h200, he, if_neg (by decide)], u_d⟩
   have hmn : aftO (prvG l i) (nth l i) := by
     rw [prvG_pos (by omega)]
     exact Decidable.not_not.1 g27
   refine go ?_
   refine x_c func104 rfl rfl (gaugeLine_c (nth l i) _ ((hss _ (nth_mem (xs := l) (i := i) (by omega))).1.keep E53.u (fun _ h => h)) (hss _ (nth_mem (xs := l) (i := i) (by omega))).2.1 (hss _ (nth_mem (xs := l) (i := i) (by omega))).2.2 hx (hT.ext E53.u) (by omega)) ?_
   rintro _ w56 ⟨rfl, u57⟩ zu57
   refine x_c func109 rfl rfl (wstr_c bk11 bk11 ((l.take i).flatMap gauP) (gauP (nth l i)) _ (hbl.ext (((((((Upd.refl (fun _ => False) _).nx u30).next u33 (fun i hi (h : i = bk27) => show False by first | omega | assumption)).nx u40).nx u46).nx u51).nx u57)) (by omega) (by omega)) ?_
   rintro v60 w61 ⟨hb9, u62⟩ zu62
   refine go ?_
   exact hK18 (i + 1) ⟨(by omega), (by rw [hc, drop_nth (by omega), chkGa_ok hx hmn, prvG_succ]), (by rw [take_nth (by omega), List.flatMap_append, show [(nth l i)].flatMap gauP = gauP (nth l i) by simp]; exact hb9), (by rw [take_nth (by omega), List.flatMap_append, show [(nth l i)].flatMap gauP = gauP (nth l i) by simp, List.length_append]; omega), (fun j hj => by
     rcases Nat.lt_or_ge j i with h | h
     · exact hko j h
     · rw [show j = i by omega]; exact hx)⟩
  refine go ?_
  refine x_c func104 rfl rfl (gaugeLine_c (nth l i) _ ((hss _ (nth_mem (xs := l) (i := i) (by omega))).1.keep E47.u (fun _ h => h)) (hss _ (nth_mem (xs := l) (i := i) (by omega))).2.1 (hss _ (nth_mem (xs := l) (i := i) (by omega))).2.2 hx (hT.ext E47.u) (by omega)) ?_
  rintro _ w66 ⟨rfl, u67⟩ zu67
  refine x_c func109 rfl rfl (wstr_c bk11 bk11 ((l.take i).flatMap gauP) (gauP (nth l i)) _ (hbl.ext ((((((Upd.refl (fun _ => False) _).nx u30).next u33 (fun i hi (h : i = bk27) => show False by first | omega | assumption)).nx u40).nx u46).nx u67)) (by omega) (by omega)) ?_
  rintro v70 w71 ⟨hb9, u72⟩ zu72
  refine go ?_
  exact hK18 (i + 1) ⟨(by omega), (by rw [hc, drop_nth (by omega), chkGa_ok hx (show aftO (prvG l i) _ by rw [prvG_zero (by omega)]; trivial), prvG_succ]), (by rw [take_nth (by omega), List.flatMap_append, show [(nth l i)].flatMap gauP = gauP (nth l i) by simp]; exact hb9), (by rw [take_nth (by omega), List.flatMap_append, show [(nth l i)].flatMap gauP = gauP (nth l i) by simp, List.length_append]; omega), (fun j hj => by
    rcases Nat.lt_or_ge j i with h | h
    · exact hko j h
    · rw [show j = i by omega]; exact hx)⟩
 refine go ?_
 refine x_c func110 rfl rfl (bstr_c bk11 bk11 ((l.take i).flatMap gauP) _ hbl (by omega)) ?_
 rintro _ w77 ⟨rfl, u78⟩ zu78
 refine go ?_
 refine f_ret2 (v1 := .string (strB ((l.take i).flatMap gauP))) (v2 := .int .i64 0) results61 rfl rfl ?_
 have h200 : ¬ 200 < l.length := by omega
 have hil : l.take i = l := List.take_of_length_le (by omega)
 have he : chkGa none l = 0 := by rw [hc, List.drop_of_length_le (by omega)]; rfl
 exact ⟨by unfold textG; rw [if_neg h200, he, if_pos rfl, hil], u_d⟩

theorem WriteGauge_c (l : List Gau) (al : Option Addr) (bl ol cl : Nat) (w0 : World) (hl : Sl encGau 3 w0 al bl ol l) (hss : SlG w0 l) (hll : l.length ≤ 1000000000) (hT : Tab10 w0) (hpos : 0 < w0.heap.size) :
    CallsV Tryz.prog 24 [.slice al l.length cl] w0 (fun v w' => v = .tuple #[.string (strB (textG l).1), .int .i64 (textG l).2] ∧ Ext w0 w') := by
 refine f_n func24 ?_
 refine go ?_
 refine x_c func60 rfl rfl (gauges_c _) ?_
 rintro _ w4 ⟨rfl, u5⟩ zu5
 have E7 := Sc.mk ((Upd.refl (fun _ => False) w0).nx u5)
 refine go ?_
 refine x_c func61 rfl rfl (textG_c l al bl ol cl _ (hl.keep E7.u (fun _ h => h)) (hss.ext E7.u) hll (hT.ext E7.u) (by omega)) ?_
 rintro _ w9 ⟨rfl, u10⟩ zu10
 refine go ?_
 refine f_ret2 (v1 := .string (strB ((textG l).1))) (v2 := .int .i64 ((textG l).2)) results24 rfl rfl ?_
 exact ⟨rfl, u_d⟩

end Go.Proofs.YtagmkfbbhfaceaaGreatDoor
namespace Go.Proofs.YtagmkfbbhfaceaaGreatDoor
open Go Go.RowKit Go.Proofs.Tryz
set_option maxRecDepth 10000
theorem own38 : Own Tryz.prog 38 := ⟨Tryz.f38, func38, by kernel_rfl, by kernel_rfl⟩
theorem own39 : Own Tryz.prog 39 := ⟨Tryz.f39, func39, by kernel_rfl, by kernel_rfl⟩

theorem scode_c (s : Scr) (bs : Nat) (w0 : World) (hS : Blk w0 bs 121 [.string (strB s.r), .bool s.b]) (hl : s.r.length ≤ 1000000) :
    CallsV Tryz.prog 38 [.pointer (some ⟨bs, 0, none⟩)] w0 (fun v w' => v = .int .i64 (cdV s) ∧ Blk w' bs 121 [.string (strB (cdS s).r), .bool (cdS s).b] ∧ Upd (fun i => i = bs) w0 w') := by
 have lt_bs := hS.lt
 refine f_n func38 ?_
 refine go ?_
 refine x_c func77 rfl rfl (Decode_c s.r _ (by omega)) ?_
 rintro _ w4 ⟨rfl, u5⟩ zu5
 refine go ?_
 refine q_p (fun g16 => ?_) fun g16 => ?_
 ·
  have hdz : ¬ (decP s.r).2.2 = 0 := by omega
  have hcs : cdS s = ⟨s.r, true⟩ := by unfold cdS; rw [if_neg hdz]
  have hcv : cdV s = 0 := by unfold cdV; rw [if_neg hdz]
  refine go ?_
  refine x_s fun w11 sw11 B13 u12 => ?_
  refine go ?_
  refine f_1 results38 ?_
  rw [hcs, hcv]
  exact ⟨rfl, B13, u_d⟩
 have hdz : (decP s.r).2.2 = 0 := by omega
 have hdo := decP_ok hdz
 have hcs : cdS s = ⟨s.r.drop (decP s.r).2.1.toNat, s.b⟩ := by unfold cdS; rw [if_pos hdz]
 have hcv : cdV s = (decP s.r).1 := by unfold cdV; rw [if_pos hdz]
 refine go ?_
 refine t_subS ((decP s.r).2.1.toNat) s.r.length underlying9 rfl rfl rfl (.inl ⟨rfl, rfl, by first | rfl | omega⟩) (.inr ⟨rfl, rfl⟩) (k' := .i64) (n := 0) (x2 := .tmp 0) (by omega) (by omega) (t_same 26 (v := .string (strB (s.r.drop (decP s.r).2.1.toNat))) rfl (congrArg (fun z => Value.string (strB z)) (List.take_of_length_le (by rw [List.length_drop]; omega))) ?_)
 refine go ?_
 refine x_s fun w17 sw17 B19 u18 => ?_
 refine go ?_
 refine f_1 results38 ?_
 rw [hcs, hcv]
 exact ⟨rfl, B19, u_d⟩

set_option maxHeartbeats 4000000 in
theorem sentry_c (s : Scr) (m : Int) (bs : Nat) (w0 : World) (hS : Blk w0 bs 121 [.string (strB s.r), .bool s.b]) (hl : s.r.length ≤ 1000000) (hbt : bitL s.r) (hm : 0 ≤ m ∧ m ≤ 1000000000000000) :
    CallsV Tryz.prog 39 [.pointer (some ⟨bs, 0, none⟩), .int .i64 m] w0 (fun v w' => v = .agg #[.int .i64 (entV s m).m, .int .i64 (entV s m).k, .int .i64 (entV s m).h, .int .i64 (entV s m).p, .int .i64 (entV s m).b, .int .i64 (entV s m).t] ∧ Blk w' bs 121 [.string (strB (entS s).r), .bool (entS s).b] ∧ Upd (fun i => i = bs) w0 w') := by
 have lt_bs := hS.lt
 obtain ⟨hm0, hm1⟩ := hm
 refine f_n func39 ?_
 refine go ?_
 refine x_n fun bk2 w3 ebk2 sbk2 B4 u5 => ?_
 refine go ?_
 refine t_lenS underlying9 rfl rfl rfl rfl ?_
 refine go ?_
 refine q_p (fun g10 => ?_) fun g10 => ?_
 ·
  refine go ?_
  refine x_s fun w10 sw10 B12 u11 => ?_
  refine go ?_
  refine x_s fun w15 sw15 B17 u16 => ?_
  refine go ?_
  refine f_ret1 (v := .agg #[.int .i64 0, .int .i64 0, .int .i64 0, .int .i64 0, .int .i64 0, .int .i64 0]) results39 ⟨_, _, rfl, run_loadVarN (vs := [.int .i64 0, .int .i64 0, .int .i64 0, .int .i64 0, .int .i64 0, .int .i64 0]) isAgg41 sizeOf41 rfl (B17.at.sub 0 6)⟩ ?_
  have B19 := (B12.keep u16 (by omega))
  have e0 : s.r.length < 2 := by omega
  have e1 : entV s m = ⟨0, 0, 0, 0, 0, 0⟩ := by unfold entV; rw [if_pos e0]
  have e2 : entS s = ⟨s.r, true⟩ := by unfold entS; rw [if_pos e0]
  rw [e1, e2]
  exact ⟨rfl, B19, u_d⟩
 have hb0 := bit_nth hbt (show 0 < s.r.length by omega)
 have hb1 := bit_nth hbt (show 1 < s.r.length by omega)
 unfold d48 at hb0 hb1
 have hkn : knd s = 1 + 2 * (((nth s.r 0).toNat : Int) - 48) + (((nth s.r 1).toNat : Int) - 48) := rfl
 have hl2 : (s2_ s).r.length + 2 = s.r.length := by show (s.r.drop 2).length + 2 = _; rw [List.length_drop]; omega
 refine go ?_
 refine c_drawnM follows (fun i => i = bk2) (OTl [0, 2, 4, 6, 8, 10, 12, 14, 16, 18, 20, 22, 24, 26, 28, 30, 32, 34, 37]) (by kernel_rfl) fun w21 u22 => ?_
 have zu22 := u22.size
 refine go ?_
 refine y_idxS 0 underlying9 rfl rfl rfl rfl rfl (by omega) (y_bo (Bo.ari8 rfl (by omega)) rfl rfl rfl rfl (y_conv underlying5 underlying39 rfl rfl rfl (IntWalk.i64_in _ (by omega)) (y_bo (Bo.shl1 (by omega)) rfl rfl rfl rfl ?_)))
 refine go ?_
 refine y_idxS 1 underlying9 rfl rfl rfl rfl rfl (by omega) (y_bo (Bo.ari8 rfl (by omega)) rfl rfl rfl rfl (y_conv underlying5 underlying39 rfl rfl rfl (IntWalk.i64_in _ (by omega)) ?_))
 refine st1 ?_
 refine y_same 31 (v := .int .i64 (knd s)) rfl (congrArg (Value.int .i64) (by rw [hkn])) ?_
 refine go ?_
 refine x_s fun w24 sw24 B26 u25 => ?_
 refine go ?_
 refine t_subS 2 s.r.length underlying9 rfl rfl rfl (.inl ⟨rfl, rfl, by first | rfl | omega⟩) (.inr ⟨rfl, rfl⟩) (k' := .i64) (n := 0) (x2 := .tmp 0) (by omega) (by omega) (t_same 38 (v := .string (strB ((s2_ s).r))) rfl (congrArg (fun z => Value.string (strB z)) (List.take_of_length_le (by rw [List.length_drop]; omega))) ?_)
 refine go ?_
 refine x_s fun w29 sw29 B31 u30 => ?_
 refine go ?_
 refine t_call own38 rfl rfl rfl rfl (scode_c (s2_ s) bs _ B31 (by omega)) (fun v35 w36 r38 => ?_)
 obtain ⟨rfl, hSs34, u37⟩ := r38
 have zu37 := u37.size
 have hvs34 := cdV_r (s2_ s)
 have hls34 := cdS_r (s2_ s)
 refine go ?_
 refine t_call own38 rfl rfl rfl rfl (scode_c (cdS (s2_ s)) bs _ hSs34 (by omega)) (fun v41 w42 r44 => ?_)
 obtain ⟨rfl, hSs40, u43⟩ := r44
 have zu43 := u43.size
 have hvs40 := cdV_r (cdS (s2_ s))
 have hls40 := cdS_r (cdS (s2_ s))
 refine go ?_
 refine x_s fun w46 sw46 B48 u47 => ?_
 refine go ?_
 refine x_s fun w50 sw50 B52 u51 => ?_
 refine go ?_
 refine x_c func73 rfl rfl (isPlace_c (knd s) _) ?_
 rintro _ w57 ⟨rfl, u58⟩ zu58
 refine go ?_
 refine q_b (fun g52 => ?_) fun g52 => ?_
 ·
  refine go ?_
  have B62 := (((hSs40.keep u47 (by omega)).keep u51 (by omega)).kx u58)
  refine t_call own38 rfl rfl rfl rfl (scode_c (cdS (cdS (s2_ s))) bs _ B62 (by omega)) (fun v64 w65 r67 => ?_)
  obtain ⟨rfl, hSs63, u66⟩ := r67
  have zu66 := u66.size
  have hvs63 := cdV_r (cdS (cdS (s2_ s)))
  have hls63 := cdS_r (cdS (cdS (s2_ s)))
  refine go ?_
  refine x_s fun w69 sw69 B71 u70 => ?_
  refine go ?_
  refine x_s fun w74 sw74 B76 u75 => ?_
  refine go ?_
  refine f_ret1 (v := .agg #[.int .i64 (m + (cdV (s2_ s))), .int .i64 (knd s), .int .i64 (1 + (cdV (cdS (s2_ s)))), .int .i64 (cdV (cdS (cdS (s2_ s)))), .int .i64 0, .int .i64 0]) results39 ⟨_, _, rfl, run_loadVarN (vs := [.int .i64 (m + (cdV (s2_ s))), .int .i64 (knd s), .int .i64 (1 + (cdV (cdS (s2_ s)))), .int .i64 (cdV (cdS (cdS (s2_ s)))), .int .i64 0, .int .i64 0]) isAgg41 sizeOf41 rfl (B76.at.sub 0 6)⟩ ?_
  have B78 := ((hSs63.keep u70 (by omega)).keep u75 (by omega))
  have e0 : ¬ s.r.length < 2 := by omega
  have e1 : entV s m = ⟨m + cdV (s2_ s), knd s, 1 + cdV (cdS (s2_ s)), cdV (cdS (cdS (s2_ s))), 0, 0⟩ := by unfold entV; rw [if_neg e0, if_pos g52]
  have e2 : entS s = (cdS (cdS (cdS (s2_ s)))) := by unfold entS; rw [if_neg e0, if_pos g52]
  rw [e1, e2]
  exact ⟨rfl, B78, u_d⟩
 refine go ?_
 have B80 := (((hSs40.keep u47 (by omega)).keep u51 (by omega)).kx u58)
 refine t_call own38 rfl rfl rfl rfl (scode_c (cdS (cdS (s2_ s))) bs _ B80 (by omega)) (fun v82 w83 r85 => ?_)
 obtain ⟨rfl, hSs81, u84⟩ := r85
 have zu84 := u84.size
 have hvs81 := cdV_r (cdS (cdS (s2_ s)))
 have hls81 := cdS_r (cdS (cdS (s2_ s)))
 refine go ?_
 refine t_call own38 rfl rfl rfl rfl (scode_c (cdS (cdS (cdS (s2_ s)))) bs _ hSs81 (by omega)) (fun v88 w89 r91 => ?_)
 obtain ⟨rfl, hSs87, u90⟩ := r91
 have zu90 := u90.size
 have hvs87 := cdV_r (cdS (cdS (cdS (s2_ s))))
 have hls87 := cdS_r (cdS (cdS (cdS (s2_ s))))
 refine go ?_
 refine x_s fun w93 sw93 B95 u94 => ?_
 refine go ?_
 refine x_s fun w97 sw97 B99 u98 => ?_
 refine go ?_
 refine x_s fun w102 sw102 B104 u103 => ?_
 refine go ?_
 refine f_ret1 (v := .agg #[.int .i64 (m + (cdV (s2_ s))), .int .i64 (knd s), .int .i64 (1 + (cdV (cdS (s2_ s)))), .int .i64 0, .int .i64 (1 + (cdV (cdS (cdS (s2_ s))))), .int .i64 (1 + (cdV (cdS (cdS (cdS (s2_ s))))))]) results39 ⟨_, _, rfl, run_loadVarN (vs := [.int .i64 (m + (cdV (s2_ s))), .int .i64 (knd s), .int .i64 (1 + (cdV (cdS (s2_ s)))), .int .i64 0, .int .i64 (1 + (cdV (cdS (cdS (s2_ s))))), .int .i64 (1 + (cdV (cdS (cdS (cdS (s2_ s))))))]) isAgg41 sizeOf41 rfl (B104.at.sub 0 6)⟩ ?_
 have B106 := (((hSs87.keep u94 (by omega)).keep u98 (by omega)).keep u103 (by omega))
 have e0 : ¬ s.r.length < 2 := by omega
 have e1 : entV s m = ⟨m + cdV (s2_ s), knd s, 1 + cdV (cdS (s2_ s)), 0, 1 + cdV (cdS (cdS (s2_ s))), 1 + cdV (cdS (cdS (cdS (s2_ s))))⟩ := by unfold entV; rw [if_neg e0, if_neg (by rw [g52]; decide)]
 have e2 : entS s = (cdS (cdS (cdS (cdS (s2_ s))))) := by unfold entS; rw [if_neg e0, if_neg (by rw [g52]; decide)]
 rw [e1, e2]
 exact ⟨rfl, B106, u_d⟩

end Go.Proofs.YtagmkfbbhfaceaaGreatDoor
namespace Go.Proofs.YtagmkfbbhfaceaaGreatDoor
open Go Go.RowKit Go.Proofs.Tryz
set_option maxRecDepth 10000
set_option maxHeartbeats 4000000 in
theorem ReadLog_c (xs : List UInt8) (ab : Option Addr) (bb ob cb : Nat) (w0 : World) (hs : Sl encY 1 w0 ab bb ob xs) (hcb : xs.length ≤ cb) (hxl : xs.length ≤ 1000000) (hpos : 0 < w0.heap.size) :
    CallsV Tryz.prog 11 [.slice ab xs.length cb] w0 (fun v w' => (∃ a9 g9 c9, v = .tuple #[.slice a9 (List.length (readR xs).1) c9, .int .i64 (readR xs).2.1, .int .i64 (readR xs).2.2] ∧ Acc encEnt 6 41 w0.heap.size w' a9 g9 c9 (readR xs).1) ∧ Ext w0 w') := by
 refine f_n func11 ?_
 refine go ?_
 refine x_c func32 rfl rfl (open_c xs ab bb ob cb _ hs hcb (by omega) (by omega)) ?_
 rintro _ w4 ⟨⟨aO, gO, cO, rfl, hFO⟩, u5⟩ zu5
 have lt_gO := hFO.lt
 refine go ?_
 refine q_p (fun g16 => ?_) fun g16 => ?_
 ·
  refine go ?_
  refine f_ret3 (v1 := .slice none 0 0) (v2 := .int .i64 0) (v3 := .int .i64 (opE xs)) results11 rfl rfl rfl ?_
  have he : readR xs = ([], 0, opE xs) := by unfold readR; rw [if_pos g16]
  exact ⟨⟨none, 0, 0, by rw [he]; rfl, by rw [he]; exact (Acc.nil _ _ _ _ _ hpos (by omega))⟩, u_d⟩
 have hE0 : opE xs = 0 := by omega
 have hok := opE_ok hE0
 have hVl : (opP xs).length = xs.length / 32 := by unfold opP; rw [if_pos hE0, blksP_len]
 have hglO := hFO.lt
 refine go ?_
 refine x_l1 (fun _ => False) [5, 19] (fun (k : Nat) => [(2, .slice none 0 0), (20, .int .i64 (k : Int))]) (fun k w => (k ≤ (opP xs).length) ∧ (∀ i, i < k → badB (opP xs) i = false)) (fun k => (opP xs).length - k) 0 ⟨(Nat.zero_le _), (fun i h => absurd h (Nat.not_lt_zero _))⟩ ?_
 rintro k w14 ⟨hk, hgd⟩ u15 zu15 K13 hK13
 refine go ?_
 refine q_p (fun g21 => ?_) fun g21 => ?_
 ·
  refine go ?_
  have D22 := (hFO.keep u15 (fun _ h => h))
  refine g_i k (D22.sl encBk_len) (fun _ => ?_)
  refine go ?_
  refine x_c func33 rfl rfl (isSound_c gO (0 + k * 32) ((nth (opP xs) k).l) k _ (Bk.h _) ((D22.sl encBk_len).at_ k (by omega)) (by omega) (by omega)) ?_
  rintro _ w25 ⟨rfl, u26⟩ zu26
  refine go ?_
  refine q_p (fun g28 => ?_) fun g28 => ?_
  ·
   refine go ?_
   refine f_ret3 (v1 := .slice none 0 0) (v2 := .int .i64 (k : Int)) (v3 := .int .i64 121) results11 rfl rfl rfl ?_
   have hE1 : ¬ opE xs ≠ 0 := by omega
   obtain ⟨r9, hr9⟩ := badP_head (v := (opP xs)) (k := k) (by omega) (by unfold badB; rw [decide_eq_false g28]; rfl) hgd
   have he : readR xs = ([], (k : Int), 121) := by unfold readR; rw [if_neg hE1, hr9]
   exact ⟨⟨none, 0, 0, by rw [he]; rfl, by rw [he]; exact (Acc.nil _ _ _ _ _ hpos (by omega))⟩, u_d⟩
  refine go ?_
  exact hK13 (k + 1) ⟨(by omega), (fun i hi => by rcases Nat.lt_or_eq_of_le (Nat.le_of_lt_succ hi) with h | h; exact hgd i h; rw [h]; unfold badB; rw [decide_eq_true (Decidable.not_not.1 g28)]; rfl)⟩
 have hbn : badP (opP xs) = [] := badP_nil (fun i hi => hgd i (by omega))
 refine go ?_
 have D31 := (hFO.keep u15 (fun _ h => h))
 refine x_c func37 rfl rfl (tapeE_c (opP xs) aO gO 0 cO _ (D31.sl encBk_len) (by omega) (by omega)) ?_
 rintro _ w33 ⟨⟨T9, aT, gT, cT, rfl, hFT, hT9⟩, u34⟩ zu34
 have lt_gT := hFT.lt
 have htb := tapB_len (opP xs) (opP xs).length
 rw [← hT9] at htb
 obtain ⟨hTl, hTb⟩ := htb
 obtain ⟨s0, hs0⟩ : ∃ s : Scr, s = ⟨T9, false⟩ := ⟨_, rfl⟩
 have hp0 : parP T9 = parN (cdV s0 + 1).toNat (cdS s0) 0 [] := by rw [hs0]; rfl
 have hs0l : s0.r.length = T9.length := by rw [hs0]
 have hs0b : bitL s0.r := by rw [hs0]; exact hTb
 refine t_ofB underlying118 underlying5 underlying9 rfl rfl rfl (hFT.sl (fun _ => rfl)) rfl ?_
 refine go ?_
 refine x_b fun bk37 w38 ebk37 sbk37 B39 u40 => ?_
 refine go ?_
 have hB0 : Blk w38 bk37 121 [.string (strB s0.r), .bool s0.b] := by rw [hs0]; exact B39
 refine go ?_
 refine t_call own38 rfl rfl rfl rfl (scode_c s0 bk37 _ hB0 (by omega)) (fun v45 w46 r48 => ?_)
 obtain ⟨rfl, hSs44, u47⟩ := r48
 have zu47 := u47.size
 have hvs44 := cdV_r s0
 have hls44 := cdS_r s0
 refine st1 ?_
 refine t_same 38 (v := .int .i64 (((cdV s0 + 1).toNat : Nat) : Int)) rfl (congrArg (Value.int .i64) (by have h9 := cdV_r s0; omega)) ?_
 refine go ?_
 refine x_l5 (fun i => i = bk37 ∨ w46.heap.size ≤ i) [5, 7] (fun (n : Nat) (s : Scr) (m : Int) (E : List Ent) (q : (Option Addr × Nat × Nat)) => [(2, .slice q.1 E.length q.2.2), (8, .int .i64 m), (9, .int .i64 (n : Int))]) (fun n s m E q w => Blk w bk37 121 [.string (strB s.r), .bool s.b] ∧ (parP T9 = parN n s m E) ∧ (Acc encEnt 6 41 w0.heap.size w q.1 q.2.1 q.2.2 E) ∧ (q.2.1 = 0 ∨ w46.heap.size ≤ q.2.1) ∧ (bitL s.r) ∧ (2 * E.length + s.r.length ≤ T9.length + 2) ∧ (s.b = true ∨ 2 * E.length + s.r.length ≤ T9.length) ∧ (0 ≤ m ∧ m ≤ 1000000000 * (E.length : Int)) ∧ (n ≤ 1000000001)) (fun n s m E q => n) ((cdV s0 + 1).toNat) (cdS s0) 0 ([]) (none, 0, 0) ⟨hSs44, hp0, (Acc.nil _ _ _ _ _ hpos (by omega)), (.inl rfl), ((cdS_r s0).2.2 hs0b), (by have h9 := (cdS_r s0).1; simp only [List.length_nil]; omega), (.inr (by have h9 := (cdS_r s0).1; simp only [List.length_nil]; omega)), ⟨Int.le_refl 0, by decide⟩, (by have h9 := cdV_r s0; omega)⟩ ?_ (h0 := by exact ⟨rfl, rfl, (congrArg (fun z => some (Value.int .i64 z)) (by have h9 := cdV_r s0; omega)), rfl, rfl, trivial⟩)
 rintro n s m E q w51 ⟨I53, hpn, hA, hqW, hbt, hle, hle2, hm9, hn9⟩ u52 zu52 K50 hK50
 have lt_q_2_1 := hA.lt
 have hgl := hA.lt
 refine go ?_
 refine t_splitp 41 rfl (fun g41 => ?_) (fun g41 => ?_)
 ·
  refine go ?_
  refine q_b (fun g47 => ?_) fun g47 => ?_
  ·
   have hsb : s.b = false := by simpa using g47
   have hle3 : 2 * E.length + s.r.length ≤ T9.length := hle2.resolve_left (by rw [hsb]; decide)
   refine go ?_
   refine t_call own39 rfl rfl rfl rfl (sentry_c s m bk37 _ I53 (by omega) hbt (by omega)) (fun v60 w61 r63 => ?_)
   obtain ⟨rfl, hSs59, u62⟩ := r63
   have zu62 := u62.size
   have hes := entS_r s
   have hem := entV_m s m (by omega)
   refine x_l fun bk65 w66 ebk65 sbk65 B67 u68 => ?_
   have D70 := ((hA.keep u62 (fun hb => show ¬ (q.2.1 = bk37) by first | omega | assumption)).keep u68 (fun _ h => h))
   refine t_append (z := .agg #[.int .i64 0, .int .i64 0, .int .i64 0, .int .i64 0, .int .i64 0, .int .i64 0]) (bytes := 48) (k := 6) (base := w0.heap.size) (entV s m) underlying22 (by kernel_rfl) rfl (by decide) (fun _ => rfl) (by intro x; simp [encEnt, Value.oneCell']) rfl rfl rfl rfl D70 B67 (by omega) (by omega) (by decide) (fun ao71 gb72 cp73 w74 A75 u76 gegb72 lngb72 => ?_)
   have zu76 := u76.size
   have lt_gb72 := A75.lt
   refine go ?_
   refine g_i E.length (A75.sl (fun _ => rfl)) (fun _ => ?_) (hj := (by rw [List.length_append]; simp only [List.length_cons, List.length_nil]; omega))
   iterate 2 refine st1 ?_
   refine t_same 62 (v := .int .i64 ((entV s m).m)) rfl (congrArg (Value.int .i64) (by rw [nth_app_r (Nat.le_refl _), Nat.sub_self]; rfl)) ?_
   refine go ?_
   have hEl : (E ++ [entV s m]).length = E.length + 1 := by rw [List.length_append]; rfl
   have hn1 : n = (n - 1) + 1 := by omega
   have B79 := ((hSs59.kx u68).keep u76 (by omega))
   exact hK50 (n - 1) (entS s) ((entV s m).m) (E ++ [entV s m]) (ao71, gb72, cp73) ⟨B79, (by rw [hpn]; exact (congrArg (fun z => parN z s m E) hn1).trans (parN_step hsb)), A75, (show gb72 = 0 ∨ w46.heap.size ≤ gb72 by omega), (hes.2.2.2 hbt), (by rw [hEl]; omega), (by rw [hEl]; rcases Nat.lt_or_ge s.r.length 2 with h | h; exact .inl (hes.2.2.1 h); exact .inr (by have h9 := hes.2.1 h; omega)), (by rw [hEl]; omega), (by omega)⟩ (hs := by exact ⟨rfl, rfl, (congrArg (fun z => some (Value.int .i64 z)) (by omega)), rfl, rfl, trivial⟩)
  refine go ?_
  refine t_split 67 rfl (fun g67 => ?_) (fun g67 => ?_)
  ·
   refine go ?_
   refine f_ret3 (v1 := .slice none 0 0) (v2 := .int .i64 0) (v3 := .int .i64 4) results11 rfl rfl rfl ?_
   have hE1 : ¬ opE xs ≠ 0 := by omega
   have hpf : parP T9 = (E, s) := by rw [hpn]; first | (rw [show n = 0 by omega]; rfl) | exact parN_stop (by simpa using g47)
   rw [hT9] at hpf
   have he : readR xs = ([], 0, 4) := by unfold readR; rw [if_neg hE1, hbn]; show (if _ then _ else _) = _; rw [hpf, if_pos (.inl g67)]
   exact ⟨⟨none, 0, 0, by rw [he]; rfl, by rw [he]; exact (Acc.nil _ _ _ _ _ hpos (by omega))⟩, u_d⟩
  refine go ?_
  refine x_c func29 rfl rfl (checkEntries_c E q.1 q.2.1 0 q.2.2 _ (hA.sl (fun _ => rfl)) (by omega)) ?_
  rintro _ w85 ⟨rfl, u86⟩ zu86
  refine go ?_
  refine t_splitp 72 rfl (fun g72 => ?_) (fun g72 => ?_)
  ·
   refine go ?_
   refine f_ret3 (v1 := .slice none 0 0) (v2 := .int .i64 0) (v3 := .int .i64 4) results11 rfl rfl rfl ?_
   have hE1 : ¬ opE xs ≠ 0 := by omega
   have hpf : parP T9 = (E, s) := by rw [hpn]; first | (rw [show n = 0 by omega]; rfl) | exact parN_stop (by simpa using g47)
   rw [hT9] at hpf
   have he : readR xs = ([], 0, 4) := by unfold readR; rw [if_neg hE1, hbn]; show (if _ then _ else _) = _; rw [hpf, if_pos (.inr (.inl g72))]
   exact ⟨⟨none, 0, 0, by rw [he]; rfl, by rw [he]; exact (Acc.nil _ _ _ _ _ hpos (by omega))⟩, u_d⟩
  refine go ?_
  have D90 := (hA.keep u86 (fun _ h => h))
  refine x_c func30 rfl rfl (write_c E q.1 q.2.1 0 q.2.2 _ (D90.sl (fun _ => rfl)) (by omega)) ?_
  rintro _ w92 ⟨⟨aW, gW, cW, rfl, hFW⟩, u93⟩ zu93
  have lt_gW := hFW.lt
  have hwl := writeP_len (show chkE E = 0 by omega)
  refine go ?_
  have D96 := ((((((D31.keep u34 (fun _ h => h)).keep u40 (fun _ h => h)).keep u47 (fun hb => show ¬ (gO = bk37) by first | omega | assumption)).keep u52 (fun hb => show ¬ (gO = bk37 ∨ w46.heap.size ≤ gO) by first | omega | assumption)).keep u86 (fun _ h => h)).keep u93 (fun _ h => h))
  refine x_c func40 rfl rfl (eqBk_c (writeP E) (opP xs) aW gW 0 cW aO gO 0 cO _ (hFW.sl encBk_len) (D96.sl encBk_len) (by omega)) ?_
  rintro _ w98 ⟨rfl, u99⟩ zu99
  refine go ?_
  refine q_p (fun g78 => ?_) fun g78 => ?_
  ·
   refine go ?_
   refine f_ret3 (v1 := .slice none 0 0) (v2 := .int .i64 0) (v3 := .int .i64 4) results11 rfl rfl rfl ?_
   have hE1 : ¬ opE xs ≠ 0 := by omega
   have hpf : parP T9 = (E, s) := by rw [hpn]; first | (rw [show n = 0 by omega]; rfl) | exact parN_stop (by simpa using g47)
   rw [hT9] at hpf
   have he : readR xs = ([], 0, 4) := by unfold readR; rw [if_neg hE1, hbn]; show (if _ then _ else _) = _; rw [hpf, if_pos (.inr (.inr g78))]
   exact ⟨⟨none, 0, 0, by rw [he]; rfl, by rw [he]; exact (Acc.nil _ _ _ _ _ hpos (by omega))⟩, u_d⟩
  refine go ?_
  refine f_ret3 (v1 := .slice q.1 E.length q.2.2) (v2 := .int .i64 0) (v3 := .int .i64 0) results11 rfl rfl rfl ?_
  have D104 := ((D90.keep u93 (fun _ h => h)).keep u99 (fun _ h => h))
  have hE1 : ¬ opE xs ≠ 0 := by omega
  have hpf : parP T9 = (E, s) := by rw [hpn]; first | (rw [show n = 0 by omega]; rfl) | exact parN_stop (by simpa using g47)
  rw [hT9] at hpf
  have he : readR xs = (E, 0, 0) := by unfold readR; rw [if_neg hE1, hbn]; show (if _ then _ else _) = _; rw [hpf, if_neg (fun h => h.elim (fun h => by rw [h] at g67; cases g67) (fun h => h.elim (fun h => g72 h) (fun h => g78 h)))]
  exact ⟨⟨q.1, q.2.1, q.2.2, by rw [he], by rw [he]; exact D104⟩, u_d⟩
 refine go ?_
 refine t_split 67 rfl (fun g67 => ?_) (fun g67 => ?_)
 ·
  refine go ?_
  refine f_ret3 (v1 := .slice none 0 0) (v2 := .int .i64 0) (v3 := .int .i64 4) results11 rfl rfl rfl ?_
  have hE1 : ¬ opE xs ≠ 0 := by omega
  have hpf : parP T9 = (E, s) := by rw [hpn]; first | (rw [show n = 0 by omega]; rfl) | exact parN_stop (by simpa using g47)
  rw [hT9] at hpf
  have he : readR xs = ([], 0, 4) := by unfold readR; rw [if_neg hE1, hbn]; show (if _ then _ else _) = _; rw [hpf, if_pos (.inl g67)]
  exact ⟨⟨none, 0, 0, by rw [he]; rfl, by rw [he]; exact (Acc.nil _ _ _ _ _ hpos (by omega))⟩, u_d⟩
 refine go ?_
 refine x_c func29 rfl rfl (checkEntries_c E q.1 q.2.1 0 q.2.2 _ (hA.sl (fun _ => rfl)) (by omega)) ?_
 rintro _ w110 ⟨rfl, u111⟩ zu111
 refine go ?_
 refine t_splitp 72 rfl (fun g72 => ?_) (fun g72 => ?_)
 ·
  refine go ?_
  refine f_ret3 (v1 := .slice none 0 0) (v2 := .int .i64 0) (v3 := .int .i64 4) results11 rfl rfl rfl ?_
  have hE1 : ¬ opE xs ≠ 0 := by omega
  have hpf : parP T9 = (E, s) := by rw [hpn]; first | (rw [show n = 0 by omega]; rfl) | exact parN_stop (by simpa using g47)
  rw [hT9] at hpf
  have he : readR xs = ([], 0, 4) := by unfold readR; rw [if_neg hE1, hbn]; show (if _ then _ else _) = _; rw [hpf, if_pos (.inr (.inl g72))]
  exact ⟨⟨none, 0, 0, by rw [he]; rfl, by rw [he]; exact (Acc.nil _ _ _ _ _ hpos (by omega))⟩, u_d⟩
 refine go ?_
 have D115 := (hA.keep u111 (fun _ h => h))
 refine x_c func30 rfl rfl (write_c E q.1 q.2.1 0 q.2.2 _ (D115.sl (fun _ => rfl)) (by omega)) ?_
 rintro _ w117 ⟨⟨aW, gW, cW, rfl, hFW⟩, u118⟩ zu118
 have lt_gW := hFW.lt
 have hwl := writeP_len (show chkE E = 0 by omega)
 refine go ?_
 have D121 := ((((((D31.keep u34 (fun _ h => h)).keep u40 (fun _ h => h)).keep u47 (fun hb => show ¬ (gO = bk37) by first | omega | assumption)).keep u52 (fun hb => show ¬ (gO = bk37 ∨ w46.heap.size ≤ gO) by first | omega | assumption)).keep u111 (fun _ h => h)).keep u118 (fun _ h => h))
 refine x_c func40 rfl rfl (eqBk_c (writeP E) (opP xs) aW gW 0 cW aO gO 0 cO _ (hFW.sl encBk_len) (D121.sl encBk_len) (by omega)) ?_
 rintro _ w123 ⟨rfl, u124⟩ zu124
 refine go ?_
 refine q_p (fun g78 => ?_) fun g78 => ?_
 ·
  refine go ?_
  refine f_ret3 (v1 := .slice none 0 0) (v2 := .int .i64 0) (v3 := .int .i64 4) results11 rfl rfl rfl ?_
  have hE1 : ¬ opE xs ≠ 0 := by omega
  have hpf : parP T9 = (E, s) := by rw [hpn]; first | (rw [show n = 0 by omega]; rfl) | exact parN_stop (by simpa using g47)
  rw [hT9] at hpf
  have he : readR xs = ([], 0, 4) := by unfold readR; rw [if_neg hE1, hbn]; show (if _ then _ else _) = _; rw [hpf, if_pos (.inr (.inr g78))]
  exact ⟨⟨none, 0, 0, by rw [he]; rfl, by rw [he]; exact (Acc.nil _ _ _ _ _ hpos (by omega))⟩, u_d⟩
 refine go ?_
 refine f_ret3 (v1 := .slice q.1 E.length q.2.2) (v2 := .int .i64 0) (v3 := .int .i64 0) results11 rfl rfl rfl ?_
 have D129 := ((D115.keep u118 (fun _ h => h)).keep u124 (fun _ h => h))
 have hE1 : ¬ opE xs ≠ 0 := by omega
 have hpf : parP T9 = (E, s) := by rw [hpn]; first | (rw [show n = 0 by omega]; rfl) | exact parN_stop (by simpa using g47)
 rw [hT9] at hpf
 have he : readR xs = (E, 0, 0) := by unfold readR; rw [if_neg hE1, hbn]; show (if _ then _ else _) = _; rw [hpf, if_neg (fun h => h.elim (fun h => by rw [h] at g67; cases g67) (fun h => h.elim (fun h => g72 h) (fun h => g78 h)))]
 exact ⟨⟨q.1, q.2.1, q.2.2, by rw [he], by rw [he]; exact D129⟩, u_d⟩

end Go.Proofs.YtagmkfbbhfaceaaGreatDoor
namespace Go.Proofs.YtagmkfbbhfaceaaGreatDoor
open Go Go.RowKit
set_option maxRecDepth 10000
/-! ### a log is read as it was written -/
theorem cd_code {n : Nat} (hn : n ≤ 1000000000) (r : List UInt8) (b : Bool) : cdV ⟨codeP n ++ r, b⟩ = (n : Int) ∧ cdS ⟨codeP n ++ r, b⟩ = ⟨r, b⟩ := by
  have h := dec_code n hn r
  unfold cdV cdS
  rw [h]
  refine ⟨if_pos rfl, ?_⟩
  rw [if_pos rfl]
  show (⟨(codeP n ++ r).drop ((codeP n).length : Int).toNat, b⟩ : Scr) = _
  rw [Int.toNat_natCast, List.drop_left' rfl]
theorem kind_bits {k : Int} (h : 1 ≤ k ∧ k ≤ 4) : ∃ a b, putP (k - 1).toNat 2 = [a, b] ∧ 1 + 2 * d48 a + d48 b = k := by
  have hk : k = 1 ∨ k = 2 ∨ k = 3 ∨ k = 4 := by omega
  rcases hk with rfl | rfl | rfl | rfl
  · exact ⟨_, _, rfl, by decide⟩
  · exact ⟨_, _, rfl, by decide⟩
  · exact ⟨_, _, rfl, by decide⟩
  · exact ⟨_, _, rfl, by decide⟩
theorem codes_two (a b : Int) : codesP [a, b] = codeP a.toNat ++ codeP b.toNat := by simp [codesP]
theorem ent_ext {x : Ent} {m k h p b t : Int} (h1 : m = x.m) (h2 : k = x.k) (h3 : h = x.h) (h4 : p = x.p) (h5 : b = x.b) (h6 : t = x.t) : (⟨m, k, h, p, b, t⟩ : Ent) = x := by
  subst h1; subst h2; subst h3; subst h4; subst h5; subst h6; rfl
theorem ent_back {m : Int} {x : Ent} (hx : okEnt x = true) (hm : m ≤ x.m) (h0 : 0 ≤ m) (r : List UInt8) (c : Bool) : entV ⟨entP m x ++ r, c⟩ m = x ∧ entS ⟨entP m x ++ r, c⟩ = ⟨r, c⟩ := by
  have hq : ((0 ≤ x.m ∧ x.m ≤ 1000000) ∧ (1 ≤ x.h ∧ x.h ≤ 999) ∧ (1 ≤ x.k ∧ x.k ≤ 4) ∧ (((x.k = 1 ∨ x.k = 3) ∧ (0 ≤ x.p ∧ x.p ≤ 100000) ∧ x.b = 0 ∧ x.t = 0) ∨ (¬ (x.k = 1 ∨ x.k = 3) ∧ x.p = 0 ∧ (1 ≤ x.b ∧ x.b ≤ 9999) ∧ (1 ≤ x.t ∧ x.t ≤ 100000)))) := of_decide_eq_true hx
  obtain ⟨q1, q2, q3, q4⟩ := hq
  obtain ⟨a, b, e1, e2⟩ := kind_bits q3
  by_cases hk : x.k = 1 ∨ x.k = 3
  · obtain ⟨_, qp, qb, qt⟩ := q4.resolve_right (fun h => h.1 hk)
    have hp : plK x.k = true := decide_eq_true hk
    have er : entP m x ++ r = a :: b :: (codeP (x.m - m).toNat ++ (codeP (x.h - 1).toNat ++ (codeP x.p.toNat ++ r))) := by
      unfold entP
      rw [e1, codes_two, if_pos hp, codesP_one]
      simp only [List.append_assoc, List.cons_append, List.nil_append]
    rw [er]
    have ek : knd ⟨a :: b :: (codeP (x.m - m).toNat ++ (codeP (x.h - 1).toNat ++ (codeP x.p.toNat ++ r))), c⟩ = x.k := e2
    have es : s2_ ⟨a :: b :: (codeP (x.m - m).toNat ++ (codeP (x.h - 1).toNat ++ (codeP x.p.toNat ++ r))), c⟩ = ⟨codeP (x.m - m).toNat ++ (codeP (x.h - 1).toNat ++ (codeP x.p.toNat ++ r)), c⟩ := rfl
    have hl : ¬ (a :: b :: (codeP (x.m - m).toNat ++ (codeP (x.h - 1).toNat ++ (codeP x.p.toNat ++ r)))).length < 2 := by simp only [List.length_cons]; omega
    have c1 := cd_code (n := (x.m - m).toNat) (by omega) (codeP (x.h - 1).toNat ++ (codeP x.p.toNat ++ r)) c
    have c2 := cd_code (n := (x.h - 1).toNat) (by omega) (codeP x.p.toNat ++ r) c
    have c3 := cd_code (n := x.p.toNat) (by omega) r c
    unfold entV entS
    rw [if_neg hl, if_neg hl, ek, if_pos hp, if_pos hp, es, c1.1, c1.2, c2.1, c2.2, c3.1, c3.2]
    exact ⟨ent_ext (by omega) rfl (by omega) (by omega) qb.symm qt.symm, rfl⟩
  · obtain ⟨_, qp, qb, qt⟩ := q4.resolve_left (fun h => hk h.1)
    have hp : ¬ plK x.k = true := fun h => hk (of_decide_eq_true h)
    have er : entP m x ++ r = a :: b :: (codeP (x.m - m).toNat ++ (codeP (x.h - 1).toNat ++ (codeP (x.b - 1).toNat ++ (codeP (x.t - 1).toNat ++ r)))) := by
      unfold entP
      rw [e1, codes_two, if_neg hp, codes_two]
      simp only [List.append_assoc, List.cons_append, List.nil_append]
    rw [er]
    have ek : knd ⟨a :: b :: (codeP (x.m - m).toNat ++ (codeP (x.h - 1).toNat ++ (codeP (x.b - 1).toNat ++ (codeP (x.t - 1).toNat ++ r)))), c⟩ = x.k := e2
    have es : s2_ ⟨a :: b :: (codeP (x.m - m).toNat ++ (codeP (x.h - 1).toNat ++ (codeP (x.b - 1).toNat ++ (codeP (x.t - 1).toNat ++ r)))), c⟩ = ⟨codeP (x.m - m).toNat ++ (codeP (x.h - 1).toNat ++ (codeP (x.b - 1).toNat ++ (codeP (x.t - 1).toNat ++ r))), c⟩ := rfl
    have hl : ¬ (a :: b :: (codeP (x.m - m).toNat ++ (codeP (x.h - 1).toNat ++ (codeP (x.b - 1).toNat ++ (codeP (x.t - 1).toNat ++ r))))).length < 2 := by simp only [List.length_cons]; omega
    have c1 := cd_code (n := (x.m - m).toNat) (by omega) (codeP (x.h - 1).toNat ++ (codeP (x.b - 1).toNat ++ (codeP (x.t - 1).toNat ++ r))) c
    have c2 := cd_code (n := (x.h - 1).toNat) (by omega) (codeP (x.b - 1).toNat ++ (codeP (x.t - 1).toNat ++ r)) c
    have c3 := cd_code (n := (x.b - 1).toNat) (by omega) (codeP (x.t - 1).toNat ++ r) c
    have c4 := cd_code (n := (x.t - 1).toNat) (by omega) r c
    unfold entV entS
    rw [if_neg hl, if_neg hl, ek, if_neg hp, if_neg hp, es, c1.1, c1.2, c2.1, c2.2, c3.1, c3.2, c4.1, c4.2]
    exact ⟨ent_ext (by omega) rfl (by omega) qp.symm (by omega) (by omega), rfl⟩
theorem parN_back : ∀ (l : List Ent) (m : Int) (E : List Ent) (r : List UInt8), chkG m l = 0 → 0 ≤ m → parN l.length ⟨entsG m l ++ r, false⟩ m E = (E ++ l, ⟨r, false⟩)
  | [], m, E, r, _, _ => by
    show (E, (⟨[] ++ r, false⟩ : Scr)) = _
    rw [List.append_nil, List.nil_append]
  | x :: l, m, E, r, h, h0 => by
    obtain ⟨h1, h2, h3⟩ := chkG_cons h
    have hb := ent_back h1 h2 h0 (entsG x.m l ++ r) false
    have e : entsG m (x :: l) ++ r = entP m x ++ (entsG x.m l ++ r) := by
      show (entP m x ++ entsG x.m l) ++ r = _
      rw [List.append_assoc]
    rw [List.length_cons, e, parN_step rfl, hb.1, hb.2, parN_back l x.m (E ++ [x]) r h3 (by omega), List.append_assoc]; rfl
theorem parP_back {l : List Ent} (h : chkE l = 0) (r : List UInt8) : parP (tapeP l ++ r) = (l, ⟨r, false⟩) := by
  have hc : l.length ≠ 0 ∧ l.length ≤ 2000 ∧ chkG 0 l = 0 := by
    unfold chkE at h
    split at h
    · cases h
    · split at h
      · cases h
      · exact ⟨by assumption, by omega, h⟩
  have e : tapeP l ++ r = codeP ((l.length : Int) - 1).toNat ++ (entsG 0 l ++ r) := by
    unfold tapeP
    rw [codesP_one, List.append_assoc]
  have c1 := cd_code (n := ((l.length : Int) - 1).toNat) (by omega) (entsG 0 l ++ r) false
  unfold parP
  rw [e, c1.1, c1.2, show ((((l.length : Int) - 1).toNat : Int) + 1).toNat = l.length by omega, parN_back l 0 [] r hc.2.2 (by decide)]
  rfl
/-! the digits of a log's data -/
def dgB (d : Bk) : List UInt8 := digs (d.l.take 30)
def segD (v : List Bk) (n a : Nat) : Nat → List UInt8
  | 0 => []
  | j + 1 => segD v n a j ++ tapG v n (a + j)
theorem tapB_seg (v : List Bk) : ∀ k, tapB v k = segD v v.length 0 k
  | 0 => rfl
  | k + 1 => by
    show tapB v k ++ _ = segD v v.length 0 k ++ _
    rw [tapB_seg v k, Nat.zero_add]
theorem segD_add (v : List Bk) (n a i : Nat) : ∀ j, segD v n a (i + j) = segD v n a i ++ segD v n (a + i) j
  | 0 => by
    show segD v n a i = segD v n a i ++ []
    rw [List.append_nil]
  | j + 1 => by
    show segD v n a (i + j) ++ tapG v n (a + (i + j)) = segD v n a i ++ (segD v n (a + i) j ++ tapG v n (a + i + j))
    rw [segD_add v n a i j, List.append_assoc, Nat.add_assoc]
theorem group_data (v ds : List Bk) : ∃ g, shutG (ds.foldl nextR (v, zeroBk)) = v ++ g ∧ g.length = ds.length + 1 ∧ ∀ i, i < ds.length → dgB (nth g i) = dgB (nth ds i) := by
  obtain ⟨g, h1, h2, h3⟩ := foldR_v (v, zeroBk) ds
  have hl : (ds.foldl nextR (v, zeroBk)).1.length = v.length + ds.length := by rw [foldR_len]
  refine ⟨g ++ [(ds.foldl nextR (v, zeroBk)).2.shutB (v.length + ds.length)], ?_, by rw [List.length_append, h2]; rfl, fun i hi => ?_⟩
  · unfold shutG
    rw [hl, h1, List.append_assoc]
  · unfold dgB
    rw [nth_app_l (by omega), h3 i hi, shut_take]
theorem seg_group {v ds : List Bk} {n a : Nat} (h5 : a % 5 = 0) (h4 : ds.length ≤ 4) (hn : a + ds.length + 1 ≤ n) (hL : ds.length = 4 ∨ n = a + ds.length + 1) (hg : ∀ i, i < ds.length → dgB (nth v (a + i)) = dgB (nth ds i)) : segD v n a (ds.length + 1) = ds.flatMap dgB := by
  have hi : ∀ i, i < 5 → gF (a + i) = a := fun i h => by unfold gF; omega
  have key : ∀ j, j ≤ ds.length → segD v n a j = (ds.take j).flatMap dgB := by
    intro j
    induction j with
    | zero => intro _; rfl
    | succ j ih =>
      intro hj
      have ht : tapG v n (a + j) = dgB (nth ds j) := by
        unfold tapG
        rw [if_neg (by unfold gL; rw [hi j (by omega)]; omega)]
        exact hg j (by omega)
      show segD v n a j ++ tapG v n (a + j) = _
      rw [ih (by omega), ht, take_nth (by omega), List.flatMap_append]
      simp
  show segD v n a ds.length ++ tapG v n (a + ds.length) = _
  have ht : tapG v n (a + ds.length) = [] := by
    unfold tapG
    rw [if_pos (by unfold gL; rw [hi ds.length (by omega)]; omega)]
  rw [key ds.length (Nat.le_refl _), ht, List.append_nil, List.take_length]
theorem grp_tape : ∀ (n : Nat) (u ds : List Bk), ds.length ≤ n → u.length % 5 = 0 → ∃ r, grpN n u ds = u ++ r ∧ segD (u ++ r) (u ++ r).length u.length r.length = ds.flatMap dgB := by
  intro n
  induction n with
  | zero =>
    intro u ds h _
    have : ds = [] := List.length_eq_zero_iff.1 (by omega)
    subst this
    exact ⟨[], by simp [grpN], rfl⟩
  | succ n ih =>
    intro u ds h h5
    by_cases h0 : ds.length = 0
    · have : ds = [] := List.length_eq_zero_iff.1 h0
      subst this
      exact ⟨[], by simp [grpN], rfl⟩
    · obtain ⟨g, g1, g2, g3⟩ := group_data u (ds.take 4)
      have htl : (ds.take 4).length = min 4 ds.length := List.length_take
      have hgr : grpN (n + 1) u ds = grpN n (u ++ g) (ds.drop 4) := by
        conv => lhs; unfold grpN
        rw [if_neg h0, g1]
      by_cases h4 : ds.length ≤ 4
      · have hd : ds.drop 4 = [] := List.drop_of_length_le h4
        have ht : ds.take 4 = ds := List.take_of_length_le h4
        rw [ht] at g2 g3
        refine ⟨g, by rw [hgr, hd, grpN_nil], ?_⟩
        rw [g2]
        exact seg_group h5 h4 (by rw [List.length_append]; omega) (.inr (by rw [List.length_append]; omega)) (fun i hi => by rw [nth_app_r (by omega), Nat.add_sub_cancel_left]; exact g3 i hi)
      · have hg5 : g.length = 5 := by omega
        obtain ⟨r, r1, r2⟩ := ih (u ++ g) (ds.drop 4) (by rw [List.length_drop]; omega) (by rw [List.length_append]; omega)
        refine ⟨g ++ r, by rw [hgr, r1, List.append_assoc], ?_⟩
        rw [List.append_assoc] at r2
        rw [show (u ++ g).length = u.length + g.length from List.length_append] at r2
        rw [show (g ++ r).length = g.length + r.length from List.length_append, segD_add, r2, show g.length = (ds.take 4).length + 1 by omega, seg_group h5 (by omega) (by rw [List.length_append, List.length_append]; omega) (.inl (by omega)) (fun i hi => by rw [nth_app_r (by omega), Nat.add_sub_cancel_left, nth_app_l (by omega)]; exact g3 i hi), ← List.flatMap_append, List.take_append_drop]
theorem chunk_tape : ∀ (n : Nat) (t : List UInt8), t.length ≤ n → (∀ x ∈ t, x = 48 ∨ x = 49) → ∃ z, ((chunk t).map blkOf).flatMap dgB = t ++ List.replicate z 48 := by
  intro n
  induction n with
  | zero =>
    intro t h hb
    rw [chunk_eq, if_pos (by omega)]
    refine ⟨240 - t.length, ?_⟩
    show digs ((blkOf t).l.take 30) ++ [] = _
    rw [List.append_nil, digs_blk hb (by omega)]
  | succ n ih =>
    intro t h hb
    by_cases h2 : t.length ≤ 240
    · rw [chunk_eq, if_pos h2]
      refine ⟨240 - t.length, ?_⟩
      show digs ((blkOf t).l.take 30) ++ [] = _
      rw [List.append_nil, digs_blk hb h2]
    · obtain ⟨z, hz⟩ := ih (t.drop 240) (by rw [List.length_drop]; omega) (fun x hx => hb x (List.mem_of_mem_drop hx))
      have hl : (t.take 240).length = 240 := by rw [List.length_take]; omega
      rw [chunk_eq, if_neg h2]
      refine ⟨z, ?_⟩
      show digs ((blkOf (t.take 240)).l.take 30) ++ ((chunk (t.drop 240)).map blkOf).flatMap dgB = _
      rw [hz, digs_blk (fun x hx => hb x (List.mem_of_mem_take hx)) (by omega), hl, Nat.sub_self]
      show t.take 240 ++ [] ++ (t.drop 240 ++ _) = _
      rw [List.append_nil, ← List.append_assoc, List.take_append_drop]
theorem fill_tape {t : List UInt8} (hb : ∀ x ∈ t, x = 48 ∨ x = 49) : ∃ z, tapB (fillP t) (fillP t).length = t ++ List.replicate z 48 := by
  have e : fillP t = grpN ((chunk t).map blkOf).length [] ((chunk t).map blkOf) := by rw [fillP_eq, grp_eq _ _ [] (Nat.le_refl _) rfl]
  obtain ⟨r, r1, r2⟩ := grp_tape ((chunk t).map blkOf).length [] ((chunk t).map blkOf) (Nat.le_refl _) rfl
  obtain ⟨z, hz⟩ := chunk_tape t.length t (Nat.le_refl _) hb
  rw [List.nil_append] at r1 r2
  refine ⟨z, ?_⟩
  rw [tapB_seg, e, r1, ← hz]
  exact r2
/-- a log is read as it was written -/
theorem readR_log {l : List Ent} (h : chkE l = 0) (h13 : (writeP l).length ≤ 1300) : readR (bytesP (writeP l)) = (l, 0, 0) := by
  have hg : GoodV (writeP l) := (fill_good (tapeP l)).1
  obtain ⟨ho, hp⟩ := opE_bytes hg h13 (U := writeP l) rfl
  obtain ⟨z, hz⟩ := fill_tape (t := tapeP l) (fun x hx => tapeP_bits (l := l) x hx)
  have hz : tapB (writeP l) (writeP l).length = tapeP l ++ List.replicate z 48 := hz
  have hb : badP (writeP l) = [] := badP_nil fun i hi => by
    unfold badB
    rw [decide_eq_true (hg.ok i hi)]; rfl
  unfold readR
  rw [if_neg (by rw [ho]; decide), hp, hb]
  show (if _ then _ else _) = _
  rw [hz, parP_back h]
  rw [if_neg (by
    rintro (q | q | q)
    · cases q
    · exact q h
    · exact q rfl)]

end Go.Proofs.YtagmkfbbhfaceaaGreatDoor
namespace Go.Proofs.YtagmkfbbhfaceaaGreatDoor
open Go Go.RowKit Go.Proofs.Tryz
set_option maxRecDepth 10000

theorem WriteV_c (l : List Ent) (al : Option Addr) (bl ol cl : Nat) (w0 : World) (hl : Sl encEnt 6 w0 al bl ol l) (hll : l.length ≤ 1000000000) (hpos : 0 < w0.heap.size) :
    CallsV Tryz.prog 9 [.slice al l.length cl] w0 fun v w' => (∃ (u : List Bk) (a9 : Option Addr) (g9 c9 : Nat), v = .tuple #[.slice a9 (bytesP u).length c9, .int .i64 (chkE l)] ∧ Acc encY 1 5 w0.heap.size w' a9 g9 c9 (bytesP u) ∧ u = if chkE l = 0 then writeP l else []) ∧ Ext w0 w' :=
  CallsV.mono (WriteLog_c l al bl ol cl w0 hl hll hpos) (by
    rintro v w' ⟨⟨a, g, c, rfl, h⟩, u⟩
    have e : logP l = bytesP (if chkE l = 0 then writeP l else []) := by
      unfold logP
      split <;> rfl
    rw [e] at h ⊢
    exact ⟨⟨_, a, g, c, rfl, h, rfl⟩, u⟩)
theorem RepairE_c (xs : List UInt8) (ab : Option Addr) (bb ob cb : Nat) (w0 : World) (hs : Sl encY 1 w0 ab bb ob xs) (hcb : xs.length ≤ cb) (hxl : xs.length ≤ 1000000) (hpos : 0 < w0.heap.size) (r1 : List UInt8) (r2 : List Int) (r3 : Int) (hr : repR xs = (r1, r2, r3)) :
    CallsV Tryz.prog 10 [.slice ab xs.length cb] w0 fun v w' => (∃ a9 g9 c9 a8 g8 c8, v = .tuple #[.slice a9 (List.length r1) c9, .slice a8 (List.length r2) c8, .int .i64 r3] ∧ Acc encY 1 5 w0.heap.size w' a9 g9 c9 r1 ∧ Acc encI 1 3 w0.heap.size w' a8 g8 c8 r2) ∧ Ext w0 w' := by
  have h := Repair_c xs ab bb ob cb w0 hs hcb hxl hpos
  rw [hr] at h
  exact h

end Go.Proofs.YtagmkfbbhfaceaaGreatDoor
