/-
  Part 21 of the proof: contracts and plain laws. Conditions: none.
-/
import Derived.Test.YtjdcpnaocjddoaaGreatDoorIK20
namespace Go.Proofs.YtjdcpnaocjddoaaGreatDoor
open Go Go.RowKit Go.Proofs.Tryz
def SlG (W : World) (ys : List Gau) : Prop := ∀ z ∈ ys, Sl encI 1 W z.ao z.g z.ob z.s ∧ z.s.length ≤ z.cp ∧ z.s.length ≤ 17592186044416
theorem SlG.ext {W W' : World} {ys : List Gau} (h : SlG W ys) (u : Ext W W') : SlG W' ys := fun z hz => ⟨(h z hz).1.keep u (fun _ h => h), (h z hz).2⟩
theorem prvG_zero {l : List Gau} {i : Nat} (h : i = 0) : prvG l i = none := if_pos h
theorem prvG_pos {l : List Gau} {i : Nat} (h : 0 < i) : prvG l i = some (nth l (i - 1)) := if_neg (by omega)
theorem prvG_succ {l : List Gau} {i : Nat} : prvG l (i + 1) = some (nth l i) := by rw [prvG_pos (show 0 < i + 1 from Nat.succ_pos i), Nat.add_sub_cancel]
theorem gauges_c  (w0 : World) :
    CallsV Tryz.prog 87 [] w0 (fun v w' => v = .agg #[.func (.func 128) #[] #[], .func (.func 129) #[] #[], .func (.func 130) #[] #[], .func (.func 131) #[] #[], .int .i64 200] ∧ Ext w0 w') := by
 refine f_n func87 ?_
 refine go ?_
 refine x_n fun bk2 w3 ebk2 sbk2 B4 u5 => ?_
 refine go ?_
 refine x_s fun w8 sw8 B10 u9 => ?_
 refine go ?_
 refine f_ret1 (v := .agg #[.func (.func 128) #[] #[], .func (.func 129) #[] #[], .func (.func 130) #[] #[], .func (.func 131) #[] #[], .int .i64 200]) results87 ⟨_, _, rfl, run_loadVarN (vs := [.func (.func 128) #[] #[], .func (.func 129) #[] #[], .func (.func 130) #[] #[], .func (.func 131) #[] #[], .int .i64 200]) isAgg159 sizeOf159 rfl (B10.at.sub 0 5)⟩ ?_
 exact ⟨rfl, u_d⟩

set_option maxHeartbeats 4000000 in
theorem textG_c (l : List Gau) (al : Option Addr) (bl ol cl : Nat) (w0 : World) (hl : Sl encGau 3 w0 al bl ol l) (hss : SlG w0 l) (hll : l.length ≤ 1000000000) (hT : Tab10 w0) (hpos : 0 < w0.heap.size) :
    CallsV Tryz.prog 88 [.agg #[.func (.func 128) #[] #[], .func (.func 129) #[] #[], .func (.func 130) #[] #[], .func (.func 131) #[] #[], .int .i64 200], .slice al l.length cl] w0 (fun v w' => v = .tuple #[.string (strB (textG l).1), .int .i64 (textG l).2] ∧ Ext w0 w') := by
 refine f_n func88 ?_
 refine go ?_
 refine x_b fun bk2 w3 ebk2 sbk2 B4 u5 => ?_
 refine go ?_
 refine q_p (fun g13 => ?_) fun g13 => ?_
 ·
  refine go ?_
  refine f_ret2 (v1 := .string (strB ([]))) (v2 := .int .i64 5) results88 rfl rfl ?_
  exact ⟨by unfold textG; rw [if_pos (by omega)], u_d⟩
 refine go ?_
 refine x_n fun bk11 w12 ebk11 sbk11 B13 u14 => ?_
 have hbui := BuiM.new B13
 refine go ?_
 refine x_l1 (fun i => bk11 ≤ i) [1, 2, 6, 14, 15] (fun (i : Nat) => [(16, .int .i64 (i : Int))]) (fun i w => (i ≤ l.length) ∧ (chkGa none l = chkGa (prvG l i) (l.drop i)) ∧ (BuiM bk11 bk11 ((l.take i).flatMap gauP) w) ∧ (((l.take i).flatMap gauP).length ≤ 304 * i) ∧ (∀ j, j < i → okGau (nth l j) = true)) (fun i => l.length - i) 0 ⟨(Nat.zero_le _), rfl, hbui, (Nat.zero_le _), (fun j h => absurd h (Nat.not_lt_zero _))⟩ ?_
 rintro i w19 ⟨hi, hc, hbl, hln, hko⟩ u20 zu20 K18 hK18
 have E21 := Sc.mk ((((Upd.refl (fun _ => False) w0).nx u5).nx u14).next u20 (fun i hi h => by omega))
 refine go ?_
 refine q_p (fun g17 => ?_) fun g17 => ?_
 ·
  refine go ?_
  refine g_i i (hl.keep E21.u (fun _ h => h)) (fun _ => ?_)
  refine go ?_
  refine x_n fun bk27 w28 ebk27 sbk27 B29 u30 => ?_
  refine go ?_
  refine x_s fun w32 sw32 B34 u33 => ?_
  have E35 := Sc.mk ((E21.u.nx u30).next u33 (fun i hi h => by omega))
  refine go ?_
  refine x_c func128 rfl rfl (isGauge_c (nth l i) _ ((hss _ (nth_mem (xs := l) (i := i) (by omega))).1.keep E35.u (fun _ h => h)) (hss _ (nth_mem (xs := l) (i := i) (by omega))).2.1 (hss _ (nth_mem (xs := l) (i := i) (by omega))).2.2) ?_
  rintro _ w39 ⟨rfl, u40⟩ zu40
  refine go ?_
  refine q_b (fun g21 => ?_) fun g21 => ?_
  ·
   have hx : okGau (nth l i) = false := by simpa using g21
   refine go ?_
   refine f_ret2 (v1 := .string (strB ([]))) (v2 := .int .i64 2) results88 rfl rfl ?_
   have h200 : ¬ 200 < l.length := by omega
   have he : chkGa none l = 2 := by rw [hc, drop_nth (by omega)]; unfold chkGa; rw [if_neg (by rw [hx]; decide)]
   exact ⟨by unfold textG; rw [if_neg h200, he, if_neg (by decide)], u_d⟩
  have hx : okGau (nth l i) = true := by simpa using g21
  have hpl := gauP_le hx
  refine go ?_
  refine c_drawnM follows (fun _ => False) (OTl [0, 2, 4, 6, 8, 10, 12, 14, 16, 18, 20, 23, 24, 26, 28]) (by kernel_rfl) fun w45 u46 => ?_
  have zu46 := u46.size
  have E47 := Sc.mk ((E35.u.nx u40).nx u46)
  refine go ?_
  refine y_splitp 30 rfl (fun g30 => ?_) (fun g30 => ?_)
  ·
   refine go ?_
   refine y_i (i - 1) (hl.keep E47.u (fun _ h => h)) (fun _ => ?_)
   refine go ?_
   refine x_c func129 rfl rfl (gaugeAfter_c (nth l (i - 1)) (nth l i) _ (hko (i - 1) (by omega))) ?_
   rintro _ w50 ⟨rfl, u51⟩ zu51
   have E53 := Sc.mk (E47.u.nx u51)
   refine go ?_
   refine q_p (fun g27 => ?_) fun g27 => ?_
   ·
    have hmn : ¬ aftO (prvG l i) (nth l i) := by
      rw [prvG_pos (by omega)]
      exact g27
    refine go ?_
    refine f_ret2 (v1 := .string (strB ([]))) (v2 := .int .i64 6) results88 rfl rfl ?_
    have h200 : ¬ 200 < l.length := by omega
    have he : chkGa none l = 6 := by rw [hc, drop_nth (by omega)]; unfold chkGa; rw [if_pos hx, if_neg hmn]
    exact ⟨by unfold textG; rw [if_neg h200, he, if_neg (by decide)], u_d⟩
   have hmn : aftO (prvG l i) (nth l i) := by
     rw [prvG_pos (by omega)]
     exact Decidable.not_not.1 g27
   refine go ?_
   refine x_c func130 rfl rfl (gaugeLine_c (nth l i) _ ((hss _ (nth_mem (xs := l) (i := i) (by omega))).1.keep E53.u (fun _ h => h)) (hss _ (nth_mem (xs := l) (i := i) (by omega))).2.1 (hss _ (nth_mem (xs := l) (i := i) (by omega))).2.2 hx (hT.ext E53.u) (by omega)) ?_
   rintro _ w56 ⟨rfl, u57⟩ zu57
   refine x_c func119 rfl rfl (wstr_c bk11 bk11 ((l.take i).flatMap gauP) (gauP (nth l i)) _ (hbl.ext (((((((Upd.refl (fun _ => False) _).nx u30).next u33 (fun i hi (h : i = bk27) => show False by first | omega | assumption)).nx u40).nx u46).nx u51).nx u57)) (by omega) (by omega)) ?_
   rintro v60 w61 ⟨hb9, u62⟩ zu62
   refine go ?_
   exact hK18 (i + 1) ⟨(by omega), (by rw [hc, drop_nth (by omega), chkGa_ok hx hmn, prvG_succ]), (by rw [take_nth (by omega), List.flatMap_append, show [(nth l i)].flatMap gauP = gauP (nth l i) by simp]; exact hb9), (by rw [take_nth (by omega), List.flatMap_append, show [(nth l i)].flatMap gauP = gauP (nth l i) by simp, List.length_append]; omega), (fun j hj => by
     rcases Nat.lt_or_ge j i with h | h
     · exact hko j h
     · rw [show j = i by omega]; exact hx)⟩
  refine go ?_
  refine x_c func130 rfl rfl (gaugeLine_c (nth l i) _ ((hss _ (nth_mem (xs := l) (i := i) (by omega))).1.keep E47.u (fun _ h => h)) (hss _ (nth_mem (xs := l) (i := i) (by omega))).2.1 (hss _ (nth_mem (xs := l) (i := i) (by omega))).2.2 hx (hT.ext E47.u) (by omega)) ?_
  rintro _ w66 ⟨rfl, u67⟩ zu67
  refine x_c func119 rfl rfl (wstr_c bk11 bk11 ((l.take i).flatMap gauP) (gauP (nth l i)) _ (hbl.ext ((((((Upd.refl (fun _ => False) _).nx u30).next u33 (fun i hi (h : i = bk27) => show False by first | omega | assumption)).nx u40).nx u46).nx u67)) (by omega) (by omega)) ?_
  rintro v70 w71 ⟨hb9, u72⟩ zu72
  refine go ?_
  exact hK18 (i + 1) ⟨(by omega), (by rw [hc, drop_nth (by omega), chkGa_ok hx (show aftO (prvG l i) _ by rw [prvG_zero (by omega)]; trivial), prvG_succ]), (by rw [take_nth (by omega), List.flatMap_append, show [(nth l i)].flatMap gauP = gauP (nth l i) by simp]; exact hb9), (by rw [take_nth (by omega), List.flatMap_append, show [(nth l i)].flatMap gauP = gauP (nth l i) by simp, List.length_append]; omega), (fun j hj => by
    rcases Nat.lt_or_ge j i with h | h
    · exact hko j h
    · rw [show j = i by omega]; exact hx)⟩
 refine go ?_
 refine x_c func120 rfl rfl (bstr_c bk11 bk11 ((l.take i).flatMap gauP) _ hbl (by omega)) ?_
 rintro _ w77 ⟨rfl, u78⟩ zu78
 refine go ?_
 refine f_ret2 (v1 := .string (strB ((l.take i).flatMap gauP))) (v2 := .int .i64 0) results88 rfl rfl ?_
 have h200 : ¬ 200 < l.length := by omega
 have hil : l.take i = l := List.take_of_length_le (by omega)
 have he : chkGa none l = 0 := by rw [hc, List.drop_of_length_le (by omega)]; rfl
 exact ⟨by unfold textG; rw [if_neg h200, he, if_pos rfl, hil], u_d⟩

theorem WriteGauge_c (l : List Gau) (al : Option Addr) (bl ol cl : Nat) (w0 : World) (hl : Sl encGau 3 w0 al bl ol l) (hss : SlG w0 l) (hll : l.length ≤ 1000000000) (hT : Tab10 w0) (hpos : 0 < w0.heap.size) :
    CallsV Tryz.prog 44 [.slice al l.length cl] w0 (fun v w' => v = .tuple #[.string (strB (textG l).1), .int .i64 (textG l).2] ∧ Ext w0 w') := by
 refine f_n func44 ?_
 refine go ?_
 refine x_c func87 rfl rfl (gauges_c _) ?_
 rintro _ w4 ⟨rfl, u5⟩ zu5
 have E7 := Sc.mk ((Upd.refl (fun _ => False) w0).nx u5)
 refine go ?_
 refine x_c func88 rfl rfl (textG_c l al bl ol cl _ (hl.keep E7.u (fun _ h => h)) (hss.ext E7.u) hll (hT.ext E7.u) (by omega)) ?_
 rintro _ w9 ⟨rfl, u10⟩ zu10
 refine go ?_
 refine f_ret2 (v1 := .string (strB ((textG l).1))) (v2 := .int .i64 ((textG l).2)) results44 rfl rfl ?_
 exact ⟨rfl, u_d⟩

end Go.Proofs.YtjdcpnaocjddoaaGreatDoor
namespace Go.Proofs.YtjdcpnaocjddoaaGreatDoor
open Go Go.RowKit Go.Proofs.Tryz Go.Shelf
section
variable {rd : Option Nat} {P : Program} {ops : Array Oper} {Q : Exit → Act → World → Prop} {N : Nat} {ds : List Deferred} {rest : List Oper} {L : Slots} {w : World}
variable {d : Nat} {ty : TypeId} {pos : String} {aft : Array Edge} {g : Option (Nat × Bool)}
theorem t_neN {ms : Array (String × TypeId)} {xt yt : TypeId} {x : Operand} {v : Value} {b : Bool} (ht : P.underlying xt = some (.interface ms)) (hv : (v = .nilIface ∧ b = false) ∨ (∃ t p, v = .iface t p) ∧ b = true) (hg : grd ops L g = true) (hN : Nat.blt d N = true) (hx : ev L x = some v) (h : WL rd P ops Q N ds rest ((d, .bool b) :: L) w) : WL rd P ops Q N ds (⟨some d, .binOp .neq xt x (.const .nilIface) yt, ty, pos, aft, g⟩ :: rest) L w :=
  WL.value hg rfl hN (fun a ha => by
    have e1 := ha.ev hx
    have e2 : a.eval (.const .nilIface) = .nilIface := rfl
    have h0 : ∀ k, (Op.equalIn (k + 1) xt .nilIface .nilIface).run P w = .ok true w := fun k => by simp [Op.equalIn, run_underlying ht]
    have h1 : ∀ k t p, (Op.equalIn (k + 1) xt (.iface t p) .nilIface).run P w = .ok false w := fun k t p => by simp [Op.equalIn, run_underlying ht]
    have e3 : (do eqGuard .neq xt x (.const .nilIface) v .nilIface; binOp .neq xt v .nilIface : Sem Value).run P w = .ok (.bool b) w := by
      rcases hv with ⟨rfl, rfl⟩ | ⟨⟨t, p, rfl⟩, rfl⟩
      · simp only [eqGuard, binOp]
        simp [Op.equal, Op.maxDepth, h0 9999]
      · simp only [eqGuard, binOp]
        simp [Op.equal, Op.maxDepth, h1 9999]
    simp only [execOp, e1, e2]
    rw [Sem.run_bind, e3]; rfl) h
end
theorem wrap_lv {v d : Int} (hv : 0 ≤ v ∧ v ≤ 10000) (hd : -9223372036854775808 ≤ d ∧ d ≤ 9223372036854775807) : ((0 ≤ wrap64 (v + d) ∧ wrap64 (v + d) ≤ 10000) ↔ (0 ≤ v + d ∧ v + d ≤ 10000)) ∧ ((0 ≤ v + d ∧ v + d ≤ 10000) → wrap64 (v + d) = v + d) := by
  unfold wrap64; omega
set_option maxRecDepth 20000 in
theorem atoi_c (s : List UInt8) (w0 : World) (hl : s.length ≤ 1000000000) (hE : ErrV w0) : CallsV Tryz.prog 132 [.string (strB s)] w0 fun v w' => (∃ d, Lib.atoiAll s = .ok d ∧ v = .tuple #[.int .i64 d, .nilIface] ∧ Ext w0 w') ∨ (∃ n te pe, (∀ d, Lib.atoiAll s ≠ .ok d) ∧ v = .tuple #[.int .i64 n, .iface te pe] ∧ Ext w0 w') := by
  obtain ⟨ev0, ev1, h0, e0, h1, e1⟩ := hE
  have hz : (strB s).size ≤ 281474976710656 := by rw [strB_size]; omega
  cases h : Lib.atoiAll s
  · rename_i v
    refine Calls.mono (Any.strconv_Atoi_ok layAtoi (strB s) (by omega) v (by rw [strB_data]; exact h) w0) ?_
    rintro e w' ⟨rfl, hw⟩
    refine ⟨_, rfl, .inl ⟨v, rfl, rfl, ?_⟩⟩
    rcases hw with rfl | ⟨t, rfl⟩
    · exact Upd.refl _ _
    · exact Below.ext (Lib.bytesWorld_below _ _ _)
  · refine Calls.mono (Any.strconv_Atoi_syntax layAtoi (strB s) hz (by rw [strB_data]; exact h) ev0 w0 h0 e0) ?_
    rintro e w' ⟨N, rfl, -, -, hb⟩
    exact ⟨_, rfl, .inr ⟨_, _, _, (fun d h9 => by cases h9), rfl, Below.ext hb⟩⟩
  · refine Calls.mono (Any.strconv_Atoi_range layAtoi (strB s) hz (by rw [strB_data]; exact h) ev1 w0 h1 e1) ?_
    rintro e w' ⟨N, rfl, -, -, hb⟩
    exact ⟨_, rfl, .inr ⟨_, _, _, (fun d h9 => by cases h9), rfl, Below.ext hb⟩⟩
theorem own132 : Own Tryz.prog 132 := ⟨Tryz.f132, func132, by kernel_rfl, by kernel_rfl⟩

set_option maxRecDepth 20000 in
set_option maxHeartbeats 4000000 in
theorem gread_c (ws : List (List UInt8)) (aw : Option Addr) (bw ow cw : Nat) (w0 : World) (hs : Sl encStr 1 w0 aw bw ow ws) (hwl : ws.length ≤ 1000000) (hwm : ∀ x ∈ ws, x.length ≤ 900000) (hcw : ws.length ≤ cw) (hE : ErrV w0) (hpos : 0 < w0.heap.size) :
    CallsV Tryz.prog 131 [.slice aw ws.length cw] w0 (fun v w' => (∃ y : Gau, v = .agg (encGau y).toArray ∧ y.bare = parGW ws ∧ y.ob = 0 ∧ y.s.length ≤ 17592186044416 ∧ Acc encI 1 3 w0.heap.size w' y.ao y.g y.cp y.s) ∧ Ext w0 w') := by
 refine f_n func131 ?_
 refine go ?_
 refine x_n fun bk2 w3 ebk2 sbk2 B4 u5 => ?_
 iterate 3 refine st1 ?_
 refine x_k1 (fun _ => False) [0, 2] (fun (z9 : Bool) => [(15, .bool z9)]) (fun z9 w => (z9 = decide (ws.length < 3 ∨ 26 < ws.length))) (fun K12 hK12 => ?_) ?_
 ·
  refine go ?_
  refine t_splitp 11 rfl (fun g11 => ?_) (fun g11 => ?_)
  ·
   refine go ?_
   exact hK12 true (by first | exact (decide_eq_false (by omega)).symm | exact (decide_eq_true (by omega)).symm | exact decide_eq_decide.2 (by omega))
  refine go ?_
  exact hK12 (decide (26 < (ws.length : Int))) (by first | exact (decide_eq_false (by omega)).symm | exact (decide_eq_true (by omega)).symm | exact decide_eq_decide.2 (by omega))
 rintro z9 w13 hz9 u14 zu14
 refine q_b (fun g15 => ?_) fun g15 => ?_
 ·
  have hzb : (ws.length < 3 ∨ 26 < ws.length) := by rw [hz9] at g15; exact of_decide_eq_true g15
  refine go ?_
  refine x_s fun w17 sw17 B19 u18 => ?_
  refine go ?_
  refine f_ret1 (v := .agg #[.int .i64 0, .int .i64 0, .slice none 0 0]) results131 ⟨_, _, rfl, run_loadVarN (vs := [.int .i64 0, .int .i64 0, .slice none 0 0]) isAgg80 sizeOf80 rfl (B19.at.sub 0 3)⟩ ?_
  exact ⟨⟨gau0, rfl, by unfold parGW; rw [if_pos hzb]; rfl, rfl, by decide, Acc.nil _ _ _ _ _ hpos (by omega)⟩, u_d⟩
 have hzb : ¬ (ws.length < 3 ∨ 26 < ws.length) := by rw [hz9] at g15; exact of_decide_eq_false g15
 have hbw := hs.lt (show 0 < ws.length by omega)
 have hw0 := hwm _ (nth_mem (xs := ws) (i := 0) (by omega))
 have hw1 := hwm _ (nth_mem (xs := ws) (i := 1) (by omega))
 refine go ?_
 refine c_drawnM follows (fun i => i = bk2) (OTl [0, 2, 4, 8, 10, 12, 7, 16, 15, 19, 20, 23]) (by kernel_rfl) fun w22 u23 => ?_
 have zu23 := u23.size
 have E24 := Sc.mk ((((Upd.refl (fun _ => False) w0).nx u5).nx u14).nx u23)
 refine go ?_
 refine y_i 0 (hs.keep E24.u (fun _ h => h)) (fun _ => ?_)
 refine go ?_
 refine y_i 1 (hs.keep E24.u (fun _ h => h)) (fun _ => ?_)
 refine go ?_
 refine x_c func117 rfl rfl (numb_c (nth ws 0) _ (by omega) (hE.ext E24.u)) ?_
 rintro _ w28 ⟨rfl, u29⟩ zu29
 have E31 := Sc.mk (E24.u.nx u29)
 refine go ?_
 refine x_c func117 rfl rfl (numb_c (nth ws 1) _ (by omega) (hE.ext E31.u)) ?_
 rintro _ w33 ⟨rfl, u34⟩ zu34
 refine go ?_
 refine x_s fun w37 sw37 B39 u38 => ?_
 refine go ?_
 refine x_s fun w41 sw41 B43 u42 => ?_
 refine go ?_
 refine t_sliceFrom 2 underlying105 sizeOf9 rfl rfl rfl rfl rfl (by omega) (by omega) ?_
 refine go ?_
 refine x_l4 (fun i => i = bk2 ∨ w41.heap.size ≤ i) [2, 28, 29] (fun (i : Nat) (v : Int) (acc : List Int) (q : (Option Addr × Nat × Nat)) => [(3, .int .i64 v), (30, .int .i64 (i : Int))]) (fun i v acc q w => Blk w bk2 80 [.int .i64 (numP (nth ws 0)), .int .i64 (numP (nth ws 1)), .slice q.1 acc.length q.2.2] ∧ (i ≤ ws.length - 2) ∧ (lvA [] 0 (ws.drop 2) = lvA acc v ((ws.drop 2).drop i)) ∧ (0 ≤ v ∧ v ≤ 10000) ∧ (Acc encI 1 3 w0.heap.size w q.1 q.2.1 q.2.2 acc) ∧ (q.2.1 = 0 ∨ w41.heap.size ≤ q.2.1) ∧ (acc.length = i)) (fun i v acc q => ws.length - 2 - i) 0 0 ([]) (none, 0, 0) ⟨B43, (Nat.zero_le _), rfl, (by decide), (Acc.nil _ _ _ _ _ hpos (by omega)), (.inl rfl), rfl⟩ ?_
 rintro i v acc q w49 ⟨I51, hi, hlv, hv, hA, hqW, hal⟩ u50 zu50 K48 hK48
 have E52 := Sc.mk ((((E31.u.nx u34).next u38 (fun i hi h => by omega)).next u42 (fun i hi h => by omega)).next u50 (fun i hi h => by omega))
 have lt_q_2_1 := hA.lt
 have hdl : (ws.drop 2).length = ws.length - 2 := List.length_drop
 refine go ?_
 refine q_p (fun g31 => ?_) fun g31 => ?_
 ·
  have hwi := hwm (nth (ws.drop 2) i) (List.mem_of_mem_drop (nth_mem (xs := ws.drop 2) (i := i) (by omega)))
  refine go ?_
  refine g_i i (by have h9 := ((hs.keep E52.u (fun _ h => h))).sub cw 2 (ws.length - 2) hcw; rw [List.take_of_length_le (by rw [List.length_drop]; exact Nat.le_refl _)] at h9; exact h9) (fun _ => ?_)
  refine go ?_
  refine t_call own132 rfl rfl rfl rfl (atoi_c (nth (ws.drop 2) i) _ (by omega) (hE.ext E52.u)) (fun v59 w60 r62 => ?_)
  rcases r62 with ⟨d9, hd9, rfl, u61⟩ | ⟨n9, te9, pe9, hd9, rfl, u61⟩
  ·
   have zu61 := u61.size
   obtain ⟨hwr, hwe⟩ := wrap_lv (v := v) (d := d9) hv (Lib.atoiAll_bounds hd9)
   refine go ?_
   refine t_ariw (r := v + d9) rfl rfl rfl rfl rfl ?_
   refine go ?_
   refine t_neN underlying192 (.inl ⟨rfl, rfl⟩) rfl rfl rfl ?_
   refine go ?_
   refine x_l fun bk67 w68 ebk67 sbk67 B69 u70 => ?_
   refine x_c func62 rfl rfl (within1_v 0 10000 (wrap64 (v + d9)) bk67 _ _ B69) ?_
   rintro _ w73 ⟨rfl, u74⟩ zu74
   refine go ?_
   refine q_p (fun g49 => ?_) fun g49 => ?_
   ·
    have hout : ¬ (0 ≤ v + d9 ∧ v + d9 ≤ 10000) := fun h => absurd (hwr.2 h) g49
    refine go ?_
    refine x_s fun w78 sw78 B80 u79 => ?_
    refine go ?_
    refine f_ret1 (v := .agg #[.int .i64 0, .int .i64 0, .slice none 0 0]) results131 ⟨_, _, rfl, run_loadVarN (vs := [.int .i64 0, .int .i64 0, .slice none 0 0]) isAgg80 sizeOf80 rfl (B80.at.sub 0 3)⟩ ?_
    exact ⟨⟨gau0, rfl, by rw [parGW_none hzb (by rw [hlv, drop_nth (by omega)]; exact lvA_out hd9 hout)]; rfl, rfl, by decide, Acc.nil _ _ _ _ _ hpos (by omega)⟩, u_d⟩
   have hin : 0 ≤ v + d9 ∧ v + d9 ≤ 10000 := hwr.1 (Decidable.not_not.1 g49)
   refine c_same 3 (v := .int .i64 (v + d9)) rfl (congrArg (Value.int .i64) (hwe hin)) ?_
   refine go ?_
   refine x_l fun bk82 w83 ebk82 sbk82 B84 u85 => ?_
   have D87 := ((((hA.keep u61 (fun _ h => h)).keep u70 (fun _ h => h)).keep u74 (fun _ h => h)).keep u85 (fun _ h => h))
   refine t_append (z := .int .i64 0) (bytes := 8) (k := 1) (base := w0.heap.size) (v + d9) underlying59 (by kernel_rfl) rfl (by decide) (fun _ => rfl) (by intro x; simp [encI, Value.oneCell']) rfl rfl rfl rfl D87 B84 (by omega) (by omega) (by decide) (fun ao88 gb89 cp90 w91 A92 u93 gegb89 lngb89 => ?_)
   have zu93 := u93.size
   have lt_gb89 := A92.lt
   refine go ?_
   refine x_s fun w95 sw95 B97 u96 => ?_
   refine go ?_
   have D99 := (A92.keep u96 (fun hb => show ¬ (gb89 = bk2) by first | omega | assumption))
   exact hK48 (i + 1) (v + d9) (acc ++ [v + d9]) (ao88, gb89, cp90) ⟨B97, (by omega), (by rw [hlv, drop_nth (by omega), lvA_ok hd9 hin]), hin, D99, (show gb89 = 0 ∨ w41.heap.size ≤ gb89 by omega), (by rw [List.length_append, hal]; rfl)⟩
  have zu61 := u61.size
  refine go ?_
  refine t_ariw (r := v + n9) rfl rfl rfl rfl rfl ?_
  refine go ?_
  refine t_neN underlying192 (.inr ⟨⟨_, _, rfl⟩, rfl⟩) rfl rfl rfl ?_
  refine go ?_
  refine x_s fun w105 sw105 B107 u106 => ?_
  refine go ?_
  refine f_ret1 (v := .agg #[.int .i64 0, .int .i64 0, .slice none 0 0]) results131 ⟨_, _, rfl, run_loadVarN (vs := [.int .i64 0, .int .i64 0, .slice none 0 0]) isAgg80 sizeOf80 rfl (B107.at.sub 0 3)⟩ ?_
  exact ⟨⟨gau0, rfl, by rw [parGW_none hzb (by rw [hlv, drop_nth (by omega)]; exact lvA_bad hd9)]; rfl, rfl, by decide, Acc.nil _ _ _ _ _ hpos (by omega)⟩, u_d⟩
 refine go ?_
 refine x_s fun w110 sw110 B112 u111 => ?_
 refine go ?_
 refine f_ret1 (v := .agg #[.int .i64 (numP (nth ws 0)), .int .i64 (numP (nth ws 1)), .slice q.1 acc.length q.2.2]) results131 ⟨_, _, rfl, run_loadVarN (vs := [.int .i64 (numP (nth ws 0)), .int .i64 (numP (nth ws 1)), .slice q.1 acc.length q.2.2]) isAgg80 sizeOf80 rfl (B112.at.sub 0 3)⟩ ?_
 have D114 := (hA.keep u111 (fun hb => show ¬ (q.2.1 = bk2) by first | omega | assumption))
 exact ⟨⟨⟨numP (nth ws 0), numP (nth ws 1), acc, q.1, q.2.1, 0, q.2.2⟩, rfl, by rw [parGW_some hzb (by rw [hlv, List.drop_of_length_le (by omega)]; rfl)]; rfl, rfl, show acc.length ≤ 17592186044416 by omega, D114⟩, u_d⟩

end Go.Proofs.YtjdcpnaocjddoaaGreatDoor
namespace Go.Proofs.YtjdcpnaocjddoaaGreatDoor
open Go Go.RowKit Go.Proofs.Tryz
theorem lineG_c {p : List UInt8 → Gau} {s : List UInt8} (h : chkdP s ≠ 0) : (lineG p s).2 = chkdP s := by unfold lineG; rw [if_pos h]
theorem lineG_4 {p : List UInt8 → Gau} {s : List UInt8} (h : chkdP s = 0) (h2 : ¬ (okGau (p s) = true ∧ gauP (p s) = s ++ [10])) : (lineG p s).2 = 4 := by unfold lineG; rw [if_neg (fun e => e h), if_neg h2]
theorem lineG_0 {p : List UInt8 → Gau} {s : List UInt8} (h : chkdP s = 0) (h2 : okGau (p s) = true ∧ gauP (p s) = s ++ [10]) : lineG p s = (p s, 0) := by unfold lineG; rw [if_neg (fun e => e h), if_pos h2]
set_option maxRecDepth 20000 in
set_option maxHeartbeats 4000000 in
theorem gline_c (s : List UInt8) (w0 : World) (hsl : s.length ≤ 200000) (hE : ErrV w0) (hT : Tab10 w0) (hpos : 0 < w0.heap.size) :
    CallsV Tryz.prog 133 [.agg #[.func (.func 128) #[] #[], .func (.func 129) #[] #[], .func (.func 130) #[] #[], .func (.func 131) #[] #[], .int .i64 200], .string (strB s)] w0 (fun v w' => (∃ y : Gau, v = .tuple #[.agg (encGau y).toArray, .int .i64 (lineG parGL s).2] ∧ ((lineG parGL s).2 = 0 → y.bare = (lineG parGL s).1) ∧ y.ob = 0 ∧ y.s.length ≤ 17592186044416 ∧ Acc encI 1 3 w0.heap.size w' y.ao y.g y.cp y.s) ∧ Ext w0 w') := by
 refine f_n func133 ?_
 refine go ?_
 refine x_b fun bk2 w3 ebk2 sbk2 B4 u5 => ?_
 refine x_n fun bk7 w8 ebk7 sbk7 B9 u10 => ?_
 refine go ?_
 refine x_c func157 rfl rfl (split_c s 32 _ (by omega)) ?_
 rintro _ w14 ⟨⟨aS, gS, cS, rfl, haS⟩, u15⟩ zu15
 have lt_gS := haS.lt
 have hple := pcs_len 32 s
 have hpl1 : 1 ≤ (pcs 32 s).length := List.length_pos_iff.2 (pcs_ne 32 s)
 have hcpS := haS.cap_le
 have hdl : (pcs 32 s).dropLast.length = (pcs 32 s).length - 1 := List.length_dropLast
 iterate 8 refine st1 ?_
 refine t_same 12 (v := .int .i64 (((pcs 32 s).length - 1 : Nat) : Int)) rfl (congrArg (Value.int .i64) (by omega)) ?_
 iterate 4 refine st1 ?_
 refine x_k1 (fun _ => False) [1, 2, 4, 6, 7] (fun (z9 : Bool) => [(28, .bool z9)]) (fun z9 w => (z9 = decide (¬ (3 ≤ s.length ∧ s.length ≤ 600) ∨ nth s (s.length - 3) ≠ 32))) (fun K24 hK24 => ?_) ?_
 ·
  refine go ?_
  refine t_lenS underlying9 rfl rfl rfl rfl ?_
  refine go ?_
  refine t_splitp 16 rfl (fun g16 => ?_) (fun g16 => ?_)
  ·
   refine go ?_
   exact hK24 true (by first | exact (decide_eq_true (.inl (by omega))).symm | exact decide_eq_decide.2 ⟨fun h => .inr (fun e => h (by rw [e]; rfl)), fun h e => h.elim (fun h => h (by omega)) (fun h => h (UInt8.toNat_inj.1 (show (nth s (s.length - 3)).toNat = 32 by omega)))⟩)
  refine go ?_
  refine t_lenS underlying9 rfl rfl rfl rfl ?_
  refine go ?_
  refine t_splitp 21 rfl (fun g21 => ?_) (fun g21 => ?_)
  ·
   refine go ?_
   exact hK24 true (by first | exact (decide_eq_true (.inl (by omega))).symm | exact decide_eq_decide.2 ⟨fun h => .inr (fun e => h (by rw [e]; rfl)), fun h e => h.elim (fun h => h (by omega)) (fun h => h (UInt8.toNat_inj.1 (show (nth s (s.length - 3)).toNat = 32 by omega)))⟩)
  refine go ?_
  refine t_lenS underlying9 rfl rfl rfl rfl ?_
  refine go ?_
  refine t_idxS (s.length - 3) underlying9 rfl rfl rfl rfl (by omega) (by omega) ?_
  refine go ?_
  exact hK24 (decide (((nth s (s.length - 3)).toNat : Int) ≠ 32)) (by first | exact (decide_eq_true (.inl (by omega))).symm | exact decide_eq_decide.2 ⟨fun h => .inr (fun e => h (by rw [e]; rfl)), fun h e => h.elim (fun h => h (by omega)) (fun h => h (UInt8.toNat_inj.1 (show (nth s (s.length - 3)).toNat = 32 by omega)))⟩)
 rintro z9 w25 hz9 u26 zu26
 refine q_b (fun g28 => ?_) fun g28 => ?_
 ·
  have hzb : (¬ (3 ≤ s.length ∧ s.length ≤ 600) ∨ nth s (s.length - 3) ≠ 32) := by rw [hz9] at g28; exact of_decide_eq_true g28
  refine go ?_
  refine x_s fun w29 sw29 B31 u30 => ?_
  refine go ?_
  refine f_ret2 (v1 := .agg #[.int .i64 0, .int .i64 0, .slice none 0 0]) (v2 := .int .i64 4) results133 ⟨_, _, rfl, run_loadVarN (vs := [.int .i64 0, .int .i64 0, .slice none 0 0]) isAgg80 sizeOf80 rfl (B31.at.sub 0 3)⟩ rfl ?_
  have hc9 : chkdP s = 4 := chkd_4 hzb
  have he : (lineG parGL s).2 = 4 := by rw [lineG_c (by rw [hc9]; decide), hc9]
  exact ⟨⟨gau0, by rw [he]; rfl, fun h => (by rw [he] at h; cases h), rfl, by decide, Acc.nil _ _ _ _ _ hpos (by omega)⟩, u_d⟩
 have hzb : ¬ (¬ (3 ≤ s.length ∧ s.length ≤ 600) ∨ nth s (s.length - 3) ≠ 32) := by rw [hz9] at g28; exact of_decide_eq_false g28
 obtain ⟨⟨h3, h6⟩, h32⟩ := chkd_h hzb
 refine go ?_
 have D35 := (haS.keep u26 (fun _ h => h))
 refine t_sliceTo (((pcs 32 s).length - 1)) underlying105 sizeOf9 rfl rfl rfl rfl rfl (by omega) (t_same 32 (v := .slice (subAddr aS cS 0 1) (((pcs 32 s).dropLast).length) cS) rfl (by rw [List.length_dropLast]) ?_)
 refine x_c func146 rfl rfl (sealed_c ((pcs 32 s).dropLast) (subAddr aS cS 0 1) gS 0 cS _ (by rw [List.dropLast_eq_take]; exact Sl.upTo (D35.sl (fun _ => rfl)) cS ((pcs 32 s).length - 1) (by omega)) (by omega) (by omega) (by have h9 := join_drop_len s; omega)) ?_
 rintro _ w37 ⟨rfl, u38⟩ zu38
 refine go ?_
 refine t_bo (Bo.addS (by simp only [List.length_cons, List.length_nil]; omega)) rfl rfl rfl rfl (t_bo (Bo.neS (sealedP ((pcs 32 s).dropLast)) (s ++ [10])) rfl rfl rfl rfl ?_)
 refine go ?_
 refine q_p (fun g36 => ?_) fun g36 => ?_
 ·
  refine go ?_
  refine x_s fun w42 sw42 B44 u43 => ?_
  refine go ?_
  refine f_ret2 (v1 := .agg #[.int .i64 0, .int .i64 0, .slice none 0 0]) (v2 := .int .i64 121) results133 ⟨_, _, rfl, run_loadVarN (vs := [.int .i64 0, .int .i64 0, .slice none 0 0]) isAgg80 sizeOf80 rfl (B44.at.sub 0 3)⟩ rfl ?_
  have hc9 : chkdP s = 121 := chkd_121 hzb g36
  have he : (lineG parGL s).2 = 121 := by rw [lineG_c (by rw [hc9]; decide), hc9]
  exact ⟨⟨gau0, by rw [he]; rfl, fun h => (by rw [he] at h; cases h), rfl, by decide, Acc.nil _ _ _ _ _ hpos (by omega)⟩, u_d⟩
 have hck := chkd_0 hzb (Decidable.not_not.1 g36)
 refine go ?_
 refine c_drawnM follows (fun i => i = bk7) (OTl [0, 2, 4, 6, 8, 11, 13]) (by kernel_rfl) fun w48 u49 => ?_
 have zu49 := u49.size
 have E50 := Sc.mk (((((((Upd.refl (fun _ => False) w0).nx u5).nx u10).nx u15).nx u26).nx u38).nx u49)
 refine go ?_
 have D51 := ((D35.keep u38 (fun _ h => h)).keep u49 (fun _ h => h))
 refine y_sliceTo (((pcs 32 s).length - 1)) underlying105 sizeOf9 rfl rfl rfl rfl rfl (by omega) (y_same 42 (v := .slice (subAddr aS cS 0 1) (((pcs 32 s).dropLast).length) cS) rfl (by rw [List.length_dropLast]) ?_)
 refine go ?_
 refine x_c func131 rfl rfl (gread_c ((pcs 32 s).dropLast) (subAddr aS cS 0 1) gS 0 cS _ (by rw [List.dropLast_eq_take]; exact Sl.upTo (D51.sl (fun _ => rfl)) cS ((pcs 32 s).length - 1) (by omega)) (by omega) (fun x hx => by have h9 := pcs_items 32 s x (List.dropLast_subset _ hx); omega) (by omega) (hE.ext E50.u) (by omega)) ?_
 rintro _ w53 ⟨⟨y, rfl, hyb, hob, hyl, haY⟩, u54⟩ zu54
 have lt_y_g := haY.lt
 have hycp := haY.cap_le
 have hpy : y.bare = parGL s := hyb
 refine go ?_
 refine x_s fun w57 sw57 B59 u58 => ?_
 iterate 3 refine st1 ?_
 refine x_k1 (fun _ => False) [4] (fun (z8 : Bool) => [(57, .bool z8)]) (fun z8 w => (z8 = decide (¬ (okGau y = true ∧ gauP y = s ++ [10])))) (fun K65 hK65 => ?_) ?_
 ·
  refine go ?_
  have D68 := (haY.keep u58 (fun hb => show ¬ (y.g = bk7) by first | omega | assumption))
  refine x_c func128 rfl rfl (isGauge_c y _ (by rw [hob]; exact (D68.sl (fun _ => rfl))) hycp hyl) ?_
  rintro _ w70 ⟨rfl, u71⟩ zu71
  refine go ?_
  refine t_split 49 rfl (fun g49 => ?_) (fun g49 => ?_)
  ·
   have hx : ¬ okGau y = true := by simpa using g49
   refine go ?_
   exact hK65 true (by first | exact (decide_eq_true (show ¬ (okGau y = true ∧ gauP y = s ++ [10]) from fun h => hx h.1)).symm | exact decide_eq_decide.2 ⟨fun h e => h e.2, fun h e => h ⟨hx, e⟩⟩)
  have hx : okGau y = true := by simpa using g49
  refine go ?_
  have D74 := (D68.keep u71 (fun _ h => h))
  refine x_c func130 rfl rfl (gaugeLine_c y _ (by rw [hob]; exact (D74.sl (fun _ => rfl))) hycp hyl hx (hT.ext (((E50.u.nx u54).next u58 (fun i hi h => by omega)).nx u71)) (by omega)) ?_
  rintro _ w76 ⟨rfl, u77⟩ zu77
  refine go ?_
  refine t_bo (Bo.addS (by simp only [List.length_cons, List.length_nil]; omega)) rfl rfl rfl rfl (t_bo (Bo.neS (gauP y) (s ++ [10])) rfl rfl rfl rfl ?_)
  refine go ?_
  exact hK65 (decide ((gauP y) ≠ (s ++ [10]))) (by first | exact (decide_eq_true (show ¬ (okGau y = true ∧ gauP y = s ++ [10]) from fun h => hx h.1)).symm | exact decide_eq_decide.2 ⟨fun h e => h e.2, fun h e => h ⟨hx, e⟩⟩)
 rintro z8 w66 hz8 u67 zu67
 refine q_b (fun g57 => ?_) fun g57 => ?_
 ·
  have hzc : (¬ (okGau y = true ∧ gauP y = s ++ [10])) := by rw [hz8] at g57; exact of_decide_eq_true g57
  refine go ?_
  refine x_s fun w82 sw82 B84 u83 => ?_
  refine go ?_
  refine f_ret2 (v1 := .agg #[.int .i64 y.st, .int .i64 y.hr, .slice y.ao y.s.length y.cp]) (v2 := .int .i64 4) results133 ⟨_, _, rfl, run_loadVarN (vs := [.int .i64 y.st, .int .i64 y.hr, .slice y.ao y.s.length y.cp]) isAgg80 sizeOf80 rfl (B84.at.sub 0 3)⟩ rfl ?_
  have D86 := (((haY.keep u58 (fun hb => show ¬ (y.g = bk7) by first | omega | assumption)).keep u67 (fun _ h => h)).keep u83 (fun hb => show ¬ (y.g = bk7) by first | omega | assumption))
  obtain ⟨g9, hac9⟩ := Acc.lower (base' := w0.heap.size) D86 (by omega) hpos
  have he : (lineG parGL s).2 = 4 := lineG_4 hck (by rw [← hpy]; exact hzc)
  exact ⟨⟨⟨y.st, y.hr, y.s, y.ao, g9, 0, y.cp⟩, by rw [he]; rfl, fun h => (by rw [he] at h; cases h), rfl, hyl, hac9⟩, u_d⟩
 have hzc : ¬ (¬ (okGau y = true ∧ gauP y = s ++ [10])) := by rw [hz8] at g57; exact of_decide_eq_false g57
 refine go ?_
 refine x_s fun w88 sw88 B90 u89 => ?_
 refine go ?_
 refine f_ret2 (v1 := .agg #[.int .i64 y.st, .int .i64 y.hr, .slice y.ao y.s.length y.cp]) (v2 := .int .i64 0) results133 ⟨_, _, rfl, run_loadVarN (vs := [.int .i64 y.st, .int .i64 y.hr, .slice y.ao y.s.length y.cp]) isAgg80 sizeOf80 rfl (B90.at.sub 0 3)⟩ rfl ?_
 have D92 := (((haY.keep u58 (fun hb => show ¬ (y.g = bk7) by first | omega | assumption)).keep u67 (fun _ h => h)).keep u89 (fun hb => show ¬ (y.g = bk7) by first | omega | assumption))
 obtain ⟨g9, hac9⟩ := Acc.lower (base' := w0.heap.size) D92 (by omega) hpos
 have he : lineG parGL s = (parGL s, 0) := lineG_0 hck (by rw [← hpy]; exact Decidable.not_not.1 hzc)
 exact ⟨⟨⟨y.st, y.hr, y.s, y.ao, g9, 0, y.cp⟩, by rw [he]; rfl, fun h => (by rw [he]; exact hpy), rfl, hyl, hac9⟩, u_d⟩

end Go.Proofs.YtjdcpnaocjddoaaGreatDoor
