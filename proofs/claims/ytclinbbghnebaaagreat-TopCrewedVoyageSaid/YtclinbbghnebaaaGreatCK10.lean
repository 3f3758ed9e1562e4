/-
  Part 10 of the proof: contracts and plain laws. Conditions: none.
-/
import Derived.Test.YtclinbbghnebaaaGreatCK9
namespace Go.Proofs.YtclinbbghnebaaaGreat
open Go Go.RowKit Go.Proofs.Tryz
set_option maxRecDepth 10000

theorem chk_okK {r : Rul} {l : List Dty} (h : chkRD r l = 0) : okRul r = true ∧ l.length ≤ 20 ∧ ∀ d ∈ l, okDty d = true := by
  unfold chkRD chkR chkD at h
  by_cases h1 : okRul r = true
  · rw [if_pos h1, if_neg (by decide)] at h
    by_cases h2 : 20 < l.length
    · rw [if_pos h2] at h; cases h
    · rw [if_neg h2] at h
      by_cases h3 : (l.any fun d => !okDty d) = true
      · rw [if_pos h3] at h; cases h
      · refine ⟨h1, by omega, fun d hd => ?_⟩
        cases hq : okDty d with
        | true => rfl
        | false => exact absurd (List.any_eq_true.2 ⟨d, hd, by simp [hq]⟩) h3
  · rw [if_neg h1, if_pos (by decide)] at h; cases h
theorem lngs_ok {l : List Dty} (h : ∀ d ∈ l, okDty d = true) : ∀ x ∈ srtS (l.map lngS), OkSp x := srt_ok fun x hx => by
  obtain ⟨d, hd, rfl⟩ := List.mem_map.1 hx; exact lng_ok (h d hd)
theorem shts_ok {l : List Dty} (h : ∀ d ∈ l, okDty d = true) : ∀ x ∈ srtS (l.map shtS), OkSp x := srt_ok fun x hx => by
  obtain ⟨d, hd, rfl⟩ := List.mem_map.1 hx; exact sht_ok (h d hd)
/-- The rule that the longest times of the first duties break. -/
def brkK (r : Rul) (l : List Dty) (k : Nat) : Int := brokP r (srtS ((l.take k).map lngS))
/-- What Rested returns, where all is valid. -/
def RestR (r : Rul) (l : List Dty) (at_ rule : Int) : Prop :=
  (at_ = -1 ∧ rule = 0 ∧ ∀ k, k < l.length → brkK r l (k + 1) = 0) ∨ ∃ k : Nat, k < l.length ∧ at_ = k ∧ rule = brkK r l (k + 1) ∧ rule ≠ 0 ∧ ∀ j, j < k → brkK r l (j + 1) = 0
def RestA (r : Rul) (l : List Dty) (at_ rule : Int) (pos : Bool) (e : Int) : Prop :=
  (chkRD r l ≠ 0 ∧ e = chkRD r l ∧ at_ = 0 ∧ rule = 0 ∧ pos = false) ∨ (chkRD r l = 0 ∧ e = 0 ∧ RestR r l at_ rule ∧ pos = decide (brokP r (srtS (l.map shtS)) = 0))
/-- No earlier than all times have ended. -/
def mxF (l : List Sp) (f : Int) (k : Nat) : Int := (l.take k).foldl (fun e s => max e s.e) f
theorem mxF_succ {l : List Sp} {f : Int} {k : Nat} (hk : k < l.length) : mxF l f (k + 1) = max (mxF l f k) (nth l k).e := by unfold mxF; rw [take_nth hk, List.foldl_append]; rfl
theorem mxF_rng {l : List Sp} {f : Int} (hf : 0 ≤ f ∧ f ≤ 20160) (hl : ∀ x ∈ l, OkSp x) : ∀ k, k ≤ l.length → 0 ≤ mxF l f k ∧ mxF l f k ≤ 20160
  | 0, _ => hf
  | k + 1, hk => by
    have h1 := mxF_rng hf hl k (by omega)
    have h2 := hl _ (nth_mem (show k < l.length by omega))
    unfold OkSp at h2
    rw [mxF_succ (by omega)]; omega
def NextR (r : Rul) (R : List Sp) (f len t e : Int) : Prop :=
  (e = 0 ∧ f ≤ t ∧ t + len ≤ 20160 ∧ brokP r (insS ⟨t, t + len⟩ R) = 0 ∧ ∀ u, f ≤ u → u < t → brokP r (insS ⟨u, u + len⟩ R) ≠ 0) ∨
  (e = 7 ∧ t = 0 ∧ ∀ u, f ≤ u → u + len ≤ 20160 → brokP r (insS ⟨u, u + len⟩ R) ≠ 0)
def NextA (r : Rul) (l : List Dty) (f len t e : Int) : Prop :=
  (chkRD r l ≠ 0 ∧ e = chkRD r l ∧ t = 0) ∨ (chkRD r l = 0 ∧ ¬ ((0 ≤ f ∧ f ≤ 20160) ∧ (1 ≤ len ∧ len ≤ 20160)) ∧ e = 3 ∧ t = 0) ∨
  (chkRD r l = 0 ∧ ((0 ≤ f ∧ f ≤ 20160) ∧ (1 ≤ len ∧ len ≤ 20160)) ∧ ((brokP r (srtS (l.map lngS)) ≠ 0 ∧ e = 9 ∧ t = 0) ∨ (brokP r (srtS (l.map lngS)) = 0 ∧ NextR r (srtS (l.map lngS)) (mxF (srtS (l.map lngS)) f (srtS (l.map lngS)).length) len t e)))
/-- What AppendSeq's variable holds when these shifts have come. -/
def AppC (b2 : Nat) (wR : World) (pre : List Shf) (W : World) : Prop :=
  Upd (fun i => i = b2 ∨ wR.heap.size + 1 ≤ i) wR W ∧ pre.length ≤ 100000 ∧ ∃ ao g cp, Blk W b2 97 [.slice ao (List.length pre) cp] ∧ Acc encShf 3 101 (wR.heap.size + 2) W ao g cp pre
theorem AppC.ext {b2 : Nat} {wR : World} (pre : List Shf) (W W' : World) (h : AppC b2 wR pre W) (u : Ext W W') : AppC b2 wR pre W' := by
  obtain ⟨h1, hn, ao, g, cp, h2, h3⟩ := h
  exact ⟨h1.nx u, hn, ao, g, cp, h2.kx u, h3.keep u (fun _ h => h)⟩
theorem AppC.turned {b2 : Nat} {wR : World} : Turned (wR.heap.size + 1) (AppC b2 wR) := fun pre W W' h hl u => by
  obtain ⟨h1, hn, ao, g, cp, h2, h3⟩ := h
  exact ⟨h1.trans (u.mono fun i e => .inr (by subst e; exact Nat.le_refl _)), hn, ao, g, cp, h2.keep u (h2.notLoop hl), h3.keep u (fun hb e => by omega)⟩
theorem with_c (l : List Sp) (al : Option Addr) (bl ol cl : Nat) (s : Sp) (w0 : World) (hl : Sl encSp 2 w0 al bl ol l) (hll : l.length ≤ 100000) (hs : Srt l) (hpos : 0 < w0.heap.size) :
    CallsV Tryz.prog 64 [.slice al l.length cl, .agg #[.int .i64 s.b, .int .i64 s.e]] w0 (fun v w' => (∃ ao g cp, v = .slice ao (List.length (insS s l)) cp ∧ Acc encSp 2 180 w0.heap.size w' ao g cp (insS s l)) ∧ Ext w0 w') := by
 refine f_n func64 ?_
 refine go ?_
 refine x_b fun bk2 w3 ebk2 sbk2 B4 u5 => ?_
 have E6 := Sc.mk ((Upd.refl (fun _ => False) w0).nx u5)
 refine go ?_
 refine x_c func129 rfl rfl (search_cK l al bl ol cl s _ (hl.keep E6.u (fun _ h => h)) hll hs) ?_
 rintro _ w9 ⟨⟨kS, bS, rfl, hkS, hkl, hkr⟩, u10⟩ zu10
 refine go ?_
 refine c_drawnM follows (fun _ => False) (.look 0 (.look 2 (.look 3 (.act 1 (.act 4 (.act 5 (.look 6 .done) .stop) .stop) (.act 4 (.act 1 (.act 5 (.look 6 .done) .stop) .stop) .stop))))) (by kernel_rfl) fun w14 u15 => ?_
 have zu15 := u15.size
 have E16 := Sc.mk ((E6.u.nx u10).nx u15)
 refine go ?_
 refine s_or ?_ ?_
 ·
  refine go ?_
  refine x_c func131 rfl rfl (clone_c l al bl ol cl _ (hl.keep E16.u (fun _ h => h)) hll (by omega)) ?_
  rintro _ w19 ⟨⟨aoC17, gC17, cC17, rfl, hacC17⟩, u20⟩ zu20
  have lt_gC17 := hacC17.lt
  refine go ?_
  refine x_l fun bk23 w24 ebk23 sbk23 B25 u26 => ?_
  refine go ?_
  have D28 := (hacC17.keep u26 (fun _ h => h))
  refine x_c func130 rfl rfl (insert_c l aoC17 gC17 cC17 w14.heap.size kS bk23 s _ D28 hkS hll (by omega) B25 (fun h => by omega)) ?_
  rintro _ w30 ⟨⟨aoI, gI, cI, rfl, hacI⟩, u31⟩ zu31
  rw [← ins_at hkS hkl hkr] at hacI
  have lt_gI := hacI.lt
  refine t_same 18 (v := .slice aoI ((insS s l).length) cI) rfl (by rw [ins_at hkS hkl hkr]) ?_
  refine go ?_
  refine f_1 results64 ?_
  obtain ⟨g9, ha9⟩ := Acc.lower (base' := w0.heap.size) hacI (by omega) hpos
  exact ⟨⟨aoI, g9, cI, rfl, ha9⟩, u_d⟩
 refine go ?_
 refine x_l fun bk34 w35 ebk34 sbk34 B36 u37 => ?_
 refine go ?_
 refine x_c func131 rfl rfl (clone_c l al bl ol cl _ (hl.keep (E16.u.nx u37) (fun _ h => h)) hll (by omega)) ?_
 rintro _ w41 ⟨⟨aoC39, gC39, cC39, rfl, hacC39⟩, u42⟩ zu42
 have lt_gC39 := hacC39.lt
 refine go ?_
 have B45 := (B36.kx u42)
 refine x_c func130 rfl rfl (insert_c l aoC39 gC39 cC39 w35.heap.size kS bk34 s _ hacC39 hkS hll (by omega) B45 (fun h => by omega)) ?_
 rintro _ w47 ⟨⟨aoI, gI, cI, rfl, hacI⟩, u48⟩ zu48
 rw [← ins_at hkS hkl hkr] at hacI
 have lt_gI := hacI.lt
 refine t_same 18 (v := .slice aoI ((insS s l).length) cI) rfl (by rw [ins_at hkS hkl hkr]) ?_
 refine go ?_
 refine f_1 results64 ?_
 obtain ⟨g9, ha9⟩ := Acc.lower (base' := w0.heap.size) hacI (by omega) hpos
 exact ⟨⟨aoI, g9, cI, rfl, ha9⟩, u_d⟩
set_option maxHeartbeats 4000000 in
theorem Rested_c (r : Rul) (l : List Dty) (al : Option Addr) (bl ol cl : Nat) (w0 : World) (hl : Sl encDty 4 w0 al bl ol l) (hll : l.length ≤ 1000000) (hpos : 0 < w0.heap.size) :
    CallsV Tryz.prog 21 [.agg #[.int .i64 r.rest, .int .i64 r.span, .int .i64 r.work, .int .i64 r.week, .int .i64 r.ww], .slice al l.length cl] w0 (fun v w' => (∃ at_ rule pos e, v = .tuple #[.int .i64 at_, .int .i64 rule, .bool pos, .int .i64 e] ∧ RestA r l at_ rule pos e) ∧ Ext w0 w') := by
 refine f_n func21 ?_
 refine go ?_
 refine x_b fun bk2 w3 ebk2 sbk2 B4 u5 => ?_
 have E6 := Sc.mk ((Upd.refl (fun _ => False) w0).nx u5)
 refine go ?_
 refine x_c func60 rfl rfl (check_c r l al bl ol cl _ (hl.keep E6.u (fun _ h => h)) hll) ?_
 rintro _ w10 ⟨rfl, u11⟩ zu11
 refine go ?_
 refine q_p (fun g17 => ?_) fun g17 => ?_
 ·
  refine go ?_
  refine f_ret4 (v1 := .int .i64 0) (v2 := .int .i64 0) (v3 := .bool false) (v4 := .int .i64 (chkRD r l)) results21 rfl rfl rfl rfl ?_
  exact ⟨⟨0, 0, false, _, rfl, .inl ⟨g17, rfl, rfl, rfl, rfl⟩⟩, u_d⟩
 have hc0 : chkRD r l = 0 := Decidable.not_not.1 g17
 obtain ⟨hr, hl20, hod⟩ := chk_okK hc0
 refine go ?_
 refine x_n fun bk17 w18 ebk17 sbk17 B19 u20 => ?_
 refine x_s fun w22 sw22 B24 u23 => ?_
 refine go ?_
 refine c_drawnM follows (fun _ => False) (OTl [0, 2, 5, 7, 8]) (by kernel_rfl) fun w27 u28 => ?_
 have zu28 := u28.size
 have E29 := Sc.mk ((((E6.u.nx u11).nx u20).next u23 (fun i hi h => by omega)).nx u28)
 refine go ?_
 refine x_c func62 rfl rfl (rosterS_c l al bl ol cl _ (hl.keep E29.u (fun _ h => h)) (by omega) (by omega)) ?_
 rintro _ w32 ⟨⟨aoR30, gR30, cR30, rfl, haR30⟩, u33⟩ zu33
 have lt_gR30 := haR30.lt
 have hlR30 : (srtS (l.map shtS)).length = l.length := by rw [srt_len, List.length_map]
 refine go ?_
 refine x_c func61 rfl rfl (keeps_c r (srtS (l.map shtS)) aoR30 gR30 0 cR30 _ (haR30.sl (fun _ => rfl)) (by rw [srt_len, List.length_map]; omega) (shts_ok hod) hr) ?_
 rintro _ w37 ⟨rfl, u38⟩ zu38
 refine go ?_
 refine x_l5 (fun _ => False) [9, 25, 26] (fun (k : Nat) (ao : Option Addr) (gt : Nat) (ct : Nat) (ts : List Sp) => [(6, .bool (decide (brokP r (srtS (l.map shtS)) = 0))), (10, .slice ao ts.length ct), (27, .int .i64 (k : Int))]) (fun k ao gt ct ts w => (k ≤ l.length) ∧ (Sl encSp 2 w ao gt 0 ts) ∧ (ts = (srtS ((l.take k).map lngS))) ∧ (∀ j, j < k → brkK r l (j + 1) = 0)) (fun k ao gt ct ts => l.length - k) 0 none 0 0 ([]) ⟨(Nat.zero_le _), (Sl.nil _ _ _ _ _ _), rfl, (fun j hj => absurd hj (Nat.not_lt_zero _))⟩ ?_
 rintro k ao gt ct ts w45 ⟨hk, hts, hte, hno⟩ u46 zu46 K44 hK44
 have htl : ts.length = k := by rw [hte, srt_len, List.length_map, List.length_take]; omega
 have hos : Srt ts := by rw [hte]; exact srt_srt _
 have hok1 : ∀ x ∈ ts, OkSp x := by rw [hte]; exact srt_ok fun x hx => by obtain ⟨d, hd, rfl⟩ := List.mem_map.1 hx; exact lng_ok (hod d (List.mem_of_mem_take hd))
 refine go ?_
 refine q_p (fun g28 => ?_) fun g28 => ?_
 ·
  have hw1 : insS (lngS (nth l k)) ts = (srtS ((l.take (k + 1)).map lngS)) := by rw [hte, ins_srtS, take_nth (by omega), List.map_append]; rfl
  have hb1 : brokP r (insS (lngS (nth l k)) ts) = brkK r l (k + 1) := by unfold brkK; rw [hw1]
  have hokw : ∀ x ∈ insS (lngS (nth l k)) ts, OkSp x := ins_ok (lng_ok (hod _ (nth_mem (by omega)))) hok1
  refine go ?_
  refine g_i k (hl.keep (((E29.u.nx u33).nx u38).nx u46) (fun _ h => h)) (fun _ => ?_)
  refine go ?_
  refine x_n fun bk53 w54 ebk53 sbk53 B55 u56 => ?_
  refine go ?_
  refine x_s fun w58 sw58 B60 u59 => ?_
  refine go ?_
  refine x_c func65 rfl rfl (longest_c (nth l k) _) ?_
  rintro _ w64 ⟨rfl, u65⟩ zu65
  have D68 := (((hts.keep u56 (fun _ h => h)).keep u59 (fun hp => by have h9 := hts.lt hp; show ¬ (gt = bk53); omega)).keep u65 (fun _ h => h))
  refine x_c func64 rfl rfl (with_c ts ao gt 0 ct (lngS (nth l k)) _ D68 (by rw [htl]; omega) hos (by omega)) ?_
  rintro _ w71 ⟨⟨aoW69, gW69, cW69, rfl, haW69⟩, u72⟩ zu72
  have lt_gW69 := haW69.lt
  refine go ?_
  refine x_c func66 rfl rfl (broken_c r (insS (lngS (nth l k)) ts) aoW69 gW69 0 cW69 _ (haW69.sl (fun _ => rfl)) (by rw [ins_len]; omega) hokw hr) ?_
  rintro _ w77 ⟨rfl, u78⟩ zu78
  refine go ?_
  refine q_p (fun g40 => ?_) fun g40 => ?_
  ·
   refine go ?_
   refine f_ret4 (v1 := .int .i64 (k : Int)) (v2 := .int .i64 (brokP r (insS (lngS (nth l k)) ts))) (v3 := .bool (decide (brokP r (srtS (l.map shtS)) = 0))) (v4 := .int .i64 0) results21 rfl rfl rfl rfl ?_
   exact ⟨⟨_, _, _, _, rfl, .inr ⟨hc0, rfl, .inr ⟨k, by omega, rfl, hb1, g40, hno⟩, rfl⟩⟩, u_d⟩
  refine go ?_
  have D83 := (haW69.keep u78 (fun _ h => h))
  exact hK44 (k + 1) aoW69 gW69 cW69 (insS (lngS (nth l k)) ts) ⟨(by omega), (D83.sl (fun _ => rfl)), hw1, (fun j hj => by
    rcases Nat.lt_or_ge j k with h | h
    · exact hno j h
    · rw [show j = k by omega]; exact hb1.symm.trans (Decidable.not_not.1 g40))⟩
 refine go ?_
 refine f_ret4 (v1 := .int .i64 (-1)) (v2 := .int .i64 0) (v3 := .bool (decide (brokP r (srtS (l.map shtS)) = 0))) (v4 := .int .i64 0) results21 rfl rfl rfl rfl ?_
 exact ⟨⟨_, _, _, _, rfl, .inr ⟨hc0, rfl, .inl ⟨rfl, rfl, fun j hj => hno j (by omega)⟩, rfl⟩⟩, u_d⟩
set_option maxHeartbeats 4000000 in
theorem Next_c (r : Rul) (l : List Dty) (al : Option Addr) (bl ol cl : Nat) (f len : Int) (w0 : World) (hl : Sl encDty 4 w0 al bl ol l) (hll : l.length ≤ 1000000) (hpos : 0 < w0.heap.size) :
    CallsV Tryz.prog 55 [.agg #[.int .i64 r.rest, .int .i64 r.span, .int .i64 r.work, .int .i64 r.week, .int .i64 r.ww], .slice al l.length cl, .int .i64 f, .int .i64 len] w0 (fun v w' => (∃ t e, v = .tuple #[.int .i64 t, .int .i64 e] ∧ NextA r l f len t e) ∧ Ext w0 w') := by
 refine f_n func55 ?_
 refine go ?_
 refine x_b fun bk2 w3 ebk2 sbk2 B4 u5 => ?_
 have E6 := Sc.mk ((Upd.refl (fun _ => False) w0).nx u5)
 refine go ?_
 refine x_c func60 rfl rfl (check_c r l al bl ol cl _ (hl.keep E6.u (fun _ h => h)) hll) ?_
 rintro _ w10 ⟨rfl, u11⟩ zu11
 refine go ?_
 refine q_p (fun g20 => ?_) fun g20 => ?_
 ·
  refine go ?_
  refine f_ret2 (v1 := .int .i64 0) (v2 := .int .i64 (chkRD r l)) results55 rfl rfl ?_
  exact ⟨⟨0, _, rfl, .inl ⟨g20, rfl, rfl⟩⟩, u_d⟩
 have hc0 : chkRD r l = 0 := Decidable.not_not.1 g20
 obtain ⟨hr, hl20, hod⟩ := chk_okK hc0
 refine go ?_
 refine c_drawnM follows (fun _ => False) (.look 0 (.look 1 (.look 2 (.act 3 (.act 4 (.act 5 (.look 6 .done) .stop) .stop) (.act 4 (.act 3 (.act 5 (.look 6 .done) .stop) .stop) .stop))))) (by kernel_rfl) fun w17 u18 => ?_
 have zu18 := u18.size
 have E19 := Sc.mk ((E6.u.nx u11).nx u18)
 refine go ?_
 refine s_or ?_ ?_
 ·
  refine go ?_
  refine x_c func62 rfl rfl (rosterL_c l al bl ol cl _ (hl.keep E19.u (fun _ h => h)) (by omega) (by omega)) ?_
  rintro _ w22 ⟨⟨aoR20, gR20, cR20, rfl, haR20⟩, u23⟩ zu23
  have lt_gR20 := haR20.lt
  have hlR20 : (srtS (l.map lngS)).length = l.length := by rw [srt_len, List.length_map]
  refine go ?_
  refine x_n fun bk26 w27 ebk26 sbk26 B28 u29 => ?_
  refine go ?_
  refine x_s fun w31 sw31 B33 u32 => ?_
  refine go ?_
  refine x_l fun bk37 w38 ebk37 sbk37 B39 u40 => ?_
  refine x_c func69 rfl rfl (within1_vK 0 20160 f _ _ _ B39) ?_
  rintro _ w43 ⟨rfl, u44⟩ zu44
  refine go ?_
  refine t_splitp 31 rfl (fun g31 => ?_) (fun g31 => ?_)
  ·
   refine go ?_
   refine f_ret2 (v1 := .int .i64 0) (v2 := .int .i64 3) results55 rfl rfl ?_
   exact ⟨⟨0, 3, rfl, .inr (.inl ⟨hc0, by omega, rfl, rfl⟩)⟩, u_d⟩
  refine go ?_
  refine x_l fun bk48 w49 ebk48 sbk48 B50 u51 => ?_
  refine x_c func69 rfl rfl (within1_vK 1 20160 len _ _ _ B50) ?_
  rintro _ w54 ⟨rfl, u55⟩ zu55
  refine go ?_
  refine q_p (fun g26 => ?_) fun g26 => ?_
  ·
   refine go ?_
   refine f_ret2 (v1 := .int .i64 0) (v2 := .int .i64 3) results55 rfl rfl ?_
   exact ⟨⟨0, 3, rfl, .inr (.inl ⟨hc0, by omega, rfl, rfl⟩)⟩, u_d⟩
  have hfl : (0 ≤ f ∧ f ≤ 20160) ∧ (1 ≤ len ∧ len ≤ 20160) := by omega
  refine go ?_
  have D60 := ((((((haR20.keep u29 (fun _ h => h)).keep u32 (fun hb => show ¬ (gR20 = bk26) by first | omega | assumption)).keep u40 (fun _ h => h)).keep u44 (fun _ h => h)).keep u51 (fun _ h => h)).keep u55 (fun _ h => h))
  refine x_c func61 rfl rfl (keeps_c r (srtS (l.map lngS)) aoR20 gR20 0 cR20 _ (D60.sl (fun _ => rfl)) (by rw [srt_len, List.length_map]; omega) (lngs_ok hod) hr) ?_
  rintro _ w62 ⟨rfl, u63⟩ zu63
  refine go ?_
  refine q_p (fun g37 => ?_) fun g37 => ?_
  ·
   refine go ?_
   refine f_ret2 (v1 := .int .i64 0) (v2 := .int .i64 9) results55 rfl rfl ?_
   exact ⟨⟨0, 9, rfl, .inr (.inr ⟨hc0, hfl, .inl ⟨by simpa using g37, rfl, rfl⟩⟩)⟩, u_d⟩
  have hkp : brokP r (srtS (l.map lngS)) = 0 := by simpa using g37
  refine go ?_
  refine x_l1 (fun _ => False) [3, 11, 12, 42, 43] (fun (k : Nat) => [(2, .int .i64 (mxF (srtS (l.map lngS)) f k)), (44, .int .i64 (k : Int))]) (fun k w => (k ≤ (srtS (l.map lngS)).length)) (fun k => (srtS (l.map lngS)).length - k) 0 (Nat.zero_le _) ?_
  rintro k w70 hk u71 zu71 K69 hK69
  refine go ?_
  refine q_p (fun g45 => ?_) fun g45 => ?_
  ·
   refine go ?_
   have D77 := ((D60.keep u63 (fun _ h => h)).keep u71 (fun _ h => h))
   refine g_i k (D77.sl (fun _ => rfl)) (fun _ => ?_)
   refine go ?_
   refine x_n fun bk79 w80 ebk79 sbk79 B81 u82 => ?_
   refine x_s fun w84 sw84 B86 u85 => ?_
   refine go ?_
   refine t_max rfl rfl rfl rfl ?_
   refine go ?_
   exact hK69 (k + 1) (by omega) (hs := by exact ⟨(congrArg (fun z => some (Value.int .i64 z)) (mxF_succ (by omega)).symm), rfl, rfl, rfl, rfl, rfl, rfl, trivial⟩)
  have hke : k = (srtS (l.map lngS)).length := by omega
  have hmr := mxF_rng hfl.1 (lngs_ok hod) k hk
  refine c_same 2 (v := .int .i64 (mxF (srtS (l.map lngS)) f (srtS (l.map lngS)).length)) rfl (by rw [← hke]) ?_
  rw [hke] at hmr
  refine go ?_
  refine x_l1 (fun _ => False) [3, 11, 12] (fun (t : Int) => [(15, .int .i64 t)]) (fun t w => ((mxF (srtS (l.map lngS)) f (srtS (l.map lngS)).length) ≤ t ∧ t ≤ 20161) ∧ (∀ u, (mxF (srtS (l.map lngS)) f (srtS (l.map lngS)).length) ≤ u → u < t → brokP r (insS ⟨u, u + len⟩ (srtS (l.map lngS))) ≠ 0)) (fun t => (20161 - t).toNat) (mxF (srtS (l.map lngS)) f (srtS (l.map lngS)).length) ⟨(by omega), (fun u h1 h2 => absurd h1 (by omega))⟩ ?_
  rintro t w91 ⟨ht, hno⟩ u92 zu92 K90 hK90
  refine go ?_
  refine q_p (fun g57 => ?_) fun g57 => ?_
  ·
   have hokw : ∀ x ∈ (insS ⟨t, (t + len)⟩ (srtS (l.map lngS))), OkSp x := ins_ok (by unfold OkSp; simp only []; omega) (lngs_ok hod)
   refine go ?_
   refine c_drawnM follows (fun _ => False) (OTl [0, 2, 4, 6, 8, 10, 12, 15, 17]) (by kernel_rfl) fun w98 u99 => ?_
   have zu99 := u99.size
   refine go ?_
   have D101 := ((((D60.keep u63 (fun _ h => h)).keep u71 (fun _ h => h)).keep u92 (fun _ h => h)).keep u99 (fun _ h => h))
   refine x_c func64 rfl rfl (with_c (srtS (l.map lngS)) aoR20 gR20 0 cR20 (⟨t, (t + len)⟩ : Sp) _ (D101.sl (fun _ => rfl)) (by rw [srt_len, List.length_map]; omega) (srt_srt _) (by omega)) ?_
   rintro _ w104 ⟨⟨aoW102, gW102, cW102, rfl, haW102⟩, u105⟩ zu105
   have lt_gW102 := haW102.lt
   refine go ?_
   refine x_c func61 rfl rfl (keeps_c r (insS (⟨t, (t + len)⟩ : Sp) (srtS (l.map lngS))) aoW102 gW102 0 cW102 _ (haW102.sl (fun _ => rfl)) (by rw [ins_len, srt_len, List.length_map]; omega) hokw hr) ?_
   rintro _ w109 ⟨rfl, u110⟩ zu110
   refine go ?_
   refine q_p (fun g68 => ?_) fun g68 => ?_
   ·
    refine go ?_
    refine f_ret2 (v1 := .int .i64 t) (v2 := .int .i64 0) results55 rfl rfl ?_
    exact ⟨⟨t, 0, rfl, .inr (.inr ⟨hc0, hfl, .inr ⟨hkp, .inl ⟨rfl, by omega, by omega, g68, hno⟩⟩⟩)⟩, u_d⟩
   refine go ?_
   exact hK90 (t + 1) ⟨(by omega), (fun u h1 h2 => by
     by_cases h : u < t
     · exact hno u h1 h
     · rw [show u = t by omega]; exact g68)⟩
  refine go ?_
  refine f_ret2 (v1 := .int .i64 0) (v2 := .int .i64 7) results55 rfl rfl ?_
  exact ⟨⟨0, 7, rfl, .inr (.inr ⟨hc0, hfl, .inr ⟨hkp, .inr ⟨rfl, rfl, fun u h1 h2 => hno u h1 (by omega)⟩⟩⟩)⟩, u_d⟩
 refine go ?_
 refine x_n fun bk115 w116 ebk115 sbk115 B117 u118 => ?_
 refine go ?_
 refine x_c func62 rfl rfl (rosterL_c l al bl ol cl _ (hl.keep (E19.u.nx u118) (fun _ h => h)) (by omega) (by omega)) ?_
 rintro _ w122 ⟨⟨aoR120, gR120, cR120, rfl, haR120⟩, u123⟩ zu123
 have lt_gR120 := haR120.lt
 have hlR120 : (srtS (l.map lngS)).length = l.length := by rw [srt_len, List.length_map]
 refine go ?_
 refine x_s fun w126 sw126 B128 u127 => ?_
 refine go ?_
 refine x_l fun bk132 w133 ebk132 sbk132 B134 u135 => ?_
 refine x_c func69 rfl rfl (within1_vK 0 20160 f _ _ _ B134) ?_
 rintro _ w138 ⟨rfl, u139⟩ zu139
 refine go ?_
 refine t_splitp 31 rfl (fun g31 => ?_) (fun g31 => ?_)
 ·
  refine go ?_
  refine f_ret2 (v1 := .int .i64 0) (v2 := .int .i64 3) results55 rfl rfl ?_
  exact ⟨⟨0, 3, rfl, .inr (.inl ⟨hc0, by omega, rfl, rfl⟩)⟩, u_d⟩
 refine go ?_
 refine x_l fun bk143 w144 ebk143 sbk143 B145 u146 => ?_
 refine x_c func69 rfl rfl (within1_vK 1 20160 len _ _ _ B145) ?_
 rintro _ w149 ⟨rfl, u150⟩ zu150
 refine go ?_
 refine q_p (fun g26 => ?_) fun g26 => ?_
 ·
  refine go ?_
  refine f_ret2 (v1 := .int .i64 0) (v2 := .int .i64 3) results55 rfl rfl ?_
  exact ⟨⟨0, 3, rfl, .inr (.inl ⟨hc0, by omega, rfl, rfl⟩)⟩, u_d⟩
 have hfl : (0 ≤ f ∧ f ≤ 20160) ∧ (1 ≤ len ∧ len ≤ 20160) := by omega
 refine go ?_
 have D155 := (((((haR120.keep u127 (fun hb => show ¬ (gR120 = bk115) by first | omega | assumption)).keep u135 (fun _ h => h)).keep u139 (fun _ h => h)).keep u146 (fun _ h => h)).keep u150 (fun _ h => h))
 refine x_c func61 rfl rfl (keeps_c r (srtS (l.map lngS)) aoR120 gR120 0 cR120 _ (D155.sl (fun _ => rfl)) (by rw [srt_len, List.length_map]; omega) (lngs_ok hod) hr) ?_
 rintro _ w157 ⟨rfl, u158⟩ zu158
 refine go ?_
 refine q_p (fun g37 => ?_) fun g37 => ?_
 ·
  refine go ?_
  refine f_ret2 (v1 := .int .i64 0) (v2 := .int .i64 9) results55 rfl rfl ?_
  exact ⟨⟨0, 9, rfl, .inr (.inr ⟨hc0, hfl, .inl ⟨by simpa using g37, rfl, rfl⟩⟩)⟩, u_d⟩
 have hkp : brokP r (srtS (l.map lngS)) = 0 := by simpa using g37
 refine go ?_
 refine x_l1 (fun _ => False) [3, 11, 12, 42, 43] (fun (k : Nat) => [(2, .int .i64 (mxF (srtS (l.map lngS)) f k)), (44, .int .i64 (k : Int))]) (fun k w => (k ≤ (srtS (l.map lngS)).length)) (fun k => (srtS (l.map lngS)).length - k) 0 (Nat.zero_le _) ?_
 rintro k w165 hk u166 zu166 K164 hK164
 refine go ?_
 refine q_p (fun g45 => ?_) fun g45 => ?_
 ·
  refine go ?_
  have D172 := ((D155.keep u158 (fun _ h => h)).keep u166 (fun _ h => h))
  refine g_i k (D172.sl (fun _ => rfl)) (fun _ => ?_)
  refine go ?_
  refine x_n fun bk174 w175 ebk174 sbk174 B176 u177 => ?_
  refine x_s fun w179 sw179 B181 u180 => ?_
  refine go ?_
  refine t_max rfl rfl rfl rfl ?_
  refine go ?_
  exact hK164 (k + 1) (by omega) (hs := by exact ⟨(congrArg (fun z => some (Value.int .i64 z)) (mxF_succ (by omega)).symm), rfl, rfl, rfl, rfl, rfl, rfl, trivial⟩)
 have hke : k = (srtS (l.map lngS)).length := by omega
 have hmr := mxF_rng hfl.1 (lngs_ok hod) k hk
 refine c_same 2 (v := .int .i64 (mxF (srtS (l.map lngS)) f (srtS (l.map lngS)).length)) rfl (by rw [← hke]) ?_
 rw [hke] at hmr
 refine go ?_
 refine x_l1 (fun _ => False) [3, 11, 12] (fun (t : Int) => [(15, .int .i64 t)]) (fun t w => ((mxF (srtS (l.map lngS)) f (srtS (l.map lngS)).length) ≤ t ∧ t ≤ 20161) ∧ (∀ u, (mxF (srtS (l.map lngS)) f (srtS (l.map lngS)).length) ≤ u → u < t → brokP r (insS ⟨u, u + len⟩ (srtS (l.map lngS))) ≠ 0)) (fun t => (20161 - t).toNat) (mxF (srtS (l.map lngS)) f (srtS (l.map lngS)).length) ⟨(by omega), (fun u h1 h2 => absurd h1 (by omega))⟩ ?_
 rintro t w186 ⟨ht, hno⟩ u187 zu187 K185 hK185
 refine go ?_
 refine q_p (fun g57 => ?_) fun g57 => ?_
 ·
  have hokw : ∀ x ∈ (insS ⟨t, (t + len)⟩ (srtS (l.map lngS))), OkSp x := ins_ok (by unfold OkSp; simp only []; omega) (lngs_ok hod)
  refine go ?_
  refine c_drawnM follows (fun _ => False) (OTl [0, 2, 4, 6, 8, 10, 12, 15, 17]) (by kernel_rfl) fun w193 u194 => ?_
  have zu194 := u194.size
  refine go ?_
  have D196 := ((((D155.keep u158 (fun _ h => h)).keep u166 (fun _ h => h)).keep u187 (fun _ h => h)).keep u194 (fun _ h => h))
  refine x_c func64 rfl rfl (with_c (srtS (l.map lngS)) aoR120 gR120 0 cR120 (⟨t, (t + len)⟩ : Sp) _ (D196.sl (fun _ => rfl)) (by rw [srt_len, List.length_map]; omega) (srt_srt _) (by omega)) ?_
  rintro _ w199 ⟨⟨aoW197, gW197, cW197, rfl, haW197⟩, u200⟩ zu200
  have lt_gW197 := haW197.lt
  refine go ?_
  refine x_c func61 rfl rfl (keeps_c r (insS (⟨t, (t + len)⟩ : Sp) (srtS (l.map lngS))) aoW197 gW197 0 cW197 _ (haW197.sl (fun _ => rfl)) (by rw [ins_len, srt_len, List.length_map]; omega) hokw hr) ?_
  rintro _ w204 ⟨rfl, u205⟩ zu205
  refine go ?_
  refine q_p (fun g68 => ?_) fun g68 => ?_
  ·
   refine go ?_
   refine f_ret2 (v1 := .int .i64 t) (v2 := .int .i64 0) results55 rfl rfl ?_
   exact ⟨⟨t, 0, rfl, .inr (.inr ⟨hc0, hfl, .inr ⟨hkp, .inl ⟨rfl, by omega, by omega, g68, hno⟩⟩⟩)⟩, u_d⟩
  refine go ?_
  exact hK185 (t + 1) ⟨(by omega), (fun u h1 h2 => by
    by_cases h : u < t
    · exact hno u h1 h
    · rw [show u = t by omega]; exact g68)⟩
 refine go ?_
 refine f_ret2 (v1 := .int .i64 0) (v2 := .int .i64 7) results55 rfl rfl ?_
 exact ⟨⟨0, 7, rfl, .inr (.inr ⟨hc0, hfl, .inr ⟨hkp, .inr ⟨rfl, rfl, fun u h1 h2 => hno u h1 (by omega)⟩⟩⟩)⟩, u_d⟩

end Go.Proofs.YtclinbbghnebaaaGreat
namespace Go.Proofs.YtclinbbghnebaaaGreat
open Go Go.RowKit Go.Proofs.Tryz
set_option maxRecDepth 10000

structure Ppr where
  r : Int
  u : Int
instance : Inhabited Ppr := ⟨⟨default, default⟩⟩
structure Leg where
  r : Int
  t : Dty
  h : Int
  p : Int
instance : Inhabited Leg := ⟨⟨default, default, default, default⟩⟩
/-- A sailor: times, papers, duties. -/
structure Slr where
  f : Int
  u : Int
  ps : List Ppr
  ds : List Dty
instance : Inhabited Slr := ⟨⟨default, default, default, default⟩⟩
def encPpr (x : Ppr) : List Value := [.int .i64 x.r, .int .i64 x.u]
def encLeg (x : Leg) : List Value := [.int .i64 x.r, .int .i64 x.t.bl, .int .i64 x.t.bh, .int .i64 x.t.el, .int .i64 x.t.eh, .int .i64 x.h, .int .i64 x.p]
def okPpr (p : Ppr) : Bool := decide ((0 ≤ p.r ∧ p.r ≤ 19) ∧ (0 ≤ p.u ∧ p.u ≤ 20160))
def okLeg (x : Leg) : Bool := decide ((0 ≤ x.r ∧ x.r ≤ 19) ∧ okDty x.t = true ∧ (1 ≤ x.h ∧ x.h ≤ 3) ∧ (0 ≤ x.p ∧ x.p ≤ x.h))
def okSlr (s : Slr) : Bool := decide (((0 ≤ s.f ∧ s.f ≤ 20160) ∧ (0 ≤ s.u ∧ s.u ≤ 20160)) ∧ s.f ≤ s.u ∧ s.ps.length ≤ 10 ∧ (∀ p ∈ s.ps, okPpr p = true) ∧ chkD s.ds = 0)
/-- A leg lies within a member's time. -/
def winM (f u : Int) (x : Leg) : Bool := decide (f ≤ x.t.bl ∧ x.t.eh ≤ u)
def canB (r : Rul) (f u : Int) (l : List Sp) (x : Leg) : Bool := winM f u x && decide (brokP r (insS (lngS x.t) l) = 0)
def canT (f u : Int) (l : List Sp) (x : Leg) : List Sp := if winM f u x = true then insS (lngS x.t) l else l
def pltP (ps : List Ppr) (x : Leg) : Bool := ps.any fun p => decide (p.r = x.r ∧ x.t.eh ≤ p.u)
theorem chkD_ok {l : List Dty} (h : chkD l = 0) : l.length ≤ 20 ∧ ∀ d ∈ l, okDty d = true := by
  unfold chkD at h
  by_cases h2 : 20 < l.length
  · rw [if_pos h2] at h; cases h
  · rw [if_neg h2] at h
    by_cases h3 : (l.any fun d => !okDty d) = true
    · rw [if_pos h3] at h; cases h
    · refine ⟨by omega, fun d hd => ?_⟩
      cases hq : okDty d with
      | true => rfl
      | false => exact absurd (List.any_eq_true.2 ⟨d, hd, by simp [hq]⟩) h3
theorem okSlr_ok {s : Slr} (h : okSlr s = true) : ((0 ≤ s.f ∧ s.f ≤ 20160) ∧ (0 ≤ s.u ∧ s.u ≤ 20160)) ∧ s.ps.length ≤ 10 ∧ s.ds.length ≤ 20 ∧ ∀ d ∈ s.ds, okDty d = true := by
  simp only [okSlr, decide_eq_true_eq] at h
  exact ⟨h.1, h.2.2.1, chkD_ok h.2.2.2.2⟩
theorem okLeg_ok {x : Leg} (h : okLeg x = true) : okDty x.t = true ∧ (1 ≤ x.h ∧ x.h ≤ 3) ∧ (0 ≤ x.p ∧ x.p ≤ x.h) := by
  simp only [okLeg, decide_eq_true_eq] at h
  exact h.2
theorem leg_sp {x : Leg} (h : okLeg x = true) : OkSp (lngS x.t) := lng_ok (okLeg_ok h).1
theorem Acc.lower' {α : Type} {enc : α → List Value} {k : Nat} {e : TypeId} {base base' : Nat} {w : World} {ao : Option Addr} {g cap : Nat} {xs : List α} (h : Acc enc k e base w ao g cap xs) (hb : base' ≤ base) (h0 : 0 < base') : ∃ g', Acc enc k e base' w ao g' cap xs ∧ (base' ≤ g' → base ≤ g') := by
  rcases h.at_ with ⟨h1, h2, h3, h4⟩ | ⟨h1, h2, h3⟩
  · exact ⟨0, ⟨by have := h.lt; omega, .inl ⟨h1, h2, h3, h0⟩⟩, fun q => by omega⟩
  · exact ⟨g, ⟨h.lt, .inr ⟨h1, by omega, h3⟩⟩, fun _ => h2⟩
theorem own183 : Own Tryz.prog 183 := ⟨Tryz.f183, func183, by kernel_rfl, by kernel_rfl⟩
theorem own193 : Own Tryz.prog 193 := ⟨Tryz.f193, func193, by kernel_rfl, by kernel_rfl⟩
theorem indexP_c {α : Type} [Inhabited α] (enc : α → List Value) (hk : ∀ x, (enc x).length = 2) (p : α → Bool) (fv : FuncId) (caps : List Value) (xs : List α) (ao : Option Addr) (b o cap : Nat) (w0 : World) (ho : Own Tryz.prog fv) (hp : ∀ x ∈ xs, ∀ w, Ext w0 w → CallsV Tryz.prog fv ([.agg (enc x).toArray] ++ caps) w fun v w' => v = .bool (p x) ∧ Ext w w') (hs : Sl enc 2 w0 ao b o xs) (hl : xs.length ≤ 1000000) :
    CallsV Tryz.prog 229 [.slice ao xs.length cap, .func (.func fv) #[] (caps).toArray] w0 (fun v w' => (∃ n : Int, v = .int .i64 n ∧ decide (0 ≤ n) = xs.any p) ∧ Ext w0 w') := by
 refine f_n func229 ?_
 refine go ?_
 refine x_l1 (fun _ => False) [0, 1, 7] (fun (k : Nat) => [(8, .int .i64 (k : Int))]) (fun k w => (k ≤ xs.length) ∧ ((xs.take k).any p = false)) (fun k => xs.length - k) 0 ⟨Nat.zero_le _, (by simp)⟩ ?_
 rintro k w5 ⟨hle, hnot⟩ u6 zu6 K4 hK4
 have E7 := Sc.mk ((Upd.refl (fun _ => False) w0).nx u6)
 refine go ?_
 refine q_p (fun g9 => ?_) fun g9 => ?_
 ·
  refine go ?_
  refine g_i k (hs.keep E7.u (fun _ h => h)) (fun _ => ?_)
  refine t_loadN (vs := enc (nth xs k)) isAgg335 sizeOf335 rfl rfl rfl ((hs.keep E7.u (fun _ h => h)).at_ k (by omega)) (hk _) (t_call (fs := []) (cs := caps) ho rfl rfl rfl rfl (hp (nth xs k) (nth_mem (by omega)) _ E7.u) (fun v14 w15 r17 => ?_))
  obtain ⟨rfl, u16⟩ := r17
  have zu16 := u16.size
  refine go ?_
  refine q_b (fun g16 => ?_) fun g16 => ?_
  ·
   refine go ?_
   refine f_1 results229 ?_
   exact ⟨⟨_, rfl, any_hit (by omega) g16⟩, u_d⟩
  refine go ?_
  exact hK4 (k + 1) ⟨(by omega), (any_snoc (by omega) hnot g16)⟩
 refine go ?_
 refine f_1 results229 ?_
 exact ⟨⟨_, rfl, any_none (by omega) hnot⟩, u_d⟩
theorem containsP_c {α : Type} [Inhabited α] (enc : α → List Value) (hk : ∀ x, (enc x).length = 2) (p : α → Bool) (fv : FuncId) (caps : List Value) (xs : List α) (ao : Option Addr) (b o cap : Nat) (w0 : World) (ho : Own Tryz.prog fv) (hp : ∀ x ∈ xs, ∀ w, Ext w0 w → CallsV Tryz.prog fv ([.agg (enc x).toArray] ++ caps) w fun v w' => v = .bool (p x) ∧ Ext w w') (hs : Sl enc 2 w0 ao b o xs) (hl : xs.length ≤ 1000000) :
    CallsV Tryz.prog 182 [.slice ao xs.length cap, .func (.func fv) #[] (caps).toArray] w0 (fun v w' => v = .bool (xs.any p) ∧ Ext w0 w') := by
 refine f_n func182 ?_
 refine go ?_
 refine x_c func229 rfl rfl (indexP_c enc hk p fv caps xs ao b o cap _ ho hp hs hl) ?_
 rintro _ w4 ⟨⟨n, rfl, hn⟩, u5⟩ zu5
 refine go ?_
 refine f_1 results182 ?_
 exact ⟨by rw [hn], u_d⟩
theorem badPpr_c (p : Ppr) (w0 : World) :
    CallsV Tryz.prog 183 [.agg #[.int .i64 p.r, .int .i64 p.u]] w0 (fun v w' => v = .bool (!okPpr p) ∧ Ext w0 w') := by
 refine f_n func183 ?_
 refine go ?_
 refine x_b fun bk2 w3 ebk2 sbk2 B4 u5 => ?_
 refine go ?_
 refine x_l fun bk8 w9 ebk8 sbk8 B10 u11 => ?_
 refine x_c func69 rfl rfl (within1_vK 0 19 p.r _ _ _ B10) ?_
 rintro _ w14 ⟨rfl, u15⟩ zu15
 refine go ?_
 refine t_splitp 8 rfl (fun g8 => ?_) (fun g8 => ?_)
 ·
  refine go ?_
  refine f_1 results183 ?_
  exact ⟨congrArg Value.bool (by rw [Bool.eq_iff_iff]; simp only [okPpr, Bool.not_eq_eq_eq_not] <;> grind), u_d⟩
 refine go ?_
 refine x_l fun bk18 w19 ebk18 sbk18 B20 u21 => ?_
 refine x_c func69 rfl rfl (within1_vK 0 20160 p.u _ _ _ B20) ?_
 rintro _ w24 ⟨rfl, u25⟩ zu25
 refine go ?_
 refine f_1 results183 ?_
 exact ⟨congrArg Value.bool (by rw [Bool.eq_iff_iff]; simp only [okPpr, decide_eq_true_eq, Bool.not_eq_eq_eq_not] <;> grind), u_d⟩
theorem isSailor_c (f u : Int) (ps : List Ppr) (ap : Option Addr) (bp op cp : Nat) (ds : List Dty) (ad : Option Addr) (bd od cd : Nat) (w0 : World) (hp : Sl encPpr 2 w0 ap bp op ps) (hpl : ps.length ≤ 1000000) (hd : Sl encDty 4 w0 ad bd od ds) (hdl : ds.length ≤ 1000000) :
    CallsV Tryz.prog 119 [.agg #[.int .i64 f, .int .i64 u, .slice ap ps.length cp, .slice ad ds.length cd]] w0 (fun v w' => v = .bool (okSlr ⟨f, u, ps, ds⟩) ∧ Ext w0 w') := by
 refine f_n func119 ?_
 refine go ?_
 refine x_b fun bk2 w3 ebk2 sbk2 B4 u5 => ?_
 have E6 := Sc.mk ((Upd.refl (fun _ => False) w0).nx u5)
 refine go ?_
 refine x_c func182 rfl rfl (containsP_c encPpr (fun _ => rfl) (fun x => !okPpr x) 183 [] ps ap bp op cp _ own183 (fun x _ w _ => badPpr_c x w) (hp.keep E6.u (fun _ h => h)) hpl) ?_
 rintro _ w9 ⟨rfl, u10⟩ zu10
 refine go ?_
 refine x_l fun bk14 w15 ebk14 sbk14 B16 u17 => ?_
 refine x_c func69 rfl rfl (within2_vK 0 20160 f u _ _ _ B16) ?_
 rintro _ w20 ⟨rfl, u21⟩ zu21
 refine go ?_
 refine t_splitp 14 rfl (fun g14 => ?_) (fun g14 => ?_)
 ·
  refine go ?_
  refine t_splitp 21 rfl (fun g21 => ?_) (fun g21 => ?_)
  ·
   refine go ?_
   refine t_splitp 27 rfl (fun g27 => ?_) (fun g27 => ?_)
   ·
    refine go ?_
    refine t_split 30 rfl (fun g30 => ?_) (fun g30 => ?_)
    ·
     refine go ?_
     refine x_c func126 rfl rfl (checkDuties_c ds ad bd od cd _ (hd.keep (((E6.u.nx u10).nx u17).nx u21) (fun _ h => h)) hdl) ?_
     rintro _ w25 ⟨rfl, u26⟩ zu26
     refine go ?_
     refine f_1 results119 ?_
     exact ⟨congrArg Value.bool (by
       have hany : (!(ps.any fun p => !okPpr p)) = decide (∀ p ∈ ps, okPpr p = true) := by rw [Bool.eq_iff_iff]; simp
       rw [Bool.eq_iff_iff]; simp only [okSlr, decide_eq_true_eq] <;> grind), u_d⟩
    refine go ?_
    refine f_1 results119 ?_
    exact ⟨congrArg Value.bool (by
      have hany : (!(ps.any fun p => !okPpr p)) = decide (∀ p ∈ ps, okPpr p = true) := by rw [Bool.eq_iff_iff]; simp
      rw [Bool.eq_iff_iff]; simp only [okSlr, decide_eq_true_eq] <;> grind), u_d⟩
   refine go ?_
   refine f_1 results119 ?_
   exact ⟨congrArg Value.bool (by
     have hany : (!(ps.any fun p => !okPpr p)) = decide (∀ p ∈ ps, okPpr p = true) := by rw [Bool.eq_iff_iff]; simp
     rw [Bool.eq_iff_iff]; simp only [okSlr, decide_eq_true_eq] <;> grind), u_d⟩
  refine go ?_
  refine f_1 results119 ?_
  exact ⟨congrArg Value.bool (by
    have hany : (!(ps.any fun p => !okPpr p)) = decide (∀ p ∈ ps, okPpr p = true) := by rw [Bool.eq_iff_iff]; simp
    rw [Bool.eq_iff_iff]; simp only [okSlr, decide_eq_true_eq] <;> grind), u_d⟩
 refine go ?_
 refine f_1 results119 ?_
 exact ⟨congrArg Value.bool (by
   have hany : (!(ps.any fun p => !okPpr p)) = decide (∀ p ∈ ps, okPpr p = true) := by rw [Bool.eq_iff_iff]; simp
   rw [Bool.eq_iff_iff]; simp only [okSlr, decide_eq_true_eq] <;> grind), u_d⟩
theorem isLeg_c (x : Leg) (w0 : World) :
    CallsV Tryz.prog 122 [.agg #[.int .i64 x.r, .int .i64 x.t.bl, .int .i64 x.t.bh, .int .i64 x.t.el, .int .i64 x.t.eh, .int .i64 x.h, .int .i64 x.p]] w0 (fun v w' => v = .bool (okLeg x) ∧ Ext w0 w') := by
 refine f_n func122 ?_
 refine go ?_
 refine x_b fun bk2 w3 ebk2 sbk2 B4 u5 => ?_
 refine go ?_
 refine x_l fun bk8 w9 ebk8 sbk8 B10 u11 => ?_
 refine x_c func69 rfl rfl (within1_vK 0 19 x.r _ _ _ B10) ?_
 rintro _ w14 ⟨rfl, u15⟩ zu15
 refine go ?_
 refine t_splitp 7 rfl (fun g7 => ?_) (fun g7 => ?_)
 ·
  refine go ?_
  refine x_c func185 rfl rfl (isDuty_c x.t _) ?_
  rintro _ w19 ⟨rfl, u20⟩ zu20
  refine go ?_
  refine t_split 12 rfl (fun g12 => ?_) (fun g12 => ?_)
  ·
   refine go ?_
   refine x_l fun bk23 w24 ebk23 sbk23 B25 u26 => ?_
   refine x_c func69 rfl rfl (within1_vK 1 3 x.h _ _ _ B25) ?_
   rintro _ w29 ⟨rfl, u30⟩ zu30
   refine go ?_
   refine t_splitp 18 rfl (fun g18 => ?_) (fun g18 => ?_)
   ·
    refine go ?_
    refine x_l fun bk33 w34 ebk33 sbk33 B35 u36 => ?_
    refine x_c func69 rfl rfl (within1_vK 0 x.h x.p _ _ _ B35) ?_
    rintro _ w39 ⟨rfl, u40⟩ zu40
    refine go ?_
    refine f_1 results122 ?_
    exact ⟨congrArg Value.bool (by rw [Bool.eq_iff_iff]; simp only [okLeg, decide_eq_true_eq] <;> grind), u_d⟩
   refine go ?_
   refine f_1 results122 ?_
   exact ⟨congrArg Value.bool (by rw [Bool.eq_iff_iff]; simp only [okLeg, decide_eq_true_eq] <;> grind), u_d⟩
  refine go ?_
  refine f_1 results122 ?_
  exact ⟨congrArg Value.bool (by rw [Bool.eq_iff_iff]; simp only [okLeg, decide_eq_true_eq] <;> grind), u_d⟩
 refine go ?_
 refine f_1 results122 ?_
 exact ⟨congrArg Value.bool (by rw [Bool.eq_iff_iff]; simp only [okLeg, decide_eq_true_eq] <;> grind), u_d⟩
theorem board_c (f u : Int) (ap : Option Addr) (np cp : Nat) (ds : List Dty) (ad : Option Addr) (bd od cd : Nat) (w0 : World) (hd : Sl encDty 4 w0 ad bd od ds) (hdl : ds.length ≤ 100000) (hpos : 0 < w0.heap.size) :
    CallsV Tryz.prog 123 [.agg #[.int .i64 f, .int .i64 u, .slice ap np cp, .slice ad ds.length cd]] w0 (fun v w' => (∃ ao g c, v = .agg #[.int .i64 f, .int .i64 u, .slice ap np cp, .slice ad ds.length cd, .slice ao (srtS (ds.map lngS)).length c] ∧ Acc encSp 2 180 w0.heap.size w' ao g c (srtS (ds.map lngS))) ∧ Ext w0 w') := by
 refine f_n func123 ?_
 refine go ?_
 refine x_b fun bk2 w3 ebk2 sbk2 B4 u5 => ?_
 refine x_n fun bk7 w8 ebk7 sbk7 B9 u10 => ?_
 refine go ?_
 refine c_drawnM follows (fun i => i = bk7) (OTl [0, 2, 4, 7, 8, 11]) (by kernel_rfl) fun w13 u14 => ?_
 have zu14 := u14.size
 refine go ?_
 refine x_c func62 rfl rfl (rosterL_c ds ad bd od cd _ (hd.keep ((((Upd.refl (fun _ => False) w0).nx u5).nx u10).nx u14) (fun _ h => h)) (by omega) (by omega)) ?_
 rintro _ w18 ⟨⟨aoR16, gR16, cR16, rfl, haR16⟩, u19⟩ zu19
 have lt_gR16 := haR16.lt
 refine go ?_
 refine x_s fun w22 sw22 B24 u23 => ?_
 refine go ?_
 refine f_ret1 (v := .agg #[.int .i64 f, .int .i64 u, .slice ap np cp, .slice ad ds.length cd, .slice aoR16 ((srtS (ds.map lngS)).length) cR16]) results123 ⟨_, _, rfl, run_loadVarN (vs := [.int .i64 f, .int .i64 u, .slice ap np cp, .slice ad ds.length cd, .slice aoR16 ((srtS (ds.map lngS)).length) cR16]) isAgg269 sizeOf269 rfl (B24.at.sub 0 5)⟩ ?_
 have D26 := (haR16.keep u23 (fun hb => show ¬ (gR16 = bk7) by first | omega | assumption))
 obtain ⟨g9, hac9⟩ := (D26).lower (base' := w0.heap.size) (by omega) hpos
 exact ⟨⟨_, g9, _, rfl, hac9⟩, u_d⟩
theorem can_c (r : Rul) (f u : Int) (ap : Option Addr) (np cp : Nat) (ad : Option Addr) (nd cd : Nat) (l : List Sp) (al : Option Addr) (gl cl : Nat) (base : Nat) (x : Leg) (w0 : World) (hl : Acc encSp 2 180 base w0 al gl cl l) (hll : l.length ≤ 100) (hs : Srt l) (hok : ∀ s ∈ l, OkSp s) (hr : okRul r = true) (hx : okLeg x = true) (hb0 : 0 < base) (hbw : base ≤ w0.heap.size) :
    CallsV Tryz.prog 135 [.agg #[.int .i64 r.rest, .int .i64 r.span, .int .i64 r.work, .int .i64 r.week, .int .i64 r.ww], .agg #[.int .i64 f, .int .i64 u, .slice ap np cp, .slice ad nd cd, .slice al l.length cl], .agg #[.int .i64 x.r, .int .i64 x.t.bl, .int .i64 x.t.bh, .int .i64 x.t.el, .int .i64 x.t.eh, .int .i64 x.h, .int .i64 x.p]] w0 (fun v w' => (∃ ao g c xs, v = .tuple #[.agg #[.int .i64 f, .int .i64 u, .slice ap np cp, .slice ad nd cd, .slice ao (List.length xs) c], .bool (canB r f u l x)] ∧ xs = canT f u l x ∧ Acc encSp 2 180 base w' ao g c xs ∧ (winM f u x = true → base ≤ g → w0.heap.size ≤ g)) ∧ Ext w0 w') := by
 refine f_n func135 ?_
 refine go ?_
 refine x_b fun bk2 w3 ebk2 sbk2 B4 u5 => ?_
 refine x_b fun bk7 w8 ebk7 sbk7 B9 u10 => ?_
 refine x_b fun bk12 w13 ebk12 sbk12 B14 u15 => ?_
 refine x_n fun bk17 w18 ebk17 sbk17 B19 u20 => ?_
 refine go ?_
 refine x_c func65 rfl rfl (longest_c x.t _) ?_
 rintro _ w24 ⟨rfl, u25⟩ zu25
 refine x_n fun bk28 w29 ebk28 sbk28 B30 u31 => ?_
 refine x_s fun w33 sw33 B35 u34 => ?_
 have E36 := Sc.mk ((((((((Upd.refl (fun _ => False) w0).nx u5).nx u10).nx u15).nx u20).nx u25).nx u31).next u34 (fun i hi h => by omega))
 refine go ?_
 refine t_splitp 18 rfl (fun g18 => ?_) (fun g18 => ?_)
 ·
  refine go ?_
  refine x_s fun w40 sw40 B42 u41 => ?_
  refine go ?_
  refine f_ret2 (v1 := .agg #[.int .i64 f, .int .i64 u, .slice ap np cp, .slice ad nd cd, .slice al l.length cl]) (v2 := .bool false) results135 ⟨_, _, rfl, run_loadVarN (vs := [.int .i64 f, .int .i64 u, .slice ap np cp, .slice ad nd cd, .slice al l.length cl]) isAgg269 sizeOf269 rfl (B42.at.sub 0 5)⟩ rfl ?_
  have hwn : winM f u x = false := by unfold winM; simp only [decide_eq_false_iff_not]; show ¬ (f ≤ x.t.bl ∧ x.t.eh ≤ u); have e1 : (lngS x.t).b = x.t.bl := rfl; have e2 : (lngS x.t).e = x.t.eh := rfl; omega
  exact ⟨⟨al, gl, cl, l, by unfold canB; rw [hwn]; rfl, by unfold canT; rw [hwn]; rfl, (hl.keep (E36.u.next u41 (fun i hi h => by omega)) (fun _ h => h)), fun h => by rw [hwn] at h; cases h⟩, u_d⟩
 refine go ?_
 refine q_p (fun g25 => ?_) fun g25 => ?_
 ·
  refine go ?_
  refine x_s fun w45 sw45 B47 u46 => ?_
  refine go ?_
  refine f_ret2 (v1 := .agg #[.int .i64 f, .int .i64 u, .slice ap np cp, .slice ad nd cd, .slice al l.length cl]) (v2 := .bool false) results135 ⟨_, _, rfl, run_loadVarN (vs := [.int .i64 f, .int .i64 u, .slice ap np cp, .slice ad nd cd, .slice al l.length cl]) isAgg269 sizeOf269 rfl (B47.at.sub 0 5)⟩ rfl ?_
  have hwn : winM f u x = false := by unfold winM; simp only [decide_eq_false_iff_not]; show ¬ (f ≤ x.t.bl ∧ x.t.eh ≤ u); have e1 : (lngS x.t).b = x.t.bl := rfl; have e2 : (lngS x.t).e = x.t.eh := rfl; omega
  exact ⟨⟨al, gl, cl, l, by unfold canB; rw [hwn]; rfl, by unfold canT; rw [hwn]; rfl, (hl.keep (E36.u.next u46 (fun i hi h => by omega)) (fun _ h => h)), fun h => by rw [hwn] at h; cases h⟩, u_d⟩
 refine go ?_
 refine x_c func64 rfl rfl (with_c l al gl 0 cl (lngS x.t) _ ((hl.keep E36.u (fun _ h => h)).sl (fun _ => rfl)) (by omega) hs (by omega)) ?_
 rintro _ w52 ⟨⟨aoW50, gW50, cW50, rfl, haW50⟩, u53⟩ zu53
 have lt_gW50 := haW50.lt
 refine go ?_
 refine x_s fun w56 sw56 B58 u57 => ?_
 refine go ?_
 refine c_drawnM follows (fun i => i = bk17) (OTl [0, 2, 4, 6, 9, 11, 12]) (by kernel_rfl) fun w61 u62 => ?_
 have zu62 := u62.size
 refine go ?_
 have D64 := ((haW50.keep u57 (fun hb => show ¬ (gW50 = bk7) by first | omega | assumption)).keep u62 (fun _ h => h))
 refine x_c func61 rfl rfl (keeps_c r (insS (lngS x.t) l) aoW50 gW50 0 cW50 _ (D64.sl (fun _ => rfl)) (by rw [ins_len]; omega) (ins_ok (leg_sp hx) hok) hr) ?_
 rintro _ w66 ⟨rfl, u67⟩ zu67
 refine go ?_
 refine x_s fun w70 sw70 B72 u71 => ?_
 refine go ?_
 refine f_ret2 (v1 := .agg #[.int .i64 f, .int .i64 u, .slice ap np cp, .slice ad nd cd, .slice aoW50 ((insS (lngS x.t) l).length) cW50]) (v2 := .bool (decide (brokP r (insS (lngS x.t) l) = 0))) results135 ⟨_, _, rfl, run_loadVarN (vs := [.int .i64 f, .int .i64 u, .slice ap np cp, .slice ad nd cd, .slice aoW50 ((insS (lngS x.t) l).length) cW50]) isAgg269 sizeOf269 rfl (B72.at.sub 0 5)⟩ rfl ?_
 have D74 := ((D64.keep u67 (fun _ h => h)).keep u71 (fun hb => show ¬ (gW50 = bk17) by first | omega | assumption))
 have hwn : winM f u x = true := by unfold winM; simp only [decide_eq_true_eq]; show f ≤ x.t.bl ∧ x.t.eh ≤ u; have e1 : (lngS x.t).b = x.t.bl := rfl; have e2 : (lngS x.t).e = x.t.eh := rfl; omega
 obtain ⟨g9, hac9, hfr9⟩ := (D74).lower' (base' := base) (by omega) hb0
 exact ⟨⟨_, g9, _, _, by unfold canB; rw [hwn]; rfl, by unfold canT; rw [hwn]; rfl, hac9, fun _ h => by have := hfr9 h; omega⟩, u_d⟩
theorem plt1_c (p : Ppr) (x : Leg) (b : Nat) (w0 : World) (hb : Blk w0 b 79 (encLeg x)) :
    CallsV Tryz.prog 193 [.agg #[.int .i64 p.r, .int .i64 p.u], .pointer (some ⟨b, 0, none⟩)] w0 (fun v w' => v = .bool (decide (p.r = x.r ∧ x.t.eh ≤ p.u)) ∧ Ext w0 w') := by
 refine f_n func193 ?_
 refine go ?_
 refine x_b fun bk2 w3 ebk2 sbk2 B4 u5 => ?_
 refine go ?_
 refine t_splitp 9 rfl (fun g9 => ?_) (fun g9 => ?_)
 ·
  refine go ?_
  refine f_1 results193 ?_
  exact ⟨congrArg Value.bool (by rw [Bool.eq_iff_iff]; simp only [decide_eq_true_eq] <;> grind), u_d⟩
 refine go ?_
 refine f_1 results193 ?_
 exact ⟨congrArg Value.bool (by rw [Bool.eq_iff_iff]; simp only [decide_eq_true_eq] <;> grind), u_d⟩
theorem pilots_c (f u : Int) (ps : List Ppr) (ap : Option Addr) (bp op cp : Nat) (ad : Option Addr) (nd cd : Nat) (at_ : Option Addr) (nt ct : Nat) (x : Leg) (w0 : World) (hp : Sl encPpr 2 w0 ap bp op ps) (hpl : ps.length ≤ 1000000) :
    CallsV Tryz.prog 136 [.agg #[.int .i64 f, .int .i64 u, .slice ap ps.length cp, .slice ad nd cd, .slice at_ nt ct], .agg #[.int .i64 x.r, .int .i64 x.t.bl, .int .i64 x.t.bh, .int .i64 x.t.el, .int .i64 x.t.eh, .int .i64 x.h, .int .i64 x.p]] w0 (fun v w' => v = .bool (pltP ps x) ∧ Ext w0 w') := by
 refine f_n func136 ?_
 refine go ?_
 refine x_b fun bk2 w3 ebk2 sbk2 B4 u5 => ?_
 refine x_b fun bk7 w8 ebk7 sbk7 B9 u10 => ?_
 refine go ?_
 refine t_mkfunc (vs := []) (us := [.pointer (some ⟨bk7, 0, none⟩)]) rfl rfl rfl rfl ?_
 refine x_c func182 rfl rfl (containsP_c encPpr (fun _ => rfl) (fun p => decide (p.r = x.r ∧ x.t.eh ≤ p.u)) 193 [.pointer (some ⟨bk7, 0, none⟩)] ps ap bp op cp _ own193 (fun p _ w v => plt1_c p x bk7 w (B9.keep v (fun h => h))) (hp.keep (((Upd.refl (fun _ => False) w0).nx u5).nx u10) (fun _ h => h)) hpl) ?_
 rintro _ w14 ⟨rfl, u15⟩ zu15
 refine go ?_
 refine f_1 results136 ?_
 exact ⟨rfl, u_d⟩

end Go.Proofs.YtclinbbghnebaaaGreat
