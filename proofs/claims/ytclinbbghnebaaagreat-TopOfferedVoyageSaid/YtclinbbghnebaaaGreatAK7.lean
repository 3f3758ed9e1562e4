/-
  Part 7 of the proof: contracts and plain laws. Conditions: none.
-/
import Derived.Test.YtclinbbghnebaaaGreatAK6
namespace Go.Proofs.YtclinbbghnebaaaGreat
open Go Go.RowKit Go.Proofs.Tryz
set_option maxRecDepth 10000

theorem upG_len {α β : Type} [DecidableEq α] (m : List (α × β)) (a : α) (v : β) : (upG m a v).length ≤ m.length + 1 := by
  unfold upG
  split
  · simp
  · rw [List.length_set]; omega
theorem laS_len (l : List Msg) : ∀ k, (laS l k).length ≤ k
  | 0 => Nat.le_refl _
  | k + 1 => by
    have := laS_len l k
    have := upG_len (laS l k) (keK (nth l k)) (nth l k)
    unfold laS
    split <;> omega
abbrev notWd (m : Msg) : Bool := decide (m.k ≠ 7)
theorem rd_yes {out : List Msg} {l1 l2 : List ((Int × Int) × Msg)} {p : (Int × Int) × Msg} (h : p.2.k ≠ 7) : ((out ++ [p.2]) ++ ((l1 ++ l2).map (·.2)).filter notWd).Perm (out ++ ((l1 ++ p :: l2).map (·.2)).filter notWd) := by
  rw [List.append_assoc]
  refine List.Perm.append_left out ?_
  have e : notWd p.2 = true := decide_eq_true h
  simp only [List.map_append, List.map_cons, List.filter_append, List.filter_cons, e, if_true]
  rw [List.singleton_append]
  exact List.perm_middle.symm
theorem rd_no {out : List Msg} {l1 l2 : List ((Int × Int) × Msg)} {p : (Int × Int) × Msg} (h : ¬ p.2.k ≠ 7) : out ++ ((l1 ++ l2).map (·.2)).filter notWd = out ++ ((l1 ++ p :: l2).map (·.2)).filter notWd := by
  have e : notWd p.2 = false := decide_eq_false h
  simp [e]
theorem own209 : Own Tryz.prog 209 := ⟨Tryz.f209, func209, by kernel_rfl, by kernel_rfl⟩
theorem own92 : Own Tryz.prog 92 := ⟨Tryz.f92, func92, by kernel_rfl, by kernel_rfl⟩
theorem read2_ok : CmpOk Tryz.prog 169 encMsg cmpF := fun x y W => by
  refine Calls.mono (read2_c x y W) ?_
  rintro e w' ⟨v, rfl, ⟨rfl, hg⟩, _⟩
  exact ⟨rfl, hg.grow⟩

theorem sortFa_c (xs : List Msg) (ao : Option Addr) (gb cp base : Nat) (w0 : World) (ha : Acc encMsg 6 135 base w0 ao gb cp xs) (hl : xs.length ≤ 100000) :
    CallsV Tryz.prog 168 [.slice ao xs.length cp, .func (.func 169) #[] #[]] w0 (fun v w' => (v = .tuple #[] ∧ ∃ ys, ys.Perm xs ∧ Asc cmpF ys ∧ Acc encMsg 6 135 base w' ao gb cp ys) ∧ Upd (fun i => i = gb ∧ base ≤ i) w0 w') := by
 have hgl := ha.lt
 refine f_n func168 ?_
 refine go ?_
 refine t_conv underlying3 underlying213 rfl rfl rfl (IntWalk.u64_in _ (by omega)) (t_call own92 rfl rfl rfl rfl (len_c (ρ := YtclinbbghnebaaaGreat.sortQ_ren) YtclinbbghnebaaaGreat.sortQ xs.length (by omega) _) (fun v2 w3 r5 => ?_))
 obtain ⟨kL, rfl, hkL, u4⟩ := r5
 have zu4 := u4.size
 refine go ?_
 have D7 := (ha.keep u4 (fun _ h => h))
 refine t_call own209 rfl rfl rfl rfl (pdq_c (ρ := YtclinbbghnebaaaGreat.sortQ_ren) YtclinbbghnebaaaGreat.sortQ 6 (by decide) isAgg135 sizeOf135 encMsg (fun _ => rfl) (by intro x; simp [encMsg, Value.oneCell']) cmpF cmpF_swo 169 own169 read2_ok 135 base ao gb cp xs kL hkL _ D7 (by omega)) (fun v8 w9 r11 => ?_)
 obtain ⟨ys, hperm, hasc, hacY, u10, rfl⟩ := r11
 have zu10 := u10.size
 have lt_gb := hacY.lt
 refine go ?_
 refine f_ret0 results168 ?_
 exact ⟨⟨rfl, ys, hperm, hasc, hacY⟩, u_d⟩

set_option maxHeartbeats 4000000 in
theorem read_c (l : List Msg) (al : Option Addr) (bl ol cl : Nat) (w0 : World) (hl : Sl encMsg 6 w0 al bl ol l) (hll : l.length ≤ 1000000) (hpos : 0 < w0.heap.size) :
    CallsV Tryz.prog 96 [.slice al l.length cl] w0 (fun v w' => (∃ out ao g cp e, v = .tuple #[.slice ao (List.length out) cp, .int .i64 e] ∧ Acc encMsg 6 135 w0.heap.size w' ao g cp out ∧ RdR l out e) ∧ Ext w0 w') := by
 refine f_n func96 ?_
 refine go ?_
 refine q_p (fun g15 => ?_) fun g15 => ?_
 ·
  refine go ?_
  refine f_ret2 (v1 := .slice none 0 0) (v2 := .int .i64 5) results96 rfl rfl ?_
  have hE : rdE l = 5 := if_pos (by omega)
  exact ⟨⟨[], none, 0, 0, 5, rfl, Acc.nil _ _ _ _ _ hpos (by omega), .inl ⟨by rw [hE]; decide, hE.symm, rfl⟩⟩, u_d⟩
 refine go ?_
 refine x_c func97 rfl rfl (containsM_c encMsg (fun _ => rfl) (fun x => !okMsg x) 165 [] l al bl ol cl _ own165 (fun x _ w _ => badMsg_c x w) hl hll) ?_
 rintro _ w7 ⟨rfl, u8⟩ zu8
 refine go ?_
 refine q_b (fun g19 => ?_) fun g19 => ?_
 ·
  refine go ?_
  refine f_ret2 (v1 := .slice none 0 0) (v2 := .int .i64 2) results96 rfl rfl ?_
  have hE : rdE l = 2 := by unfold rdE; rw [if_neg (by omega), if_pos g19]
  exact ⟨⟨[], none, 0, 0, 2, rfl, Acc.nil _ _ _ _ _ hpos (by omega), .inl ⟨by rw [hE]; decide, hE.symm, rfl⟩⟩, u_d⟩
 have hE0 : rdE l = 0 := by unfold rdE; rw [if_neg (by omega), if_neg (by rw [g19]; exact Bool.false_ne_true)]
 refine go ?_
 refine t_makemap rfl rfl (fun bk13 w14 ebk13 sbk13 M15 u16 => ?_)
 have zu16 := u16.size
 refine t_makemap rfl rfl (fun bk18 w19 ebk18 sbk18 M20 u21 => ?_)
 have zu21 := u21.size
 refine go ?_
 refine x_l1 (fun i => i = bk13 ∨ i = bk18) [4, 5, 24, 25] (fun (k : Nat) => [(2, .slice none 0 0), (26, .int .i64 (k : Int))]) (fun k w => (k ≤ l.length) ∧ (MapG cd3 (edS l k) w bk13) ∧ (MapG cd2 (laS l k) w bk18) ∧ (∀ j, j < k → ¬ edErr l j)) (fun k => l.length - k) 0 ⟨(Nat.zero_le _), ((MapG.ofMemo M15).keep u21 (fun h => h)), (MapG.ofMemo M20), (fun j h => absurd h (Nat.not_lt_zero j))⟩ ?_
 rintro k w26 ⟨hk, hm3, hm2, hne⟩ u27 zu27 K25 hK25
 have hm3l := hm3.lt
 have hm2l := hm2.lt
 refine go ?_
 refine q_p (fun g27 => ?_) fun g27 => ?_
 ·
  refine go ?_
  refine g_i k (hl.keep (((((Upd.refl (fun _ => False) w0).nx u8).nx u16).nx u21).next u27 (fun i hi h => by omega)) (fun _ h => h)) (fun _ => ?_)
  refine go ?_
  refine x_n fun bk34 w35 ebk34 sbk34 B36 u37 => ?_
  refine x_s fun w39 sw39 B41 u40 => ?_
  refine go ?_
  refine x_c func167 rfl rfl (of_c (nth l k) _) ?_
  rintro _ w45 ⟨rfl, u46⟩ zu46
  refine x_n fun bk49 w50 ebk49 sbk49 B51 u52 => ?_
  refine x_s fun w54 sw54 B56 u55 => ?_
  refine go ?_
  have D60 := (((((hm3.keep u37 (fun h => h)).keep u40 (show ¬ (bk13 = bk34) by omega)).keep u46 (fun h => h)).keep u52 (fun h => h)).keep u55 (show ¬ (bk13 = bk49) by omega))
  refine t_lookG (cd := cd3) (a := edK (nth l k)) (m := edS l k) (z := .agg #[.int .i64 0, .int .i64 0, .int .i64 0, .int .i64 0, .int .i64 0, .int .i64 0]) key3_ok underlying315 zeroValue135 rfl rfl rfl rfl D60 (fun hq35 => ?_) (fun o3 hq35 => ?_)
  ·
   iterate 2 refine st1 ?_
   refine t_same 36 (v := .agg #[.int .i64 0, .int .i64 0, .int .i64 0, .int .i64 0, .int .i64 0, .int .i64 0]) rfl rfl ?_
   refine go ?_
   refine x_n fun bk61 w62 ebk61 sbk61 B63 u64 => ?_
   refine x_s fun w66 sw66 B68 u67 => ?_
   refine go ?_
   have D75 := ((D60.keep u64 (fun h => h)).keep u67 (show ¬ (bk13 = bk61) by omega))
   refine t_mapG (cd := cd3) (a := edK (nth l k)) (v := (nth l k)) (m := edS l k) key3_ok underlying315 rfl rfl rfl rfl D75 (fun w72 sw72 M73 u74 => ?_)
   refine go ?_
   have D78 := ((((((((hm2.keep u37 (fun h => h)).keep u40 (show ¬ (bk18 = bk34) by omega)).keep u46 (fun h => h)).keep u52 (fun h => h)).keep u55 (show ¬ (bk18 = bk49) by omega)).keep u64 (fun h => h)).keep u67 (show ¬ (bk18 = bk61) by omega)).keep u74 (show ¬ (bk18 = bk13) by omega))
   refine t_lookG (cd := cd2) (a := keK (nth l k)) (m := laS l k) (z := .agg #[.int .i64 0, .int .i64 0, .int .i64 0, .int .i64 0, .int .i64 0, .int .i64 0]) key2_ok underlying316 zeroValue135 rfl rfl rfl rfl D78 (fun hq51 => ?_) (fun o2 hq51 => ?_)
   ·
    iterate 2 refine st1 ?_
    refine t_same 52 (v := .agg #[.int .i64 0, .int .i64 0, .int .i64 0, .int .i64 0, .int .i64 0, .int .i64 0]) rfl rfl ?_
    refine go ?_
    refine x_n fun bk79 w80 ebk79 sbk79 B81 u82 => ?_
    refine x_s fun w84 sw84 B86 u85 => ?_
    refine go ?_
    have D92 := ((D78.keep u82 (fun h => h)).keep u85 (show ¬ (bk18 = bk79) by omega))
    refine t_mapG (cd := cd2) (a := keK (nth l k)) (v := (nth l k)) (m := laS l k) key2_ok underlying316 rfl rfl rfl rfl D92 (fun w89 sw89 M90 u91 => ?_)
    refine go ?_
    have D94 := (((M73.keep u82 (fun h => h)).keep u85 (show ¬ (bk13 = bk79) by omega)).keep u91 (show ¬ (bk13 = bk18) by omega))
    exact hK25 (k + 1) ⟨(by omega), D94, (by rw [laS, if_pos (by unfold laOld; rw [hq51])]; exact M90), (fun j h => (Nat.lt_succ_iff_lt_or_eq.1 h).elim (hne j) (fun e => e ▸ (show ¬ edErr l k from (fun ⟨o, h1, _⟩ => by rw [hq35] at h1; cases h1))))⟩
   iterate 2 refine st1 ?_
   refine t_same 52 (v := .agg #[.int .i64 o2.c, .int .i64 o2.n, .int .i64 o2.r, .int .i64 o2.k, .int .i64 o2.m, .int .i64 o2.v]) rfl rfl ?_
   refine go ?_
   refine x_n fun bk95 w96 ebk95 sbk95 B97 u98 => ?_
   refine x_s fun w100 sw100 B102 u101 => ?_
   refine go ?_
   refine q_p (fun g62 => ?_) fun g62 => ?_
   ·
    refine go ?_
    have D108 := ((D78.keep u98 (fun h => h)).keep u101 (show ¬ (bk18 = bk95) by omega))
    refine t_mapG (cd := cd2) (a := keK (nth l k)) (v := (nth l k)) (m := laS l k) key2_ok underlying316 rfl rfl rfl rfl D108 (fun w105 sw105 M106 u107 => ?_)
    refine go ?_
    have D110 := (((M73.keep u98 (fun h => h)).keep u101 (show ¬ (bk13 = bk95) by omega)).keep u107 (show ¬ (bk13 = bk18) by omega))
    exact hK25 (k + 1) ⟨(by omega), D110, (by rw [laS, if_pos (by unfold laOld; rw [hq51]; exact decide_eq_true g62)]; exact M106), (fun j h => (Nat.lt_succ_iff_lt_or_eq.1 h).elim (hne j) (fun e => e ▸ (show ¬ edErr l k from (fun ⟨o, h1, _⟩ => by rw [hq35] at h1; cases h1))))⟩
   refine go ?_
   have D111 := ((D78.keep u98 (fun h => h)).keep u101 (show ¬ (bk18 = bk95) by omega))
   have D112 := ((M73.keep u98 (fun h => h)).keep u101 (show ¬ (bk13 = bk95) by omega))
   exact hK25 (k + 1) ⟨(by omega), D112, (by rw [laS, if_neg (by unfold laOld; rw [hq51]; simpa using g62)]; exact D111), (fun j h => (Nat.lt_succ_iff_lt_or_eq.1 h).elim (hne j) (fun e => e ▸ (show ¬ edErr l k from (fun ⟨o, h1, _⟩ => by rw [hq35] at h1; cases h1))))⟩
  iterate 2 refine st1 ?_
  refine t_same 36 (v := .agg #[.int .i64 o3.c, .int .i64 o3.n, .int .i64 o3.r, .int .i64 o3.k, .int .i64 o3.m, .int .i64 o3.v]) rfl rfl ?_
  refine go ?_
  refine x_n fun bk113 w114 ebk113 sbk113 B115 u116 => ?_
  refine x_s fun w118 sw118 B120 u119 => ?_
  refine go ?_
  refine t_neS (xs := [.int .i64 o3.c, .int .i64 o3.n, .int .i64 o3.r, .int .i64 o3.k, .int .i64 o3.m, .int .i64 o3.v]) (ys := [.int .i64 ((nth l k).c), .int .i64 ((nth l k).n), .int .i64 ((nth l k).r), .int .i64 ((nth l k).k), .int .i64 ((nth l k).m), .int .i64 ((nth l k).v)]) (by kernel_rfl) (eqIn135 9998 o3.c o3.n o3.r o3.k o3.m o3.v ((nth l k).c) ((nth l k).n) ((nth l k).r) ((nth l k).k) ((nth l k).m) ((nth l k).v)) rfl rfl rfl rfl ?_
  refine go ?_
  refine q_b (fun g43 => ?_) fun g43 => ?_
  ·
   have hoe : o3 ≠ (nth l k) := fun e => by subst e; simp at g43
   refine go ?_
   refine f_ret2 (v1 := .slice none 0 0) (v2 := .int .i64 6) results96 rfl rfl ?_
   exact ⟨⟨[], none, 0, 0, 6, rfl, Acc.nil _ _ _ _ _ hpos (by omega), .inr (.inl ⟨hE0, rfl, rfl, k, by omega, o3, hq35, hoe⟩)⟩, u_d⟩
  have hoe : o3 = (nth l k) := Msg.eq6 (by simpa [and_assoc] using g43)
  refine go ?_
  have D128 := ((D60.keep u116 (fun h => h)).keep u119 (show ¬ (bk13 = bk113) by omega))
  refine t_mapG (cd := cd3) (a := edK (nth l k)) (v := (nth l k)) (m := edS l k) key3_ok underlying315 rfl rfl rfl rfl D128 (fun w125 sw125 M126 u127 => ?_)
  refine go ?_
  have D131 := ((((((((hm2.keep u37 (fun h => h)).keep u40 (show ¬ (bk18 = bk34) by omega)).keep u46 (fun h => h)).keep u52 (fun h => h)).keep u55 (show ¬ (bk18 = bk49) by omega)).keep u116 (fun h => h)).keep u119 (show ¬ (bk18 = bk113) by omega)).keep u127 (show ¬ (bk18 = bk13) by omega))
  refine t_lookG (cd := cd2) (a := keK (nth l k)) (m := laS l k) (z := .agg #[.int .i64 0, .int .i64 0, .int .i64 0, .int .i64 0, .int .i64 0, .int .i64 0]) key2_ok underlying316 zeroValue135 rfl rfl rfl rfl D131 (fun hq51 => ?_) (fun o2 hq51 => ?_)
  ·
   iterate 2 refine st1 ?_
   refine t_same 52 (v := .agg #[.int .i64 0, .int .i64 0, .int .i64 0, .int .i64 0, .int .i64 0, .int .i64 0]) rfl rfl ?_
   refine go ?_
   refine x_n fun bk132 w133 ebk132 sbk132 B134 u135 => ?_
   refine x_s fun w137 sw137 B139 u138 => ?_
   refine go ?_
   have D145 := ((D131.keep u135 (fun h => h)).keep u138 (show ¬ (bk18 = bk132) by omega))
   refine t_mapG (cd := cd2) (a := keK (nth l k)) (v := (nth l k)) (m := laS l k) key2_ok underlying316 rfl rfl rfl rfl D145 (fun w142 sw142 M143 u144 => ?_)
   refine go ?_
   have D147 := (((M126.keep u135 (fun h => h)).keep u138 (show ¬ (bk13 = bk132) by omega)).keep u144 (show ¬ (bk13 = bk18) by omega))
   exact hK25 (k + 1) ⟨(by omega), D147, (by rw [laS, if_pos (by unfold laOld; rw [hq51])]; exact M143), (fun j h => (Nat.lt_succ_iff_lt_or_eq.1 h).elim (hne j) (fun e => e ▸ (show ¬ edErr l k from (fun ⟨o, h1, h2⟩ => by rw [hq35] at h1; cases h1; exact h2 hoe))))⟩
  iterate 2 refine st1 ?_
  refine t_same 52 (v := .agg #[.int .i64 o2.c, .int .i64 o2.n, .int .i64 o2.r, .int .i64 o2.k, .int .i64 o2.m, .int .i64 o2.v]) rfl rfl ?_
  refine go ?_
  refine x_n fun bk148 w149 ebk148 sbk148 B150 u151 => ?_
  refine x_s fun w153 sw153 B155 u154 => ?_
  refine go ?_
  refine q_p (fun g62 => ?_) fun g62 => ?_
  ·
   refine go ?_
   have D161 := ((D131.keep u151 (fun h => h)).keep u154 (show ¬ (bk18 = bk148) by omega))
   refine t_mapG (cd := cd2) (a := keK (nth l k)) (v := (nth l k)) (m := laS l k) key2_ok underlying316 rfl rfl rfl rfl D161 (fun w158 sw158 M159 u160 => ?_)
   refine go ?_
   have D163 := (((M126.keep u151 (fun h => h)).keep u154 (show ¬ (bk13 = bk148) by omega)).keep u160 (show ¬ (bk13 = bk18) by omega))
   exact hK25 (k + 1) ⟨(by omega), D163, (by rw [laS, if_pos (by unfold laOld; rw [hq51]; exact decide_eq_true g62)]; exact M159), (fun j h => (Nat.lt_succ_iff_lt_or_eq.1 h).elim (hne j) (fun e => e ▸ (show ¬ edErr l k from (fun ⟨o, h1, h2⟩ => by rw [hq35] at h1; cases h1; exact h2 hoe))))⟩
  refine go ?_
  have D164 := ((D131.keep u151 (fun h => h)).keep u154 (show ¬ (bk18 = bk148) by omega))
  have D165 := ((M126.keep u151 (fun h => h)).keep u154 (show ¬ (bk13 = bk148) by omega))
  exact hK25 (k + 1) ⟨(by omega), D165, (by rw [laS, if_neg (by unfold laOld; rw [hq51]; simpa using g62)]; exact D164), (fun j h => (Nat.lt_succ_iff_lt_or_eq.1 h).elim (hne j) (fun e => e ▸ (show ¬ edErr l k from (fun ⟨o, h1, h2⟩ => by rw [hq35] at h1; cases h1; exact h2 hoe))))⟩
 obtain rfl : k = l.length := by omega
 have hlal := laS_len l l.length
 refine go ?_
 refine t_rangeG (cd := cd2) underlying316 rfl rfl rfl hm2 (fun it171 w168 eit171 sit171 J170 u169 => ?_)
 have zu169 := u169.size
 refine go ?_
 refine x_l5 (fun i => i = it171 ∨ w168.heap.size ≤ i) [69] (fun (left : List ((Int × Int) × Msg)) (out : List Msg) (ao : Option Addr) (gx : Nat) (co : Nat) => [(2, .slice ao out.length co)]) (fun left out ao gx co w => (ItG cd2 (laS l l.length) left w bk18 it171) ∧ ((out ++ ((left.map (·.2)).filter notWd)).Perm (((laS l l.length).map (·.2)).filter notWd)) ∧ (Acc encMsg 6 135 w168.heap.size w ao gx co out)) (fun left out ao gx co => left.length) (laS l l.length) ([]) none 0 0 ⟨J170, (List.Perm.refl _), (Acc.nil _ _ _ _ _ (by omega) (by omega))⟩ ?_
 rintro left out ao gx co w174 ⟨hit, hpm, hout⟩ u175 zu175 K173 hK173
 have lt_gx := hout.lt
 have holn : out.length ≤ 100 := by
   have h1 := hpm.length_eq
   rw [List.length_append] at h1
   have h2 := List.length_filter_le notWd ((laS l l.length).map (·.2))
   rw [List.length_map] at h2
   omega
 refine go ?_
 refine t_nextG rfl rfl rfl hit (fun hlf => ?_) (fun l1 p l2 w178 hlf sw178 N180 u179 => ?_)
 ·
  refine go ?_
  refine x_c func168 rfl rfl (sortFa_c out ao gx co w168.heap.size _ hout (by omega)) ?_
  rintro _ w184 ⟨⟨rfl, ys, hysp, hysa, hys⟩, u185⟩ zu185
  have hysl := hysp.length_eq
  have lt_gx := hys.lt
  refine go ?_
  refine f_ret2 (v1 := .slice ao out.length co) (v2 := .int .i64 0) results96 rfl rfl ?_
  subst hlf
  have hpm2 : ys.Perm (((laS l l.length).map (·.2)).filter notWd) := hysp.trans (by simpa using hpm)
  obtain ⟨gz, hz⟩ := Acc.lower (base' := w0.heap.size) hys (by omega) hpos
  exact ⟨⟨ys, _, gz, _, 0, by rw [hysl], hz, .inr (.inr ⟨hE0, rfl, hne, hpm2, hysa⟩)⟩, u_d⟩
 refine go ?_
 refine t_entryG rfl rfl rfl N180 (st1 (t_same 73 (v := .agg #[.int .i64 p.2.c, .int .i64 p.2.n, .int .i64 p.2.r, .int .i64 p.2.k, .int .i64 p.2.m, .int .i64 p.2.v]) rfl rfl ?_))
 refine x_n fun bk192 w193 ebk192 sbk192 B194 u195 => ?_
 refine x_s fun w197 sw197 B199 u198 => ?_
 refine go ?_
 refine q_p (fun g76 => ?_) fun g76 => ?_
 ·
  refine go ?_
  refine x_l fun bk202 w203 ebk202 sbk202 B204 u205 => ?_
  have D207 := ((((hout.keep u179 (fun hb => show ¬ (gx = it171) by first | omega | assumption)).keep u195 (fun _ h => h)).keep u198 (fun hb => show ¬ (gx = bk192) by first | omega | assumption)).keep u205 (fun _ h => h))
  refine t_append (z := .agg #[.int .i64 0, .int .i64 0, .int .i64 0, .int .i64 0, .int .i64 0, .int .i64 0]) (bytes := 48) (k := 6) (base := w168.heap.size) p.2 underlying216 (by kernel_rfl) rfl (by decide) (fun _ => rfl) (by intro x; simp [encMsg, Value.oneCell']) rfl rfl rfl rfl D207 B204 (by omega) (by omega) (by decide) (fun ao208 gb209 cp210 w211 A212 u213 gegb209 lngb209 => ?_)
  have zu213 := u213.size
  have lt_gb209 := A212.lt
  refine go ?_
  have D215 := ((((N180.1.keep u195 (fun h => h) (fun h => h)).keep u198 (show ¬ (bk18 = bk192) by omega) (show ¬ (it171 = bk192) by omega)).keep u205 (fun h => h) (fun h => h)).keep u213 (show ¬ ((bk18 = gx ∧ w168.heap.size ≤ bk18)) by omega) (show ¬ ((it171 = gx ∧ w168.heap.size ≤ it171)) by omega))
  exact hK173 (l1 ++ l2) (out ++ [p.2]) ao208 gb209 cp210 ⟨D215, ((rd_yes g76).trans (by rw [← hlf]; exact hpm)), A212⟩ (hm := (by show (l1 ++ l2).length < left.length; rw [hlf, List.length_append, List.length_append, List.length_cons]; omega)) (hu := (((((u175.next u179 (fun i hi (h : i = it171) => show i = it171 ∨ w168.heap.size ≤ i by first | omega | assumption)).nx u195).next u198 (fun i hi (h : i = bk192) => show i = it171 ∨ w168.heap.size ≤ i by first | omega | assumption)).nx u205).next u213 (fun i hi (h : (i = gx ∧ w168.heap.size ≤ i)) => show i = it171 ∨ w168.heap.size ≤ i by first | omega | assumption)))
 refine go ?_
 have D216 := ((N180.1.keep u195 (fun h => h) (fun h => h)).keep u198 (show ¬ (bk18 = bk192) by omega) (show ¬ (it171 = bk192) by omega))
 have D217 := (((hout.keep u179 (fun hb => show ¬ (gx = it171) by first | omega | assumption)).keep u195 (fun _ h => h)).keep u198 (fun hb => show ¬ (gx = bk192) by first | omega | assumption))
 exact hK173 (l1 ++ l2) out ao gx co ⟨D216, (by rw [rd_no g76, ← hlf]; exact hpm), D217⟩ (hm := (by show (l1 ++ l2).length < left.length; rw [hlf, List.length_append, List.length_append, List.length_cons]; omega)) (hu := (((u175.next u179 (fun i hi (h : i = it171) => show i = it171 ∨ w168.heap.size ≤ i by first | omega | assumption)).nx u195).next u198 (fun i hi (h : i = bk192) => show i = it171 ∨ w168.heap.size ≤ i by first | omega | assumption)))


end Go.Proofs.YtclinbbghnebaaaGreat
namespace Go.Proofs.YtclinbbghnebaaaGreat
open Go Go.RowKit Go.Proofs.Tryz
set_option maxRecDepth 10000

/-- The first rows of a table of low water: one is not valid, or they do not ascend. -/
def lowK (ws : List Low) : Nat → Bool
  | 0 => ws.any fun x => !okLow x
  | k + 1 => lowK ws k || decide ((nth ws (k + 1)).b ≤ (nth ws k).b)
def okCh (c : Chr) (ws : List Low) : Bool := decide (lowK ws (ws.length - 1) = false ∧ ws.length ≤ 10 ∧ ((0 ≤ c.s ∧ c.s ≤ 99) ∧ (0 ≤ c.c ∧ c.c ≤ 99) ∧ (0 ≤ c.k ∧ c.k ≤ 99)) ∧ (0 ≤ c.r ∧ c.r ≤ 1000000) ∧ (0 ≤ c.n ∧ c.n ≤ 1000000) ∧ ((0 ≤ c.l ∧ c.l ≤ 100000) ∧ (0 ≤ c.o ∧ c.o ≤ 100000)) ∧ ((0 ≤ c.d ∧ c.d ≤ 100000000) ∧ (0 ≤ c.e ∧ c.e ≤ 100000000)) ∧ (0 ≤ c.m ∧ c.m ≤ 100))
def chkCh (c : Chr) (ws : List Low) : Int := if okCh c ws = true then 0 else 2
theorem CheckCharter_c (c : Chr) (ws : List Low) (aw : Option Addr) (bw ow cw : Nat) (w0 : World) (hws : Sl encLow 2 w0 aw bw ow ws) (hwl : ws.length ≤ 1000000) :
    CallsV Tryz.prog 94 [.agg #[.int .i64 c.s, .int .i64 c.c, .int .i64 c.k, .int .i64 c.r, .int .i64 c.n, .int .i64 c.l, .int .i64 c.o, .int .i64 c.d, .int .i64 c.e, .int .i64 c.m, .slice aw ws.length cw]] w0 (fun v w' => v = .int .i64 (chkCh c ws) ∧ Ext w0 w') := by
 refine f_n func94 ?_
 refine go ?_
 refine x_b fun bk2 w3 ebk2 sbk2 B4 u5 => ?_
 have E6 := Sc.mk ((Upd.refl (fun _ => False) w0).nx u5)
 refine go ?_
 refine x_c func161 rfl rfl (containsL_c encLow (fun _ => rfl) (fun x => !okLow x) 162 [] ws aw bw ow cw _ own162 (fun x _ w _ => badLow_c x w) (hws.keep E6.u (fun _ h => h)) hwl) ?_
 rintro _ w9 ⟨rfl, u10⟩ zu10
 refine go ?_
 refine x_l1 (fun _ => False) [1] (fun (k : Nat) => [(3, .bool (lowK ws k)), (4, .int .i64 ((k + 1 : Nat) : Int))]) (fun k w => (k + 1 ≤ ws.length ∨ k = 0)) (fun k => ws.length - k) 0 (.inr rfl) ?_
 rintro k w16 hk u17 zu17 K15 hK15
 refine go ?_
 refine q_p (fun g12 => ?_) fun g12 => ?_
 ·
  refine go ?_
  refine c_drawnM follows (fun _ => False) (OTl [0, 2, 4, 6, 8, 10, 12, 14, 16, 18, 20, 22, 24, 26, 28, 30, 32, 34]) (by kernel_rfl) fun w22 u23 => ?_
  have zu23 := u23.size
  have E24 := Sc.mk (((E6.u.nx u10).nx u17).nx u23)
  refine go ?_
  refine y_split 16 rfl (fun g16 => ?_) (fun g16 => ?_)
  ·
   refine go ?_
   exact hK15 (k + 1) (.inl (by omega)) (hs := by exact ⟨(congrArg (fun z => some (Value.bool z)) (by simp [lowK, g16])), rfl, rfl, trivial⟩)
  refine go ?_
  refine y_i k (hws.keep E24.u (fun _ h => h)) (fun _ => ?_) (hj := (by omega))
  refine go ?_
  refine y_i (k + 1 : Nat) (hws.keep E24.u (fun _ h => h)) (fun _ => ?_)
  refine go ?_
  exact hK15 (k + 1) (.inl (by omega)) (hs := by exact ⟨(congrArg (fun z => some (Value.bool z)) (by simp [lowK, g16])), rfl, rfl, trivial⟩)
 obtain rfl : k = ws.length - 1 := by omega
 refine go ?_
 refine t_split 33 rfl (fun g33 => ?_) (fun g33 => ?_)
 ·
  refine go ?_
  refine f_1 results94 ?_
  have hO : okCh c ws = false := by
    rw [Bool.eq_iff_iff]; simp only [okCh, decide_eq_true_eq] <;> grind
  exact ⟨congrArg (Value.int .i64) (by unfold chkCh; rw [hO]; rfl), u_d⟩
 refine go ?_
 refine t_splitp 39 rfl (fun g39 => ?_) (fun g39 => ?_)
 ·
  refine go ?_
  refine f_1 results94 ?_
  have hO : okCh c ws = false := by
    rw [Bool.eq_iff_iff]; simp only [okCh, decide_eq_true_eq] <;> grind
  exact ⟨congrArg (Value.int .i64) (by unfold chkCh; rw [hO]; rfl), u_d⟩
 refine go ?_
 refine x_l fun bk31 w32 ebk31 sbk31 B33 u34 => ?_
 refine x_c func46 rfl rfl (within3_v 0 99 c.s c.c c.k _ _ _ B33) ?_
 rintro _ w37 ⟨rfl, u38⟩ zu38
 refine go ?_
 refine t_splitp 50 rfl (fun g50 => ?_) (fun g50 => ?_)
 ·
  refine go ?_
  refine f_1 results94 ?_
  have hO : okCh c ws = false := by
    rw [Bool.eq_iff_iff]; simp only [okCh, decide_eq_true_eq] <;> grind
  exact ⟨congrArg (Value.int .i64) (by unfold chkCh; rw [hO]; rfl), u_d⟩
 refine go ?_
 refine x_l fun bk42 w43 ebk42 sbk42 B44 u45 => ?_
 refine x_c func46 rfl rfl (within1_v 0 1000000 c.r _ _ _ B44) ?_
 rintro _ w48 ⟨rfl, u49⟩ zu49
 refine go ?_
 refine t_splitp 57 rfl (fun g57 => ?_) (fun g57 => ?_)
 ·
  refine go ?_
  refine f_1 results94 ?_
  have hO : okCh c ws = false := by
    rw [Bool.eq_iff_iff]; simp only [okCh, decide_eq_true_eq] <;> grind
  exact ⟨congrArg (Value.int .i64) (by unfold chkCh; rw [hO]; rfl), u_d⟩
 refine go ?_
 refine x_l fun bk53 w54 ebk53 sbk53 B55 u56 => ?_
 refine x_c func46 rfl rfl (within1_v 0 1000000 c.n _ _ _ B55) ?_
 rintro _ w59 ⟨rfl, u60⟩ zu60
 refine go ?_
 refine t_splitp 64 rfl (fun g64 => ?_) (fun g64 => ?_)
 ·
  refine go ?_
  refine f_1 results94 ?_
  have hO : okCh c ws = false := by
    rw [Bool.eq_iff_iff]; simp only [okCh, decide_eq_true_eq] <;> grind
  exact ⟨congrArg (Value.int .i64) (by unfold chkCh; rw [hO]; rfl), u_d⟩
 refine go ?_
 refine x_l fun bk64 w65 ebk64 sbk64 B66 u67 => ?_
 refine x_c func46 rfl rfl (within2_v 0 100000 c.l c.o _ _ _ B66) ?_
 rintro _ w70 ⟨rfl, u71⟩ zu71
 refine go ?_
 refine t_splitp 73 rfl (fun g73 => ?_) (fun g73 => ?_)
 ·
  refine go ?_
  refine f_1 results94 ?_
  have hO : okCh c ws = false := by
    rw [Bool.eq_iff_iff]; simp only [okCh, decide_eq_true_eq] <;> grind
  exact ⟨congrArg (Value.int .i64) (by unfold chkCh; rw [hO]; rfl), u_d⟩
 refine go ?_
 refine x_l fun bk75 w76 ebk75 sbk75 B77 u78 => ?_
 refine x_c func46 rfl rfl (within2_v 0 100000000 c.d c.e _ _ _ B77) ?_
 rintro _ w81 ⟨rfl, u82⟩ zu82
 refine go ?_
 refine t_splitp 82 rfl (fun g82 => ?_) (fun g82 => ?_)
 ·
  refine go ?_
  refine f_1 results94 ?_
  have hO : okCh c ws = false := by
    rw [Bool.eq_iff_iff]; simp only [okCh, decide_eq_true_eq] <;> grind
  exact ⟨congrArg (Value.int .i64) (by unfold chkCh; rw [hO]; rfl), u_d⟩
 refine go ?_
 refine x_l fun bk86 w87 ebk86 sbk86 B88 u89 => ?_
 refine x_c func46 rfl rfl (within1_v 0 100 c.m _ _ _ B88) ?_
 rintro _ w92 ⟨rfl, u93⟩ zu93
 refine go ?_
 refine q_p (fun g88 => ?_) fun g88 => ?_
 ·
  refine go ?_
  refine f_1 results94 ?_
  have hO : okCh c ws = false := by
    rw [Bool.eq_iff_iff]; simp only [okCh, decide_eq_true_eq] <;> grind
  exact ⟨congrArg (Value.int .i64) (by unfold chkCh; rw [hO]; rfl), u_d⟩
 refine go ?_
 refine f_1 results94 ?_
 have hO : okCh c ws = true := by
   rw [Bool.eq_iff_iff]; simp only [okCh, decide_eq_true_eq] <;> grind
 exact ⟨congrArg (Value.int .i64) (by unfold chkCh; rw [hO]; rfl), u_d⟩

end Go.Proofs.YtclinbbghnebaaaGreat
namespace Go.Proofs.YtclinbbghnebaaaGreat
open Go Go.RowKit Go.Proofs.Tryz
set_option maxRecDepth 10000

/-- Two lists compared. -/
def cmpL : List Int → List Int → Int
  | [], [] => 0
  | [], _ :: _ => -1
  | _ :: _, [] => 1
  | a :: x, b :: y => if cmpI3 a b ≠ 0 then cmpI3 a b else cmpL x y
def btr (a : List Int) (ga : Int) (b : List Int) (gb : Int) : Bool := decide (or3 (cmpI3 gb ga) (cmpI3 (a.length : Int) (b.length : Int)) (cmpL a b) < 0)
/-- A hull that moves empty: its place, the minute, minutes and cost of a place. -/
structure Hul where
  p : Int
  m : Int
  s : Int
  c : Int
def okHul (h : Hul) : Prop := (0 ≤ h.p ∧ h.p ≤ 100000) ∧ (0 ≤ h.m ∧ h.m ≤ 100000) ∧ (0 ≤ h.s ∧ h.s ≤ 1000) ∧ (0 ≤ h.c ∧ h.c ≤ 100000)
def farH (h : Hul) (x : Off) : Int := max (h.p - x.f) (x.f - h.p)
theorem farH_rng {h : Hul} {x : Off} (hh : okHul h) (hx : okOff x = true) : 0 ≤ farH h x ∧ farH h x ≤ 100000 := by
  unfold okOff at hx; unfold okHul at hh; unfold farH
  rw [decide_eq_true_eq] at hx
  omega
theorem own174 : Own Tryz.prog 174 := ⟨Tryz.f174, func174, by kernel_rfl, by kernel_rfl⟩




theorem cloneF_c (l : List Fre) (al : Option Addr) (bl ol cl : Nat) (w0 : World) (hl : Sl encFre 2 w0 al bl ol l) (hll : l.length ≤ 1000000) (hpos : 0 < w0.heap.size) :
    CallsV Tryz.prog 171 [.slice al l.length cl] w0 (fun v w' => (∃ ao g cp, v = .slice ao (List.length l) cp ∧ Acc encFre 2 138 w0.heap.size w' ao g cp l) ∧ Ext w0 w') := by
 refine f_n func171 ?_
 refine go ?_
 refine t_nilS underlying128 rfl rfl rfl rfl ?_
 refine go ?_
 refine q_b (fun g4 => ?_) fun g4 => ?_
 ·
  refine go ?_
  refine f_1 results171 ?_
  have hl0 : l = [] := List.eq_nil_of_length_eq_zero (by
    rcases Nat.eq_zero_or_pos l.length with h | h
    · exact h
    · rw [hl.addr h] at g4; cases g4)
  exact ⟨⟨none, 0, 0, by rw [hl0]; rfl, by rw [hl0]; exact Acc.nil _ _ _ _ _ hpos (by omega)⟩, u_d⟩
 refine go ?_
 refine x_l fun bk6 w7 ebk6 sbk6 B8 u9 => ?_
 refine go ?_
 refine t_copyE (enc := encFre) (z := .agg #[.int .i64 0, .int .i64 0]) (bytes := 16) (k := 2) (ys := l) underlying128 (by kernel_rfl) rfl (by decide) (fun _ => rfl) (by intro x; simp [encFre, Value.oneCell']) rfl rfl rfl rfl B8 (hl.keep ((Upd.refl (fun _ => False) w0).nx u9) (fun _ h => h)) (by omega) (by decide) (fun ao1 g1 c1 w11 A13 u12 ge1 => ?_)
 have zu12 := u12.size
 refine go ?_
 refine f_1 results171 ?_
 obtain ⟨g9, ha9⟩ := Acc.lower (base' := w0.heap.size) A13 (by omega) hpos
 exact ⟨⟨ao1, g9, c1, rfl, ha9⟩, u_d⟩

theorem indexWL_c {α : Type} [Inhabited α] (enc : α → List Value) (hk : ∀ x, (enc x).length = 2) (p : α → Bool) (fv : FuncId) (caps : List Value) (xs : List α) (ao : Option Addr) (b o cap : Nat) (w0 : World) (ho : Own Tryz.prog fv) (hp : ∀ x ∈ xs, ∀ w, Ext w0 w → CallsV Tryz.prog fv ([.agg (enc x).toArray] ++ caps) w fun v w' => v = .bool (p x) ∧ Ext w w') (hs : Sl enc 2 w0 ao b o xs) (hl : xs.length ≤ 1000000) :
    CallsV Tryz.prog 173 [.slice ao xs.length cap, .func (.func fv) #[] (caps).toArray] w0 (fun v w' => (∃ n : Int, v = .int .i64 n ∧ ((n = -1 ∧ ∀ j, j < xs.length → p (nth xs j) = false) ∨ ∃ k : Nat, n = (k : Int) ∧ k < xs.length ∧ p (nth xs k) = true ∧ ∀ j, j < k → p (nth xs j) = false)) ∧ Ext w0 w') := by
 refine f_n func173 ?_
 refine go ?_
 refine x_l1 (fun _ => False) [0, 1, 7] (fun (k : Nat) => [(8, .int .i64 (k : Int))]) (fun k w => (k ≤ xs.length) ∧ (∀ j, j < k → p (nth xs j) = false)) (fun k => xs.length - k) 0 ⟨Nat.zero_le _, (fun j h => absurd h (Nat.not_lt_zero j))⟩ ?_
 rintro k w5 ⟨hle, hno⟩ u6 zu6 K4 hK4
 have E7 := Sc.mk ((Upd.refl (fun _ => False) w0).nx u6)
 refine go ?_
 refine q_p (fun g9 => ?_) fun g9 => ?_
 ·
  refine go ?_
  refine g_i k (hs.keep E7.u (fun _ h => h)) (fun _ => ?_)
  refine t_loadN (vs := enc (nth xs k)) isAgg127 sizeOf127 rfl rfl rfl ((hs.keep E7.u (fun _ h => h)).at_ k (by omega)) (hk _) (t_call (fs := []) (cs := caps) ho rfl rfl rfl rfl (hp (nth xs k) (nth_mem (by omega)) _ E7.u) (fun v14 w15 r17 => ?_))
  obtain ⟨rfl, u16⟩ := r17
  have zu16 := u16.size
  refine go ?_
  refine q_b (fun g16 => ?_) fun g16 => ?_
  ·
   refine go ?_
   refine f_1 results173 ?_
   exact ⟨⟨_, rfl, .inr ⟨k, rfl, by omega, g16, hno⟩⟩, u_d⟩
  refine go ?_
  exact hK4 (k + 1) ⟨(by omega), (fun j h => (Nat.lt_succ_iff_lt_or_eq.1 h).elim (hno j) (fun e => e ▸ g16))⟩
 refine go ?_
 refine f_1 results173 ?_
 exact ⟨⟨_, rfl, .inl ⟨rfl, fun j h => hno j (by omega)⟩⟩, u_d⟩

theorem percent1_c (x : Low) (lv : Int) (b : Nat) (w0 : World) (hb : Blk w0 b 3 [.int .i64 lv]) :
    CallsV Tryz.prog 174 [.agg #[.int .i64 x.b, .int .i64 x.p], .pointer (some ⟨b, 0, none⟩)] w0 (fun v w' => v = .bool (decide (lv < x.b)) ∧ Ext w0 w') := by
 refine f_n func174 ?_
 refine go ?_
 refine x_b fun bk2 w3 ebk2 sbk2 B4 u5 => ?_
 refine go ?_
 refine f_1 results174 ?_
 exact ⟨rfl, u_d⟩

theorem compareL_c (xs : List Int) (ax : Option Addr) (bx ox cx : Nat) (ys : List Int) (ay : Option Addr) (by_ oy cy : Nat) (w0 : World) (hx : Sl encI 1 w0 ax bx ox xs) (hy : Sl encI 1 w0 ay by_ oy ys) (hxl : xs.length ≤ 1000000) (_hyl : ys.length ≤ 1000000) :
    CallsV Tryz.prog 37 [.slice ax xs.length cx, .slice ay ys.length cy] w0 (fun v w' => v = .int .i64 (cmpL xs ys) ∧ Ext w0 w') := by
 refine f_n func37 ?_
 refine go ?_
 refine x_l1 (fun _ => False) [0, 1, 9, 10] (fun (k : Nat) => [(11, .int .i64 (k : Int))]) (fun k w => (k ≤ xs.length) ∧ (k ≤ ys.length) ∧ (cmpL xs ys = cmpL (xs.drop k) (ys.drop k))) (fun k => xs.length - k) 0 ⟨(Nat.zero_le _), (Nat.zero_le _), rfl⟩ ?_
 rintro k w5 ⟨hk, hk2, hcm⟩ u6 zu6 K4 hK4
 have E7 := Sc.mk ((Upd.refl (fun _ => False) w0).nx u6)
 refine go ?_
 refine q_p (fun g12 => ?_) fun g12 => ?_
 ·
  refine go ?_
  refine g_i k (hx.keep E7.u (fun _ h => h)) (fun _ => ?_)
  refine go ?_
  refine q_p (fun g19 => ?_) fun g19 => ?_
  ·
   refine go ?_
   refine f_1 results37 ?_
   exact ⟨congrArg (Value.int .i64) (by rw [hcm, drop_nth (show k < xs.length by omega), List.drop_eq_nil_of_le (show ys.length ≤ k by omega), cmpL]), u_d⟩
  refine go ?_
  refine g_i k (hy.keep E7.u (fun _ h => h)) (fun _ => ?_)
  refine go ?_
  refine x_c func93 rfl rfl (cmpI_c (nth xs k) (nth ys k) _) ?_
  rintro _ w20 ⟨⟨rfl, _⟩, u21⟩ zu21
  refine go ?_
  refine q_p (fun g28 => ?_) fun g28 => ?_
  ·
   refine go ?_
   refine f_1 results37 ?_
   exact ⟨congrArg (Value.int .i64) (by rw [hcm, drop_nth (show k < xs.length by omega), drop_nth (show k < ys.length by omega), cmpL, if_pos (by omega)]), u_d⟩
  refine go ?_
  exact hK4 (k + 1) ⟨(by omega), (by omega), (by rw [hcm, drop_nth (show k < xs.length by omega), drop_nth (show k < ys.length by omega), cmpL, if_neg (by omega)])⟩
 refine go ?_
 refine q_p (fun g35 => ?_) fun g35 => ?_
 ·
  refine go ?_
  refine f_1 results37 ?_
  exact ⟨congrArg (Value.int .i64) (by rw [hcm, List.drop_eq_nil_of_le (show xs.length ≤ k by omega), drop_nth (show k < ys.length by omega), cmpL]), u_d⟩
 refine go ?_
 refine f_1 results37 ?_
 exact ⟨congrArg (Value.int .i64) (by rw [hcm, List.drop_eq_nil_of_le (show xs.length ≤ k by omega), List.drop_eq_nil_of_le (show ys.length ≤ k by omega), cmpL]), u_d⟩

theorem better_c (xs : List Int) (ax : Option Addr) (bx ox cx : Nat) (ys : List Int) (ay : Option Addr) (by_ oy cy : Nat) (ga gb : Int) (w0 : World) (hx : Sl encI 1 w0 ax bx ox xs) (hy : Sl encI 1 w0 ay by_ oy ys) (hxl : xs.length ≤ 1000000) (hyl : ys.length ≤ 1000000) :
    CallsV Tryz.prog 52 [.agg #[.slice ax xs.length cx, .int .i64 ga], .agg #[.slice ay ys.length cy, .int .i64 gb]] w0 (fun v w' => v = .bool (btr xs ga ys gb) ∧ Ext w0 w') := by
 refine f_n func52 ?_
 refine go ?_
 refine x_b fun bk2 w3 ebk2 sbk2 B4 u5 => ?_
 refine x_b fun bk7 w8 ebk7 sbk7 B9 u10 => ?_
 refine go ?_
 refine c_drawnM follows (fun _ => False) (OTl [0, 2, 4, 6, 10, 12, 14, 16, 18, 20, 24, 26, 28, 30, 9, 23, 33, 35, 37, 38, 40]) (by kernel_rfl) fun w13 u14 => ?_
 have zu14 := u14.size
 refine go ?_
 refine x_c func93 rfl rfl (cmpI_c gb ga _) ?_
 rintro _ w17 ⟨⟨rfl, _⟩, u18⟩ zu18
 refine go ?_
 refine x_c func93 rfl rfl (cmpI_c (xs.length : Int) (ys.length : Int) _) ?_
 rintro _ w22 ⟨⟨rfl, _⟩, u23⟩ zu23
 have E25 := Sc.mk ((((((Upd.refl (fun _ => False) w0).nx u5).nx u10).nx u14).nx u18).nx u23)
 refine go ?_
 refine x_c func37 rfl rfl (compareL_c xs ax bx ox cx ys ay by_ oy cy _ (hx.keep E25.u (fun _ h => h)) (hy.keep E25.u (fun _ h => h)) hxl hyl) ?_
 rintro _ w27 ⟨rfl, u28⟩ zu28
 refine go ?_
 refine x_l fun bk31 w32 ebk31 sbk31 B33 u34 => ?_
 refine go ?_
 refine x_c func114 rfl rfl (or3_c (cmpI3 gb ga) (cmpI3 (xs.length : Int) (ys.length : Int)) (cmpL xs ys) bk31 _ B33) ?_
 rintro _ w37 ⟨⟨rfl, _⟩, u38⟩ zu38
 refine go ?_
 refine f_1 results52 ?_
 exact ⟨rfl, u_d⟩

theorem reach_c (h : Hul) (x : Off) (w0 : World) (hh : okHul h) (hx : okOff x = true) :
    CallsV Tryz.prog 50 [.agg #[.int .i64 h.p, .int .i64 h.m, .int .i64 h.s, .int .i64 h.c], .agg #[.int .i64 x.f, .int .i64 x.t, .int .i64 x.b, .int .i64 x.e, .int .i64 x.p]] w0 (fun v w' => v = .tuple #[.int .i64 (farH h x * h.c), .bool (decide (h.m + farH h x * h.s ≤ x.b))] ∧ Ext w0 w') := by
 obtain ⟨hp1, hp2, hp3, hp4⟩ := hh
 have hx7 := hx
 unfold okOff at hx7
 rw [decide_eq_true_eq] at hx7
 have h7 : 0 ≤ max (h.p - x.f) (x.f - h.p) ∧ max (h.p - x.f) (x.f - h.p) ≤ 100000 := by omega
 have h8 := Int.mul_le_mul h7.2 hp3.2 hp3.1 (by omega)
 have h9 := Int.mul_nonneg h7.1 hp3.1
 have h8c := Int.mul_le_mul h7.2 hp4.2 hp4.1 (by omega)
 have h9c := Int.mul_nonneg h7.1 hp4.1
 refine f_n func50 ?_
 refine go ?_
 refine x_b fun bk2 w3 ebk2 sbk2 B4 u5 => ?_
 refine x_b fun bk7 w8 ebk7 sbk7 B9 u10 => ?_
 refine go ?_
 refine t_max rfl rfl rfl rfl ?_
 refine go ?_
 refine c_drawnM follows (fun _ => False) (OTl [0, 2, 4, 6, 8, 10, 12, 14, 16, 18, 20, 22, 24, 26, 28, 30]) (by kernel_rfl) fun w14 u15 => ?_
 have zu15 := u15.size
 refine go ?_
 refine f_ret2 (v1 := .int .i64 ((max (h.p - x.f) (x.f - h.p)) * h.c)) (v2 := .bool (decide ((h.m + ((max (h.p - x.f) (x.f - h.p)) * h.s)) ≤ x.b))) results50 rfl rfl ?_
 exact ⟨rfl, u_d⟩

theorem after_c (h : Hul) (x : Off) (w0 : World) :
    CallsV Tryz.prog 54 [.agg #[.int .i64 h.p, .int .i64 h.m, .int .i64 h.s, .int .i64 h.c], .agg #[.int .i64 x.f, .int .i64 x.t, .int .i64 x.b, .int .i64 x.e, .int .i64 x.p]] w0 (fun v w' => v = .agg #[.int .i64 x.t, .int .i64 x.e, .int .i64 h.s, .int .i64 h.c] ∧ Ext w0 w') := by
 refine f_n func54 ?_
 refine go ?_
 refine x_b fun bk2 w3 ebk2 sbk2 B4 u5 => ?_
 refine x_b fun bk7 w8 ebk7 sbk7 B9 u10 => ?_
 refine x_n fun bk12 w13 ebk12 sbk12 B14 u15 => ?_
 refine go ?_
 refine c_drawnM follows (fun i => i = bk2) (OTl [0, 2, 4, 6, 8, 11, 12, 15]) (by kernel_rfl) fun w18 u19 => ?_
 have zu19 := u19.size
 refine go ?_
 refine x_s fun w21 sw21 B23 u22 => ?_
 refine go ?_
 refine x_s fun w25 sw25 B27 u26 => ?_
 refine go ?_
 refine x_s fun w30 sw30 B32 u31 => ?_
 refine go ?_
 refine f_ret1 (v := .agg #[.int .i64 x.t, .int .i64 x.e, .int .i64 h.s, .int .i64 h.c]) results54 ⟨_, _, rfl, run_loadVarN (vs := [.int .i64 x.t, .int .i64 x.e, .int .i64 h.s, .int .i64 h.c]) isAgg146 sizeOf146 rfl (B32.at.sub 0 4)⟩ ?_
 exact ⟨rfl, u_d⟩

end Go.Proofs.YtclinbbghnebaaaGreat
