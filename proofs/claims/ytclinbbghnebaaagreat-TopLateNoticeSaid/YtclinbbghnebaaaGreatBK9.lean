/-
  Part 9 of the proof: contracts and plain laws. Conditions: none.
-/
import Derived.Test.YtclinbbghnebaaaGreatBK8
namespace Go.Proofs.YtclinbbghnebaaaGreat
open Go Go.RowKit Go.Proofs.Tryz
set_option maxRecDepth 10000

theorem ctS_bd {L en b : Int} {fs : List Fre} (hL : 0 ≤ L) (hb : 0 ≤ b ∧ b ≤ 200000) (hen : 0 ≤ en ∧ en ≤ 100000) (hfs : ∀ x ∈ fs, FrBd x) : ∀ k, k ≤ fs.length → (0 ≤ (ctS L en b fs k).u ∧ (ctS L en b fs k).u ≤ L) ∧ (0 ≤ (ctS L en b fs k).a ∧ (ctS L en b fs k).a ≤ 200000)
  | 0, _ => ⟨⟨Int.le_refl _, hL⟩, hb⟩
  | k + 1, hk => by
    obtain ⟨h1, h2⟩ := ctS_bd hL hb hen hfs k (by omega)
    have hf := hfs _ (nth_mem (xs := fs) (i := k) (by omega))
    have hu := ctUse_rng (en := en) h1.2 hf.1 h2
    unfold ctS ctStep
    split
    · exact ⟨h1, h2⟩
    · refine ⟨⟨by show 0 ≤ _ + _; omega, by show _ + _ ≤ L; omega⟩, ?_⟩
      dsimp only
      split <;> omega
theorem cntP_bd {L en b : Int} {ys : List Fre} (hL : 0 ≤ L ∧ L ≤ 100000) (hb : 0 ≤ b ∧ b ≤ 200000) (hen : 0 ≤ en ∧ en ≤ 100000) (hys : ∀ x ∈ ys, FrBd x) : (0 ≤ (cntP L en b ys).o ∧ (cntP L en b ys).o ≤ 100000) ∧ (0 ≤ (cntP L en b ys).s ∧ (cntP L en b ys).s ≤ 100000) := by
  have h := ctS_bd (fs := ys ++ [⟨en, en⟩]) hL.1 hb hen (fun x hx => (List.mem_append.1 hx).elim (hys x) (fun q => by rw [List.mem_singleton.1 q]; exact ⟨hen, hen⟩)) (ys.length + 1) (by rw [List.length_append]; exact Nat.le_refl _)
  simp only [cntP]
  constructor
  · split <;> omega
  · split <;> omega
theorem lowK_any {ws : List Low} : ∀ {k : Nat}, lowK ws k = false → (ws.any fun x => !okLow x) = false
  | 0, h => h
  | k + 1, h => by
    unfold lowK at h
    rw [Bool.or_eq_false_iff] at h
    exact lowK_any h.1
theorem pctP_bd {c : Chr} {ws : List Low} (h : chkCh c ws = 0) (lv : Int) : 0 ≤ pctP ws lv ∧ pctP ws lv ≤ 1000 := by
  unfold pctP
  split
  · omega
  · rename_i x hx
    have hm := List.mem_of_find?_eq_some hx
    unfold chkCh at h
    split at h
    · rename_i q
      unfold okCh at q
      rw [decide_eq_true_eq] at q
      have ha := lowK_any q.1
      cases hb : okLow x
      · have : (ws.any fun x => !okLow x) = true := List.any_eq_true.2 ⟨x, hm, by simp [hb]⟩
        rw [ha] at this; cases this
      · unfold okLow at hb
        rw [decide_eq_true_eq] at hb
        exact hb.2
    · omega
structure Bl where
  f : Int
  o : Int
  d : Int
  e : Int
  c : Int
  t : Int
def encBl (x : Bl) : List Value := [.int .i64 x.f, .int .i64 x.o, .int .i64 x.d, .int .i64 x.e, .int .i64 x.c, .int .i64 x.t]
def lvP (m : List (Int × Msg)) : Int := match gtG m 6 with
  | none => 0
  | some x => x.v
/-- A call settled. -/
def blP (c : Chr) (ws : List Low) (tv lv : Int) (lc : Lc) : Bl :=
  ⟨c.r * max tv c.n, rnd2 (c.r * max tv c.n * pctP ws lv) 100, rnd2 (lc.o * c.d) 1440, rnd2 (lc.s * c.e) 1440, rnd2 ((c.r * max tv c.n + rnd2 (c.r * max tv c.n * pctP ws lv) 100) * c.m) 100,
    c.r * max tv c.n + rnd2 (c.r * max tv c.n * pctP ws lv) 100 + rnd2 (lc.o * c.d) 1440 - rnd2 (lc.s * c.e) 1440⟩
theorem mul_bd {a b A B : Int} (ha : 0 ≤ a ∧ a ≤ A) (hb : 0 ≤ b ∧ b ≤ B) : 0 ≤ a * b ∧ a * b ≤ A * B := ⟨Int.mul_nonneg ha.1 hb.1, Int.mul_le_mul ha.2 hb.2 hb.1 (by omega)⟩
theorem rnd2_bd {a b A : Int} (ha : 0 ≤ a ∧ a ≤ A) (hb : b = 100 ∨ b = 1440) : 0 ≤ rnd2 a b ∧ rnd2 a b ≤ A + 720 := by
  unfold rnd2
  rcases hb with rfl | rfl <;> omega
/-- What bill returns. -/
def BlR (c : Chr) (ws : List Low) (ex : List Fre) (m : List (Int × Msg)) (n1 en : Msg) (b : Bl) (e : Int) : Prop := (e = 7 ∧ b = ⟨0, 0, 0, 0, 0, 0⟩ ∧ (gtG m 5 = none ∨ (gtG m 6 = none ∧ 0 < ws.length))) ∨
  (e = 0 ∧ ∃ t5 ys, gtG m 5 = some t5 ∧ (gtG m 6 = none → ws.length = 0) ∧ List.Perm ys ex ∧ Asc cmpFr ys ∧ b = blP c ws t5.v (lvP m) (cntP c.l en.m (n1.m + c.o) ys))

set_option maxHeartbeats 4000000 in
theorem bill_c (px : Nat) (c : Chr) (ws : List Low) (aw : Option Addr) (bw ow cw r : Nat) (aE : Option Addr) (gE cE base : Nat) (ex : List Fre) (m : List (Int × Msg)) (n1 en : Msg) (w0 : World) (hpx : Blk w0 px 224 [.int .i64 c.s, .int .i64 c.c, .int .i64 c.k, .int .i64 c.r, .int .i64 c.n, .int .i64 c.l, .int .i64 c.o, .int .i64 c.d, .int .i64 c.e, .int .i64 c.m, .slice aw ws.length cw, .map (some r), .slice aE ex.length cE]) (hm : MapG cd1 m w0 r) (hA : Acc encFre 2 138 base w0 aE gE cE ex) (hb : base ≤ w0.heap.size) (hn1 : gtG m 1 = some n1) (hn4 : gtG m 4 = some en) (hb1 : 0 ≤ n1.m ∧ n1.m ≤ 100000) (hb4 : 0 ≤ en.m ∧ en.m ≤ 100000) (hc0 : chkCh c ws = 0) (hexb : ∀ x ∈ ex, FrBd x) (hexl : ex.length ≤ 1000) (hmv : ∀ a v, gtG m a = some v → 0 ≤ v.v ∧ v.v ≤ 1000000) (hbw : 0 < ws.length → bw < base) (hws : Sl encLow 2 w0 aw bw ow ws) (hwl : ws.length ≤ 1000000) :
    CallsV Tryz.prog 40 [.pointer (some ⟨px, 0, none⟩)] w0 (fun v w' => (∃ b e, v = .tuple #[.agg (encBl b).toArray, .int .i64 e] ∧ BlR c ws ex m n1 en b e) ∧ Upd (fun i => i = gE ∧ base ≤ i) w0 w') := by
 have hcr := okCh_rng hc0
 have hpxl := hpx.lt
 have hml := hm.lt
 have hgl := hA.lt
 have hgr : gE < base ∨ gE ≠ r := (Nat.lt_or_ge _ _).imp_right (fun h => hA.neMap hm h)
 have hgp : gE < base ∨ gE ≠ px := (Nat.lt_or_ge _ _).imp_right (fun h => hA.neBlk hpx (by decide) h)
 refine f_n func40 ?_
 refine go ?_
 refine x_n fun bk2 w3 ebk2 sbk2 B4 u5 => ?_
 refine go ?_
 have D8 := (hm.keep u5 (fun h => h))
 refine t_lookG (cd := cd1) (a := (5 : Int)) (m := m) (z := .agg #[.int .i64 0, .int .i64 0, .int .i64 0, .int .i64 0, .int .i64 0, .int .i64 0]) key1_ok underlying222 zeroValue135 rfl rfl rfl rfl D8 (fun hq14 => ?_) (fun o5 hq14 => ?_)
 ·
  iterate 2 refine st1 ?_
  refine t_same 15 (v := .agg #[.int .i64 0, .int .i64 0, .int .i64 0, .int .i64 0, .int .i64 0, .int .i64 0]) rfl rfl ?_
  refine go ?_
  refine x_n fun bk9 w10 ebk9 sbk9 B11 u12 => ?_
  refine x_s fun w14 sw14 B16 u15 => ?_
  refine go ?_
  have D19 := ((D8.keep u12 (fun h => h)).keep u15 (show ¬ (r = bk9) by omega))
  refine t_lookG (cd := cd1) (a := (6 : Int)) (m := m) (z := .agg #[.int .i64 0, .int .i64 0, .int .i64 0, .int .i64 0, .int .i64 0, .int .i64 0]) key1_ok underlying222 zeroValue135 rfl rfl rfl rfl D19 (fun hq22 => ?_) (fun o6 hq22 => ?_)
  ·
   iterate 2 refine st1 ?_
   refine t_same 23 (v := .agg #[.int .i64 0, .int .i64 0, .int .i64 0, .int .i64 0, .int .i64 0, .int .i64 0]) rfl rfl ?_
   refine go ?_
   refine x_n fun bk20 w21 ebk20 sbk20 B22 u23 => ?_
   refine x_s fun w25 sw25 B27 u26 => ?_
   refine go ?_
   refine x_s fun w32 sw32 B34 u33 => ?_
   refine go ?_
   refine f_ret2 (v1 := .agg #[.int .i64 0, .int .i64 0, .int .i64 0, .int .i64 0, .int .i64 0, .int .i64 0]) (v2 := .int .i64 7) results40 ⟨_, _, rfl, run_loadVarN (vs := [.int .i64 0, .int .i64 0, .int .i64 0, .int .i64 0, .int .i64 0, .int .i64 0]) isAgg58 sizeOf58 rfl (B34.at.sub 0 6)⟩ rfl ?_
   exact ⟨⟨⟨0, 0, 0, 0, 0, 0⟩, 7, rfl, .inl ⟨rfl, rfl, .inl hq14⟩⟩, u_d⟩
  iterate 2 refine st1 ?_
  refine t_same 23 (v := .agg #[.int .i64 o6.c, .int .i64 o6.n, .int .i64 o6.r, .int .i64 o6.k, .int .i64 o6.m, .int .i64 o6.v]) rfl rfl ?_
  refine go ?_
  refine x_n fun bk36 w37 ebk36 sbk36 B38 u39 => ?_
  refine x_s fun w41 sw41 B43 u42 => ?_
  refine go ?_
  refine x_s fun w48 sw48 B50 u49 => ?_
  refine go ?_
  refine f_ret2 (v1 := .agg #[.int .i64 0, .int .i64 0, .int .i64 0, .int .i64 0, .int .i64 0, .int .i64 0]) (v2 := .int .i64 7) results40 ⟨_, _, rfl, run_loadVarN (vs := [.int .i64 0, .int .i64 0, .int .i64 0, .int .i64 0, .int .i64 0, .int .i64 0]) isAgg58 sizeOf58 rfl (B50.at.sub 0 6)⟩ rfl ?_
  exact ⟨⟨⟨0, 0, 0, 0, 0, 0⟩, 7, rfl, .inl ⟨rfl, rfl, .inl hq14⟩⟩, u_d⟩
 iterate 2 refine st1 ?_
 refine t_same 15 (v := .agg #[.int .i64 o5.c, .int .i64 o5.n, .int .i64 o5.r, .int .i64 o5.k, .int .i64 o5.m, .int .i64 o5.v]) rfl rfl ?_
 refine go ?_
 refine x_n fun bk52 w53 ebk52 sbk52 B54 u55 => ?_
 refine x_s fun w57 sw57 B59 u58 => ?_
 refine go ?_
 have D62 := ((D8.keep u55 (fun h => h)).keep u58 (show ¬ (r = bk52) by omega))
 refine t_lookG (cd := cd1) (a := (6 : Int)) (m := m) (z := .agg #[.int .i64 0, .int .i64 0, .int .i64 0, .int .i64 0, .int .i64 0, .int .i64 0]) key1_ok underlying222 zeroValue135 rfl rfl rfl rfl D62 (fun hq22 => ?_) (fun o6 hq22 => ?_)
 ·
  iterate 2 refine st1 ?_
  refine t_same 23 (v := .agg #[.int .i64 0, .int .i64 0, .int .i64 0, .int .i64 0, .int .i64 0, .int .i64 0]) rfl rfl ?_
  refine go ?_
  refine x_n fun bk63 w64 ebk63 sbk63 B65 u66 => ?_
  refine x_s fun w68 sw68 B70 u69 => ?_
  refine go ?_
  refine q_p (fun g39 => ?_) fun g39 => ?_
  ·
   refine go ?_
   refine x_s fun w75 sw75 B77 u76 => ?_
   refine go ?_
   refine f_ret2 (v1 := .agg #[.int .i64 0, .int .i64 0, .int .i64 0, .int .i64 0, .int .i64 0, .int .i64 0]) (v2 := .int .i64 7) results40 ⟨_, _, rfl, run_loadVarN (vs := [.int .i64 0, .int .i64 0, .int .i64 0, .int .i64 0, .int .i64 0, .int .i64 0]) isAgg58 sizeOf58 rfl (B77.at.sub 0 6)⟩ rfl ?_
   exact ⟨⟨⟨0, 0, 0, 0, 0, 0⟩, 7, rfl, .inl ⟨rfl, rfl, .inr ⟨hq22, by omega⟩⟩⟩, u_d⟩
  refine go ?_
  have B80 := (((((hpx.kx u5).kx u55).keep u58 (by omega)).kx u66).keep u69 (by omega))
  have D81 := ((D62.keep u66 (fun h => h)).keep u69 (show ¬ (r = bk63) by omega))
  have D82 := (((((hA.keep u5 (fun _ h => h)).keep u55 (fun _ h => h)).keep u58 (fun hb9 => show ¬ (gE = bk52) by first | omega | assumption)).keep u66 (fun _ h => h)).keep u69 (fun hb9 => show ¬ (gE = bk63) by first | omega | assumption))
  refine x_c func39 rfl rfl (count_c px c ws aw cw r aE gE cE base ex m n1 en _ B80 D81 D82 (by omega) hn1 hn4 hb1 hb4 hcr.2.2.2.2.1.2 hcr.2.2.2.2.1.1 hexb hexl) ?_
  rintro _ w84 ⟨⟨ys, hyp, hya, rfl⟩, u85⟩ zu85
  have hcb := cntP_bd (ys := ys) hcr.2.2.2.2.1.1 (show 0 ≤ n1.m + c.o ∧ n1.m + c.o ≤ 200000 by omega) hb4 (fun x hx => hexb x (hyp.mem_iff.1 hx))
  have hv5 := hmv _ _ hq14
  have hmx : 0 ≤ max o5.v c.n ∧ max o5.v c.n ≤ 1000000 := by omega
  have hfr9 := mul_bd hcr.2.2.1 hmx
  have hbo1 := mul_bd hfr9 (pctP_bd hc0 (0))
  have hbo9 := rnd2_bd hbo1 (.inl rfl : (100 : Int) = 100 ∨ (100 : Int) = 1440)
  have hde1 := mul_bd hcb.1 hcr.2.2.2.2.2.1.1
  have hde9 := rnd2_bd hde1 (.inr rfl : (1440 : Int) = 100 ∨ (1440 : Int) = 1440)
  have hds1 := mul_bd hcb.2 hcr.2.2.2.2.2.1.2
  have hds9 := rnd2_bd hds1 (.inr rfl : (1440 : Int) = 100 ∨ (1440 : Int) = 1440)
  have hsm9 : 0 ≤ c.r * max o5.v c.n + rnd2 (c.r * max o5.v c.n * pctP ws 0) 100 ∧ c.r * max o5.v c.n + rnd2 (c.r * max o5.v c.n * pctP ws 0) 100 ≤ 2000000000000000 := by omega
  have hcm1 := mul_bd hsm9 hcr.2.2.2.2.2.2
  have hcm9 := rnd2_bd hcm1 (.inl rfl : (100 : Int) = 100 ∨ (100 : Int) = 1440)
  refine x_n fun bk88 w89 ebk88 sbk88 B90 u91 => ?_
  refine x_s fun w93 sw93 B95 u94 => ?_
  refine go ?_
  refine c_drawnM follows (fun i => i = bk2) (OTl [0, 2, 4, 6, 8, 10, 12, 14, 16, 18, 20, 22, 24, 26, 28, 31]) (by kernel_rfl) fun w98 u99 => ?_
  have zu99 := u99.size
  refine go ?_
  refine y_max rfl rfl rfl rfl ?_
  refine go ?_
  refine x_s fun w101 sw101 B103 u102 => ?_
  refine go ?_
  refine c_drawnM follows (fun i => i = bk2) (.look 0 (.look 2 (.look 3 (.look 4 (.act 1 (.act 5 (.look 6 (.act 7 (.look 8 (.act 9 .done .stop)) .stop)) .stop) (.act 5 (.act 1 (.look 6 (.act 7 (.look 8 (.act 9 .done .stop)) .stop)) .stop) .stop)))))) (by kernel_rfl) fun w106 u107 => ?_
  have zu107 := u107.size
  refine go ?_
  refine s_or ?_ ?_
  ·
   refine go ?_
   have B109 := ((((((B80.keep u85 (by omega)).kx u91).keep u94 (by omega)).kx u99).keep u102 (by omega)).kx u107)
   have D110 := (((((((((((hws.keep u5 (fun _ h => h)).keep u55 (fun _ h => h)).keep u58 (fun h9 => show ¬ (bw = bk52) by have := hbw h9; omega)).keep u66 (fun _ h => h)).keep u69 (fun h9 => show ¬ (bw = bk63) by have := hbw h9; omega)).keep u85 (fun h9 => show ¬ ((bw = gE ∧ base ≤ bw)) by have := hbw h9; omega)).keep u91 (fun _ h => h)).keep u94 (fun h9 => show ¬ (bw = bk88) by have := hbw h9; omega)).keep u99 (fun _ h => h)).keep u102 (fun h9 => show ¬ (bw = bk2) by have := hbw h9; omega)).keep u107 (fun _ h => h))
   refine x_c func104 rfl rfl (percent_c px c ws aw bw ow cw r aE ex.length cE 0 _ B109 D110 hwl) ?_
   rintro _ w112 ⟨rfl, u113⟩ zu113
   refine go ?_
   refine x_c func103 rfl rfl (rounded_c ((c.r * (max o5.v c.n)) * (pctP ws 0)) 100 _ (by omega) (by omega)) ?_
   rintro _ w117 ⟨rfl, u118⟩ zu118
   refine go ?_
   refine x_s fun w121 sw121 B123 u122 => ?_
   refine go ?_
   refine c_drawnM follows (fun i => i = bk2) (OTl [0, 2, 4, 6, 8, 10, 12, 14, 17, 18, 21]) (by kernel_rfl) fun w126 u127 => ?_
   have zu127 := u127.size
   refine go ?_
   refine x_c func103 rfl rfl (rounded_c (((cntP c.l en.m (n1.m + c.o) ys).o) * c.d) 1440 _ (by omega) (by omega)) ?_
   rintro _ w130 ⟨rfl, u131⟩ zu131
   refine go ?_
   refine x_s fun w134 sw134 B136 u135 => ?_
   refine go ?_
   refine c_drawnM follows (fun i => i = bk2) (OTl [0, 2, 4, 6, 8, 10, 12, 14, 17, 18, 21]) (by kernel_rfl) fun w139 u140 => ?_
   have zu140 := u140.size
   refine go ?_
   refine x_c func103 rfl rfl (rounded_c (((cntP c.l en.m (n1.m + c.o) ys).s) * c.e) 1440 _ (by omega) (by omega)) ?_
   rintro _ w143 ⟨rfl, u144⟩ zu144
   refine go ?_
   refine x_s fun w147 sw147 B149 u148 => ?_
   refine go ?_
   refine c_drawnM follows (fun i => i = bk2) (.look 0 (.look 2 (.look 5 (.look 6 (.look 7 (.look 8 (.look 9 (.act 1 (.act 3 (.look 4 (.look 10 (.act 11 (.look 12 (.act 13 .done .stop)) .stop))) .stop) (.act 3 (.act 1 (.look 4 (.look 10 (.act 11 (.look 12 (.act 13 .done .stop)) .stop))) .stop) .stop))))))))) (by kernel_rfl) fun w152 u153 => ?_
   have zu153 := u153.size
   refine go ?_
   refine s_or ?_ ?_
   ·
    refine go ?_
    refine x_c func103 rfl rfl (rounded_c (((c.r * (max o5.v c.n)) + (rnd2 ((c.r * (max o5.v c.n)) * (pctP ws 0)) 100)) * c.m) 100 _ (by omega) (by omega)) ?_
    rintro _ w156 ⟨rfl, u157⟩ zu157
    refine go ?_
    refine x_s fun w160 sw160 B162 u161 => ?_
    refine go ?_
    refine x_s fun w165 sw165 B167 u166 => ?_
    refine go ?_
    refine x_s fun w170 sw170 B172 u171 => ?_
    refine go ?_
    refine f_ret2 (v1 := .agg #[.int .i64 (c.r * (max o5.v c.n)), .int .i64 (rnd2 ((c.r * (max o5.v c.n)) * (pctP ws 0)) 100), .int .i64 (rnd2 (((cntP c.l en.m (n1.m + c.o) ys).o) * c.d) 1440), .int .i64 (rnd2 (((cntP c.l en.m (n1.m + c.o) ys).s) * c.e) 1440), .int .i64 (rnd2 (((c.r * (max o5.v c.n)) + (rnd2 ((c.r * (max o5.v c.n)) * (pctP ws 0)) 100)) * c.m) 100), .int .i64 ((((c.r * (max o5.v c.n)) + (rnd2 ((c.r * (max o5.v c.n)) * (pctP ws 0)) 100)) + (rnd2 (((cntP c.l en.m (n1.m + c.o) ys).o) * c.d) 1440)) - (rnd2 (((cntP c.l en.m (n1.m + c.o) ys).s) * c.e) 1440))]) (v2 := .int .i64 0) results40 ⟨_, _, rfl, run_loadVarN (vs := [.int .i64 (c.r * (max o5.v c.n)), .int .i64 (rnd2 ((c.r * (max o5.v c.n)) * (pctP ws 0)) 100), .int .i64 (rnd2 (((cntP c.l en.m (n1.m + c.o) ys).o) * c.d) 1440), .int .i64 (rnd2 (((cntP c.l en.m (n1.m + c.o) ys).s) * c.e) 1440), .int .i64 (rnd2 (((c.r * (max o5.v c.n)) + (rnd2 ((c.r * (max o5.v c.n)) * (pctP ws 0)) 100)) * c.m) 100), .int .i64 ((((c.r * (max o5.v c.n)) + (rnd2 ((c.r * (max o5.v c.n)) * (pctP ws 0)) 100)) + (rnd2 (((cntP c.l en.m (n1.m + c.o) ys).o) * c.d) 1440)) - (rnd2 (((cntP c.l en.m (n1.m + c.o) ys).s) * c.e) 1440))]) isAgg58 sizeOf58 rfl (B172.at.sub 0 6)⟩ rfl ?_
    have hlv : lvP m = 0 := by unfold lvP; rw [hq22]
    exact ⟨⟨blP c ws o5.v 0 (cntP c.l en.m (n1.m + c.o) ys), 0, rfl, .inr ⟨rfl, o5, ys, hq14, (fun _ => by omega), hyp, hya, by rw [hlv]⟩⟩, u_d⟩
   refine go ?_
   refine x_c func103 rfl rfl (rounded_c (((c.r * (max o5.v c.n)) + (rnd2 ((c.r * (max o5.v c.n)) * (pctP ws 0)) 100)) * c.m) 100 _ (by omega) (by omega)) ?_
   rintro _ w175 ⟨rfl, u176⟩ zu176
   refine go ?_
   refine x_s fun w179 sw179 B181 u180 => ?_
   refine go ?_
   refine x_s fun w184 sw184 B186 u185 => ?_
   refine go ?_
   refine x_s fun w189 sw189 B191 u190 => ?_
   refine go ?_
   refine f_ret2 (v1 := .agg #[.int .i64 (c.r * (max o5.v c.n)), .int .i64 (rnd2 ((c.r * (max o5.v c.n)) * (pctP ws 0)) 100), .int .i64 (rnd2 (((cntP c.l en.m (n1.m + c.o) ys).o) * c.d) 1440), .int .i64 (rnd2 (((cntP c.l en.m (n1.m + c.o) ys).s) * c.e) 1440), .int .i64 (rnd2 (((c.r * (max o5.v c.n)) + (rnd2 ((c.r * (max o5.v c.n)) * (pctP ws 0)) 100)) * c.m) 100), .int .i64 ((((c.r * (max o5.v c.n)) + (rnd2 ((c.r * (max o5.v c.n)) * (pctP ws 0)) 100)) + (rnd2 (((cntP c.l en.m (n1.m + c.o) ys).o) * c.d) 1440)) - (rnd2 (((cntP c.l en.m (n1.m + c.o) ys).s) * c.e) 1440))]) (v2 := .int .i64 0) results40 ⟨_, _, rfl, run_loadVarN (vs := [.int .i64 (c.r * (max o5.v c.n)), .int .i64 (rnd2 ((c.r * (max o5.v c.n)) * (pctP ws 0)) 100), .int .i64 (rnd2 (((cntP c.l en.m (n1.m + c.o) ys).o) * c.d) 1440), .int .i64 (rnd2 (((cntP c.l en.m (n1.m + c.o) ys).s) * c.e) 1440), .int .i64 (rnd2 (((c.r * (max o5.v c.n)) + (rnd2 ((c.r * (max o5.v c.n)) * (pctP ws 0)) 100)) * c.m) 100), .int .i64 ((((c.r * (max o5.v c.n)) + (rnd2 ((c.r * (max o5.v c.n)) * (pctP ws 0)) 100)) + (rnd2 (((cntP c.l en.m (n1.m + c.o) ys).o) * c.d) 1440)) - (rnd2 (((cntP c.l en.m (n1.m + c.o) ys).s) * c.e) 1440))]) isAgg58 sizeOf58 rfl (B191.at.sub 0 6)⟩ rfl ?_
   have hlv : lvP m = 0 := by unfold lvP; rw [hq22]
   exact ⟨⟨blP c ws o5.v 0 (cntP c.l en.m (n1.m + c.o) ys), 0, rfl, .inr ⟨rfl, o5, ys, hq14, (fun _ => by omega), hyp, hya, by rw [hlv]⟩⟩, u_d⟩
  refine go ?_
  have B193 := ((((((B80.keep u85 (by omega)).kx u91).keep u94 (by omega)).kx u99).keep u102 (by omega)).kx u107)
  have D194 := (((((((((((hws.keep u5 (fun _ h => h)).keep u55 (fun _ h => h)).keep u58 (fun h9 => show ¬ (bw = bk52) by have := hbw h9; omega)).keep u66 (fun _ h => h)).keep u69 (fun h9 => show ¬ (bw = bk63) by have := hbw h9; omega)).keep u85 (fun h9 => show ¬ ((bw = gE ∧ base ≤ bw)) by have := hbw h9; omega)).keep u91 (fun _ h => h)).keep u94 (fun h9 => show ¬ (bw = bk88) by have := hbw h9; omega)).keep u99 (fun _ h => h)).keep u102 (fun h9 => show ¬ (bw = bk2) by have := hbw h9; omega)).keep u107 (fun _ h => h))
  refine x_c func104 rfl rfl (percent_c px c ws aw bw ow cw r aE ex.length cE 0 _ B193 D194 hwl) ?_
  rintro _ w196 ⟨rfl, u197⟩ zu197
  refine go ?_
  refine x_c func103 rfl rfl (rounded_c ((c.r * (max o5.v c.n)) * (pctP ws 0)) 100 _ (by omega) (by omega)) ?_
  rintro _ w201 ⟨rfl, u202⟩ zu202
  refine go ?_
  refine x_s fun w205 sw205 B207 u206 => ?_
  refine go ?_
  refine c_drawnM follows (fun i => i = bk2) (OTl [0, 2, 4, 6, 8, 10, 12, 14, 17, 18, 21]) (by kernel_rfl) fun w210 u211 => ?_
  have zu211 := u211.size
  refine go ?_
  refine x_c func103 rfl rfl (rounded_c (((cntP c.l en.m (n1.m + c.o) ys).o) * c.d) 1440 _ (by omega) (by omega)) ?_
  rintro _ w214 ⟨rfl, u215⟩ zu215
  refine go ?_
  refine x_s fun w218 sw218 B220 u219 => ?_
  refine go ?_
  refine c_drawnM follows (fun i => i = bk2) (OTl [0, 2, 4, 6, 8, 10, 12, 14, 17, 18, 21]) (by kernel_rfl) fun w223 u224 => ?_
  have zu224 := u224.size
  refine go ?_
  refine x_c func103 rfl rfl (rounded_c (((cntP c.l en.m (n1.m + c.o) ys).s) * c.e) 1440 _ (by omega) (by omega)) ?_
  rintro _ w227 ⟨rfl, u228⟩ zu228
  refine go ?_
  refine x_s fun w231 sw231 B233 u232 => ?_
  refine go ?_
  refine c_drawnM follows (fun i => i = bk2) (.look 0 (.look 2 (.look 5 (.look 6 (.look 7 (.look 8 (.look 9 (.act 1 (.act 3 (.look 4 (.look 10 (.act 11 (.look 12 (.act 13 .done .stop)) .stop))) .stop) (.act 3 (.act 1 (.look 4 (.look 10 (.act 11 (.look 12 (.act 13 .done .stop)) .stop))) .stop) .stop))))))))) (by kernel_rfl) fun w236 u237 => ?_
  have zu237 := u237.size
  refine go ?_
  refine s_or ?_ ?_
  ·
   refine go ?_
   refine x_c func103 rfl rfl (rounded_c (((c.r * (max o5.v c.n)) + (rnd2 ((c.r * (max o5.v c.n)) * (pctP ws 0)) 100)) * c.m) 100 _ (by omega) (by omega)) ?_
   rintro _ w240 ⟨rfl, u241⟩ zu241
   refine go ?_
   refine x_s fun w244 sw244 B246 u245 => ?_
   refine go ?_
   refine x_s fun w249 sw249 B251 u250 => ?_
   refine go ?_
   refine x_s fun w254 sw254 B256 u255 => ?_
   refine go ?_
   refine f_ret2 (v1 := .agg #[.int .i64 (c.r * (max o5.v c.n)), .int .i64 (rnd2 ((c.r * (max o5.v c.n)) * (pctP ws 0)) 100), .int .i64 (rnd2 (((cntP c.l en.m (n1.m + c.o) ys).o) * c.d) 1440), .int .i64 (rnd2 (((cntP c.l en.m (n1.m + c.o) ys).s) * c.e) 1440), .int .i64 (rnd2 (((c.r * (max o5.v c.n)) + (rnd2 ((c.r * (max o5.v c.n)) * (pctP ws 0)) 100)) * c.m) 100), .int .i64 ((((c.r * (max o5.v c.n)) + (rnd2 ((c.r * (max o5.v c.n)) * (pctP ws 0)) 100)) + (rnd2 (((cntP c.l en.m (n1.m + c.o) ys).o) * c.d) 1440)) - (rnd2 (((cntP c.l en.m (n1.m + c.o) ys).s) * c.e) 1440))]) (v2 := .int .i64 0) results40 ⟨_, _, rfl, run_loadVarN (vs := [.int .i64 (c.r * (max o5.v c.n)), .int .i64 (rnd2 ((c.r * (max o5.v c.n)) * (pctP ws 0)) 100), .int .i64 (rnd2 (((cntP c.l en.m (n1.m + c.o) ys).o) * c.d) 1440), .int .i64 (rnd2 (((cntP c.l en.m (n1.m + c.o) ys).s) * c.e) 1440), .int .i64 (rnd2 (((c.r * (max o5.v c.n)) + (rnd2 ((c.r * (max o5.v c.n)) * (pctP ws 0)) 100)) * c.m) 100), .int .i64 ((((c.r * (max o5.v c.n)) + (rnd2 ((c.r * (max o5.v c.n)) * (pctP ws 0)) 100)) + (rnd2 (((cntP c.l en.m (n1.m + c.o) ys).o) * c.d) 1440)) - (rnd2 (((cntP c.l en.m (n1.m + c.o) ys).s) * c.e) 1440))]) isAgg58 sizeOf58 rfl (B256.at.sub 0 6)⟩ rfl ?_
   have hlv : lvP m = 0 := by unfold lvP; rw [hq22]
   exact ⟨⟨blP c ws o5.v 0 (cntP c.l en.m (n1.m + c.o) ys), 0, rfl, .inr ⟨rfl, o5, ys, hq14, (fun _ => by omega), hyp, hya, by rw [hlv]⟩⟩, u_d⟩
  refine go ?_
  refine x_c func103 rfl rfl (rounded_c (((c.r * (max o5.v c.n)) + (rnd2 ((c.r * (max o5.v c.n)) * (pctP ws 0)) 100)) * c.m) 100 _ (by omega) (by omega)) ?_
  rintro _ w259 ⟨rfl, u260⟩ zu260
  refine go ?_
  refine x_s fun w263 sw263 B265 u264 => ?_
  refine go ?_
  refine x_s fun w268 sw268 B270 u269 => ?_
  refine go ?_
  refine x_s fun w273 sw273 B275 u274 => ?_
  refine go ?_
  refine f_ret2 (v1 := .agg #[.int .i64 (c.r * (max o5.v c.n)), .int .i64 (rnd2 ((c.r * (max o5.v c.n)) * (pctP ws 0)) 100), .int .i64 (rnd2 (((cntP c.l en.m (n1.m + c.o) ys).o) * c.d) 1440), .int .i64 (rnd2 (((cntP c.l en.m (n1.m + c.o) ys).s) * c.e) 1440), .int .i64 (rnd2 (((c.r * (max o5.v c.n)) + (rnd2 ((c.r * (max o5.v c.n)) * (pctP ws 0)) 100)) * c.m) 100), .int .i64 ((((c.r * (max o5.v c.n)) + (rnd2 ((c.r * (max o5.v c.n)) * (pctP ws 0)) 100)) + (rnd2 (((cntP c.l en.m (n1.m + c.o) ys).o) * c.d) 1440)) - (rnd2 (((cntP c.l en.m (n1.m + c.o) ys).s) * c.e) 1440))]) (v2 := .int .i64 0) results40 ⟨_, _, rfl, run_loadVarN (vs := [.int .i64 (c.r * (max o5.v c.n)), .int .i64 (rnd2 ((c.r * (max o5.v c.n)) * (pctP ws 0)) 100), .int .i64 (rnd2 (((cntP c.l en.m (n1.m + c.o) ys).o) * c.d) 1440), .int .i64 (rnd2 (((cntP c.l en.m (n1.m + c.o) ys).s) * c.e) 1440), .int .i64 (rnd2 (((c.r * (max o5.v c.n)) + (rnd2 ((c.r * (max o5.v c.n)) * (pctP ws 0)) 100)) * c.m) 100), .int .i64 ((((c.r * (max o5.v c.n)) + (rnd2 ((c.r * (max o5.v c.n)) * (pctP ws 0)) 100)) + (rnd2 (((cntP c.l en.m (n1.m + c.o) ys).o) * c.d) 1440)) - (rnd2 (((cntP c.l en.m (n1.m + c.o) ys).s) * c.e) 1440))]) isAgg58 sizeOf58 rfl (B275.at.sub 0 6)⟩ rfl ?_
  have hlv : lvP m = 0 := by unfold lvP; rw [hq22]
  exact ⟨⟨blP c ws o5.v 0 (cntP c.l en.m (n1.m + c.o) ys), 0, rfl, .inr ⟨rfl, o5, ys, hq14, (fun _ => by omega), hyp, hya, by rw [hlv]⟩⟩, u_d⟩
 iterate 2 refine st1 ?_
 refine t_same 23 (v := .agg #[.int .i64 o6.c, .int .i64 o6.n, .int .i64 o6.r, .int .i64 o6.k, .int .i64 o6.m, .int .i64 o6.v]) rfl rfl ?_
 refine go ?_
 refine x_n fun bk277 w278 ebk277 sbk277 B279 u280 => ?_
 refine x_s fun w282 sw282 B284 u283 => ?_
 refine go ?_
 have B289 := (((((hpx.kx u5).kx u55).keep u58 (by omega)).kx u280).keep u283 (by omega))
 have D290 := ((D62.keep u280 (fun h => h)).keep u283 (show ¬ (r = bk277) by omega))
 have D291 := (((((hA.keep u5 (fun _ h => h)).keep u55 (fun _ h => h)).keep u58 (fun hb9 => show ¬ (gE = bk52) by first | omega | assumption)).keep u280 (fun _ h => h)).keep u283 (fun hb9 => show ¬ (gE = bk277) by first | omega | assumption))
 refine x_c func39 rfl rfl (count_c px c ws aw cw r aE gE cE base ex m n1 en _ B289 D290 D291 (by omega) hn1 hn4 hb1 hb4 hcr.2.2.2.2.1.2 hcr.2.2.2.2.1.1 hexb hexl) ?_
 rintro _ w293 ⟨⟨ys, hyp, hya, rfl⟩, u294⟩ zu294
 have hcb := cntP_bd (ys := ys) hcr.2.2.2.2.1.1 (show 0 ≤ n1.m + c.o ∧ n1.m + c.o ≤ 200000 by omega) hb4 (fun x hx => hexb x (hyp.mem_iff.1 hx))
 have hv5 := hmv _ _ hq14
 have hmx : 0 ≤ max o5.v c.n ∧ max o5.v c.n ≤ 1000000 := by omega
 have hfr9 := mul_bd hcr.2.2.1 hmx
 have hbo1 := mul_bd hfr9 (pctP_bd hc0 (o6.v))
 have hbo9 := rnd2_bd hbo1 (.inl rfl : (100 : Int) = 100 ∨ (100 : Int) = 1440)
 have hde1 := mul_bd hcb.1 hcr.2.2.2.2.2.1.1
 have hde9 := rnd2_bd hde1 (.inr rfl : (1440 : Int) = 100 ∨ (1440 : Int) = 1440)
 have hds1 := mul_bd hcb.2 hcr.2.2.2.2.2.1.2
 have hds9 := rnd2_bd hds1 (.inr rfl : (1440 : Int) = 100 ∨ (1440 : Int) = 1440)
 have hsm9 : 0 ≤ c.r * max o5.v c.n + rnd2 (c.r * max o5.v c.n * pctP ws o6.v) 100 ∧ c.r * max o5.v c.n + rnd2 (c.r * max o5.v c.n * pctP ws o6.v) 100 ≤ 2000000000000000 := by omega
 have hcm1 := mul_bd hsm9 hcr.2.2.2.2.2.2
 have hcm9 := rnd2_bd hcm1 (.inl rfl : (100 : Int) = 100 ∨ (100 : Int) = 1440)
 refine x_n fun bk297 w298 ebk297 sbk297 B299 u300 => ?_
 refine x_s fun w302 sw302 B304 u303 => ?_
 refine go ?_
 refine c_drawnM follows (fun i => i = bk2) (OTl [0, 2, 4, 6, 8, 10, 12, 14, 16, 18, 20, 22, 24, 26, 28, 31]) (by kernel_rfl) fun w307 u308 => ?_
 have zu308 := u308.size
 refine go ?_
 refine y_max rfl rfl rfl rfl ?_
 refine go ?_
 refine x_s fun w310 sw310 B312 u311 => ?_
 refine go ?_
 refine c_drawnM follows (fun i => i = bk2) (.look 0 (.look 2 (.look 3 (.look 4 (.act 1 (.act 5 (.look 6 (.act 7 (.look 8 (.act 9 .done .stop)) .stop)) .stop) (.act 5 (.act 1 (.look 6 (.act 7 (.look 8 (.act 9 .done .stop)) .stop)) .stop) .stop)))))) (by kernel_rfl) fun w315 u316 => ?_
 have zu316 := u316.size
 refine go ?_
 refine s_or ?_ ?_
 ·
  refine go ?_
  have B318 := ((((((B289.keep u294 (by omega)).kx u300).keep u303 (by omega)).kx u308).keep u311 (by omega)).kx u316)
  have D319 := (((((((((((hws.keep u5 (fun _ h => h)).keep u55 (fun _ h => h)).keep u58 (fun h9 => show ¬ (bw = bk52) by have := hbw h9; omega)).keep u280 (fun _ h => h)).keep u283 (fun h9 => show ¬ (bw = bk277) by have := hbw h9; omega)).keep u294 (fun h9 => show ¬ ((bw = gE ∧ base ≤ bw)) by have := hbw h9; omega)).keep u300 (fun _ h => h)).keep u303 (fun h9 => show ¬ (bw = bk297) by have := hbw h9; omega)).keep u308 (fun _ h => h)).keep u311 (fun h9 => show ¬ (bw = bk2) by have := hbw h9; omega)).keep u316 (fun _ h => h))
  refine x_c func104 rfl rfl (percent_c px c ws aw bw ow cw r aE ex.length cE o6.v _ B318 D319 hwl) ?_
  rintro _ w321 ⟨rfl, u322⟩ zu322
  refine go ?_
  refine x_c func103 rfl rfl (rounded_c ((c.r * (max o5.v c.n)) * (pctP ws o6.v)) 100 _ (by omega) (by omega)) ?_
  rintro _ w326 ⟨rfl, u327⟩ zu327
  refine go ?_
  refine x_s fun w330 sw330 B332 u331 => ?_
  refine go ?_
  refine c_drawnM follows (fun i => i = bk2) (OTl [0, 2, 4, 6, 8, 10, 12, 14, 17, 18, 21]) (by kernel_rfl) fun w335 u336 => ?_
  have zu336 := u336.size
  refine go ?_
  refine x_c func103 rfl rfl (rounded_c (((cntP c.l en.m (n1.m + c.o) ys).o) * c.d) 1440 _ (by omega) (by omega)) ?_
  rintro _ w339 ⟨rfl, u340⟩ zu340
  refine go ?_
  refine x_s fun w343 sw343 B345 u344 => ?_
  refine go ?_
  refine c_drawnM follows (fun i => i = bk2) (OTl [0, 2, 4, 6, 8, 10, 12, 14, 17, 18, 21]) (by kernel_rfl) fun w348 u349 => ?_
  have zu349 := u349.size
  refine go ?_
  refine x_c func103 rfl rfl (rounded_c (((cntP c.l en.m (n1.m + c.o) ys).s) * c.e) 1440 _ (by omega) (by omega)) ?_
  rintro _ w352 ⟨rfl, u353⟩ zu353
  refine go ?_
  refine x_s fun w356 sw356 B358 u357 => ?_
  refine go ?_
  refine c_drawnM follows (fun i => i = bk2) (.look 0 (.look 2 (.look 5 (.look 6 (.look 7 (.look 8 (.look 9 (.act 1 (.act 3 (.look 4 (.look 10 (.act 11 (.look 12 (.act 13 .done .stop)) .stop))) .stop) (.act 3 (.act 1 (.look 4 (.look 10 (.act 11 (.look 12 (.act 13 .done .stop)) .stop))) .stop) .stop))))))))) (by kernel_rfl) fun w361 u362 => ?_
  have zu362 := u362.size
  refine go ?_
  refine s_or ?_ ?_
  ·
   refine go ?_
   refine x_c func103 rfl rfl (rounded_c (((c.r * (max o5.v c.n)) + (rnd2 ((c.r * (max o5.v c.n)) * (pctP ws o6.v)) 100)) * c.m) 100 _ (by omega) (by omega)) ?_
   rintro _ w365 ⟨rfl, u366⟩ zu366
   refine go ?_
   refine x_s fun w369 sw369 B371 u370 => ?_
   refine go ?_
   refine x_s fun w374 sw374 B376 u375 => ?_
   refine go ?_
   refine x_s fun w379 sw379 B381 u380 => ?_
   refine go ?_
   refine f_ret2 (v1 := .agg #[.int .i64 (c.r * (max o5.v c.n)), .int .i64 (rnd2 ((c.r * (max o5.v c.n)) * (pctP ws o6.v)) 100), .int .i64 (rnd2 (((cntP c.l en.m (n1.m + c.o) ys).o) * c.d) 1440), .int .i64 (rnd2 (((cntP c.l en.m (n1.m + c.o) ys).s) * c.e) 1440), .int .i64 (rnd2 (((c.r * (max o5.v c.n)) + (rnd2 ((c.r * (max o5.v c.n)) * (pctP ws o6.v)) 100)) * c.m) 100), .int .i64 ((((c.r * (max o5.v c.n)) + (rnd2 ((c.r * (max o5.v c.n)) * (pctP ws o6.v)) 100)) + (rnd2 (((cntP c.l en.m (n1.m + c.o) ys).o) * c.d) 1440)) - (rnd2 (((cntP c.l en.m (n1.m + c.o) ys).s) * c.e) 1440))]) (v2 := .int .i64 0) results40 ⟨_, _, rfl, run_loadVarN (vs := [.int .i64 (c.r * (max o5.v c.n)), .int .i64 (rnd2 ((c.r * (max o5.v c.n)) * (pctP ws o6.v)) 100), .int .i64 (rnd2 (((cntP c.l en.m (n1.m + c.o) ys).o) * c.d) 1440), .int .i64 (rnd2 (((cntP c.l en.m (n1.m + c.o) ys).s) * c.e) 1440), .int .i64 (rnd2 (((c.r * (max o5.v c.n)) + (rnd2 ((c.r * (max o5.v c.n)) * (pctP ws o6.v)) 100)) * c.m) 100), .int .i64 ((((c.r * (max o5.v c.n)) + (rnd2 ((c.r * (max o5.v c.n)) * (pctP ws o6.v)) 100)) + (rnd2 (((cntP c.l en.m (n1.m + c.o) ys).o) * c.d) 1440)) - (rnd2 (((cntP c.l en.m (n1.m + c.o) ys).s) * c.e) 1440))]) isAgg58 sizeOf58 rfl (B381.at.sub 0 6)⟩ rfl ?_
   have hlv : lvP m = o6.v := by unfold lvP; rw [hq22]
   exact ⟨⟨blP c ws o5.v o6.v (cntP c.l en.m (n1.m + c.o) ys), 0, rfl, .inr ⟨rfl, o5, ys, hq14, (fun h => by rw [hq22] at h; cases h), hyp, hya, by rw [hlv]⟩⟩, u_d⟩
  refine go ?_
  refine x_c func103 rfl rfl (rounded_c (((c.r * (max o5.v c.n)) + (rnd2 ((c.r * (max o5.v c.n)) * (pctP ws o6.v)) 100)) * c.m) 100 _ (by omega) (by omega)) ?_
  rintro _ w384 ⟨rfl, u385⟩ zu385
  refine go ?_
  refine x_s fun w388 sw388 B390 u389 => ?_
  refine go ?_
  refine x_s fun w393 sw393 B395 u394 => ?_
  refine go ?_
  refine x_s fun w398 sw398 B400 u399 => ?_
  refine go ?_
  refine f_ret2 (v1 := .agg #[.int .i64 (c.r * (max o5.v c.n)), .int .i64 (rnd2 ((c.r * (max o5.v c.n)) * (pctP ws o6.v)) 100), .int .i64 (rnd2 (((cntP c.l en.m (n1.m + c.o) ys).o) * c.d) 1440), .int .i64 (rnd2 (((cntP c.l en.m (n1.m + c.o) ys).s) * c.e) 1440), .int .i64 (rnd2 (((c.r * (max o5.v c.n)) + (rnd2 ((c.r * (max o5.v c.n)) * (pctP ws o6.v)) 100)) * c.m) 100), .int .i64 ((((c.r * (max o5.v c.n)) + (rnd2 ((c.r * (max o5.v c.n)) * (pctP ws o6.v)) 100)) + (rnd2 (((cntP c.l en.m (n1.m + c.o) ys).o) * c.d) 1440)) - (rnd2 (((cntP c.l en.m (n1.m + c.o) ys).s) * c.e) 1440))]) (v2 := .int .i64 0) results40 ⟨_, _, rfl, run_loadVarN (vs := [.int .i64 (c.r * (max o5.v c.n)), .int .i64 (rnd2 ((c.r * (max o5.v c.n)) * (pctP ws o6.v)) 100), .int .i64 (rnd2 (((cntP c.l en.m (n1.m + c.o) ys).o) * c.d) 1440), .int .i64 (rnd2 (((cntP c.l en.m (n1.m + c.o) ys).s) * c.e) 1440), .int .i64 (rnd2 (((c.r * (max o5.v c.n)) + (rnd2 ((c.r * (max o5.v c.n)) * (pctP ws o6.v)) 100)) * c.m) 100), .int .i64 ((((c.r * (max o5.v c.n)) + (rnd2 ((c.r * (max o5.v c.n)) * (pctP ws o6.v)) 100)) + (rnd2 (((cntP c.l en.m (n1.m + c.o) ys).o) * c.d) 1440)) - (rnd2 (((cntP c.l en.m (n1.m + c.o) ys).s) * c.e) 1440))]) isAgg58 sizeOf58 rfl (B400.at.sub 0 6)⟩ rfl ?_
  have hlv : lvP m = o6.v := by unfold lvP; rw [hq22]
  exact ⟨⟨blP c ws o5.v o6.v (cntP c.l en.m (n1.m + c.o) ys), 0, rfl, .inr ⟨rfl, o5, ys, hq14, (fun h => by rw [hq22] at h; cases h), hyp, hya, by rw [hlv]⟩⟩, u_d⟩
 refine go ?_
 have B402 := ((((((B289.keep u294 (by omega)).kx u300).keep u303 (by omega)).kx u308).keep u311 (by omega)).kx u316)
 have D403 := (((((((((((hws.keep u5 (fun _ h => h)).keep u55 (fun _ h => h)).keep u58 (fun h9 => show ¬ (bw = bk52) by have := hbw h9; omega)).keep u280 (fun _ h => h)).keep u283 (fun h9 => show ¬ (bw = bk277) by have := hbw h9; omega)).keep u294 (fun h9 => show ¬ ((bw = gE ∧ base ≤ bw)) by have := hbw h9; omega)).keep u300 (fun _ h => h)).keep u303 (fun h9 => show ¬ (bw = bk297) by have := hbw h9; omega)).keep u308 (fun _ h => h)).keep u311 (fun h9 => show ¬ (bw = bk2) by have := hbw h9; omega)).keep u316 (fun _ h => h))
 refine x_c func104 rfl rfl (percent_c px c ws aw bw ow cw r aE ex.length cE o6.v _ B402 D403 hwl) ?_
 rintro _ w405 ⟨rfl, u406⟩ zu406
 refine go ?_
 refine x_c func103 rfl rfl (rounded_c ((c.r * (max o5.v c.n)) * (pctP ws o6.v)) 100 _ (by omega) (by omega)) ?_
 rintro _ w410 ⟨rfl, u411⟩ zu411
 refine go ?_
 refine x_s fun w414 sw414 B416 u415 => ?_
 refine go ?_
 refine c_drawnM follows (fun i => i = bk2) (OTl [0, 2, 4, 6, 8, 10, 12, 14, 17, 18, 21]) (by kernel_rfl) fun w419 u420 => ?_
 have zu420 := u420.size
 refine go ?_
 refine x_c func103 rfl rfl (rounded_c (((cntP c.l en.m (n1.m + c.o) ys).o) * c.d) 1440 _ (by omega) (by omega)) ?_
 rintro _ w423 ⟨rfl, u424⟩ zu424
 refine go ?_
 refine x_s fun w427 sw427 B429 u428 => ?_
 refine go ?_
 refine c_drawnM follows (fun i => i = bk2) (OTl [0, 2, 4, 6, 8, 10, 12, 14, 17, 18, 21]) (by kernel_rfl) fun w432 u433 => ?_
 have zu433 := u433.size
 refine go ?_
 refine x_c func103 rfl rfl (rounded_c (((cntP c.l en.m (n1.m + c.o) ys).s) * c.e) 1440 _ (by omega) (by omega)) ?_
 rintro _ w436 ⟨rfl, u437⟩ zu437
 refine go ?_
 refine x_s fun w440 sw440 B442 u441 => ?_
 refine go ?_
 refine c_drawnM follows (fun i => i = bk2) (.look 0 (.look 2 (.look 5 (.look 6 (.look 7 (.look 8 (.look 9 (.act 1 (.act 3 (.look 4 (.look 10 (.act 11 (.look 12 (.act 13 .done .stop)) .stop))) .stop) (.act 3 (.act 1 (.look 4 (.look 10 (.act 11 (.look 12 (.act 13 .done .stop)) .stop))) .stop) .stop))))))))) (by kernel_rfl) fun w445 u446 => ?_
 have zu446 := u446.size
 refine go ?_
 refine s_or ?_ ?_
 ·
  refine go ?_
  refine x_c func103 rfl rfl (rounded_c (((c.r * (max o5.v c.n)) + (rnd2 ((c.r * (max o5.v c.n)) * (pctP ws o6.v)) 100)) * c.m) 100 _ (by omega) (by omega)) ?_
  rintro _ w449 ⟨rfl, u450⟩ zu450
  refine go ?_
  refine x_s fun w453 sw453 B455 u454 => ?_
  refine go ?_
  refine x_s fun w458 sw458 B460 u459 => ?_
  refine go ?_
  refine x_s fun w463 sw463 B465 u464 => ?_
  refine go ?_
  refine f_ret2 (v1 := .agg #[.int .i64 (c.r * (max o5.v c.n)), .int .i64 (rnd2 ((c.r * (max o5.v c.n)) * (pctP ws o6.v)) 100), .int .i64 (rnd2 (((cntP c.l en.m (n1.m + c.o) ys).o) * c.d) 1440), .int .i64 (rnd2 (((cntP c.l en.m (n1.m + c.o) ys).s) * c.e) 1440), .int .i64 (rnd2 (((c.r * (max o5.v c.n)) + (rnd2 ((c.r * (max o5.v c.n)) * (pctP ws o6.v)) 100)) * c.m) 100), .int .i64 ((((c.r * (max o5.v c.n)) + (rnd2 ((c.r * (max o5.v c.n)) * (pctP ws o6.v)) 100)) + (rnd2 (((cntP c.l en.m (n1.m + c.o) ys).o) * c.d) 1440)) - (rnd2 (((cntP c.l en.m (n1.m + c.o) ys).s) * c.e) 1440))]) (v2 := .int .i64 0) results40 ⟨_, _, rfl, run_loadVarN (vs := [.int .i64 (c.r * (max o5.v c.n)), .int .i64 (rnd2 ((c.r * (max o5.v c.n)) * (pctP ws o6.v)) 100), .int .i64 (rnd2 (((cntP c.l en.m (n1.m + c.o) ys).o) * c.d) 1440), .int .i64 (rnd2 (((cntP c.l en.m (n1.m + c.o) ys).s) * c.e) 1440), .int .i64 (rnd2 (((c.r * (max o5.v c.n)) + (rnd2 ((c.r * (max o5.v c.n)) * (pctP ws o6.v)) 100)) * c.m) 100), .int .i64 ((((c.r * (max o5.v c.n)) + (rnd2 ((c.r * (max o5.v c.n)) * (pctP ws o6.v)) 100)) + (rnd2 (((cntP c.l en.m (n1.m + c.o) ys).o) * c.d) 1440)) - (rnd2 (((cntP c.l en.m (n1.m + c.o) ys).s) * c.e) 1440))]) isAgg58 sizeOf58 rfl (B465.at.sub 0 6)⟩ rfl ?_
  have hlv : lvP m = o6.v := by unfold lvP; rw [hq22]
  exact ⟨⟨blP c ws o5.v o6.v (cntP c.l en.m (n1.m + c.o) ys), 0, rfl, .inr ⟨rfl, o5, ys, hq14, (fun h => by rw [hq22] at h; cases h), hyp, hya, by rw [hlv]⟩⟩, u_d⟩
 refine go ?_
 refine x_c func103 rfl rfl (rounded_c (((c.r * (max o5.v c.n)) + (rnd2 ((c.r * (max o5.v c.n)) * (pctP ws o6.v)) 100)) * c.m) 100 _ (by omega) (by omega)) ?_
 rintro _ w468 ⟨rfl, u469⟩ zu469
 refine go ?_
 refine x_s fun w472 sw472 B474 u473 => ?_
 refine go ?_
 refine x_s fun w477 sw477 B479 u478 => ?_
 refine go ?_
 refine x_s fun w482 sw482 B484 u483 => ?_
 refine go ?_
 refine f_ret2 (v1 := .agg #[.int .i64 (c.r * (max o5.v c.n)), .int .i64 (rnd2 ((c.r * (max o5.v c.n)) * (pctP ws o6.v)) 100), .int .i64 (rnd2 (((cntP c.l en.m (n1.m + c.o) ys).o) * c.d) 1440), .int .i64 (rnd2 (((cntP c.l en.m (n1.m + c.o) ys).s) * c.e) 1440), .int .i64 (rnd2 (((c.r * (max o5.v c.n)) + (rnd2 ((c.r * (max o5.v c.n)) * (pctP ws o6.v)) 100)) * c.m) 100), .int .i64 ((((c.r * (max o5.v c.n)) + (rnd2 ((c.r * (max o5.v c.n)) * (pctP ws o6.v)) 100)) + (rnd2 (((cntP c.l en.m (n1.m + c.o) ys).o) * c.d) 1440)) - (rnd2 (((cntP c.l en.m (n1.m + c.o) ys).s) * c.e) 1440))]) (v2 := .int .i64 0) results40 ⟨_, _, rfl, run_loadVarN (vs := [.int .i64 (c.r * (max o5.v c.n)), .int .i64 (rnd2 ((c.r * (max o5.v c.n)) * (pctP ws o6.v)) 100), .int .i64 (rnd2 (((cntP c.l en.m (n1.m + c.o) ys).o) * c.d) 1440), .int .i64 (rnd2 (((cntP c.l en.m (n1.m + c.o) ys).s) * c.e) 1440), .int .i64 (rnd2 (((c.r * (max o5.v c.n)) + (rnd2 ((c.r * (max o5.v c.n)) * (pctP ws o6.v)) 100)) * c.m) 100), .int .i64 ((((c.r * (max o5.v c.n)) + (rnd2 ((c.r * (max o5.v c.n)) * (pctP ws o6.v)) 100)) + (rnd2 (((cntP c.l en.m (n1.m + c.o) ys).o) * c.d) 1440)) - (rnd2 (((cntP c.l en.m (n1.m + c.o) ys).s) * c.e) 1440))]) isAgg58 sizeOf58 rfl (B484.at.sub 0 6)⟩ rfl ?_
 have hlv : lvP m = o6.v := by unfold lvP; rw [hq22]
 exact ⟨⟨blP c ws o5.v o6.v (cntP c.l en.m (n1.m + c.o) ys), 0, rfl, .inr ⟨rfl, o5, ys, hq14, (fun h => by rw [hq22] at h; cases h), hyp, hya, by rw [hlv]⟩⟩, u_d⟩

end Go.Proofs.YtclinbbghnebaaaGreat
namespace Go.Proofs.YtclinbbghnebaaaGreat
open Go Go.RowKit Go.Proofs.Tryz
set_option maxRecDepth 10000

theorem OpOk.vals {l out : List Msg} (hR : RdR l out 0) : ∀ a v, gtG (onS out out.length) a = some v → 0 ≤ v.v ∧ v.v ≤ 1000000 := fun a v h => by
  obtain ⟨q1, q2, q3⟩ := hR.facts
  have q4 := (rdE_ok q3).2 _ (q1 _ (onS_mem (Nat.le_refl _) (gtG_mem h)))
  unfold okMsg at q4
  rw [decide_eq_true_eq] at q4
  exact q4.2.2.2.2.2
/-- What Bill returns. -/
def BiR (c : Chr) (ws : List Low) (fr : List Fre) (l : List Msg) (b : Bl) (e : Int) : Prop := (e ≠ 0 ∧ SgE c ws fr l e ∧ b = ⟨0, 0, 0, 0, 0, 0⟩) ∨ (chkCh c ws = 0 ∧ chkFr fr = 0 ∧ oneC l = true ∧ ∃ out ex n1 en, RdR l out 0 ∧ OpOk fr out ex ∧ gtG (onS out out.length) 1 = some n1 ∧ gtG (onS out out.length) 4 = some en ∧ BlR c ws ex (onS out out.length) n1 en b e)

theorem Bill_c (c : Chr) (ws : List Low) (aw : Option Addr) (bw ow cw : Nat) (fr : List Fre) (af : Option Addr) (bf of_ cf : Nat) (l : List Msg) (al : Option Addr) (bl ol cl : Nat) (w0 : World) (hws : Sl encLow 2 w0 aw bw ow ws) (hwl : ws.length ≤ 1000000) (hfr : Sl encFre 2 w0 af bf of_ fr) (hfl : fr.length ≤ 1000000) (hl : Sl encMsg 6 w0 al bl ol l) (hll : l.length ≤ 1000000) (hpos : 0 < w0.heap.size) :
    CallsV Tryz.prog 14 [.agg #[.int .i64 c.s, .int .i64 c.c, .int .i64 c.k, .int .i64 c.r, .int .i64 c.n, .int .i64 c.l, .int .i64 c.o, .int .i64 c.d, .int .i64 c.e, .int .i64 c.m, .slice aw ws.length cw], .slice af fr.length cf, .slice al l.length cl] w0 (fun v w' => (∃ b e, v = .tuple #[.agg (encBl b).toArray, .int .i64 e] ∧ BiR c ws fr l b e) ∧ Ext w0 w') := by
 refine f_n func14 ?_
 refine go ?_
 refine x_b fun bk2 w3 ebk2 sbk2 B4 u5 => ?_
 refine x_n fun bk7 w8 ebk7 sbk7 B9 u10 => ?_
 have E11 := Sc.mk (((Upd.refl (fun _ => False) w0).nx u5).nx u10)
 refine go ?_
 refine x_c func38 rfl rfl (single_c c ws aw bw ow cw fr af bf of_ cf l al bl ol cl _ (hws.keep E11.u (fun _ h => h)) hwl (hfr.keep E11.u (fun _ h => h)) hfl (hl.keep E11.u (fun _ h => h)) hll (by omega)) ?_
 rintro _ w14 ⟨⟨pO, eO, rfl, hO⟩, u15⟩ zu15
 refine go ?_
 refine q_p (fun g18 => ?_) fun g18 => ?_
 ·
  refine go ?_
  refine x_s fun w21 sw21 B23 u22 => ?_
  refine go ?_
  refine f_ret2 (v1 := .agg #[.int .i64 0, .int .i64 0, .int .i64 0, .int .i64 0, .int .i64 0, .int .i64 0]) (v2 := .int .i64 eO) results14 ⟨_, _, rfl, run_loadVarN (vs := [.int .i64 0, .int .i64 0, .int .i64 0, .int .i64 0, .int .i64 0, .int .i64 0]) isAgg58 sizeOf58 rfl (B23.at.sub 0 6)⟩ rfl ?_
  obtain ⟨hp0, he0, hE⟩ := hO.resolve_right (fun h => g18 h.1)
  exact ⟨⟨⟨0, 0, 0, 0, 0, 0⟩, eO, rfl, .inl ⟨he0, hE, rfl⟩⟩, u_d⟩
 obtain ⟨e0, hc0, hf0, h1c, out, hRd, px, r, aE, gE, cE, ex, rfl, hB, hM, hA, hOk⟩ := hO.resolve_left (fun h => h.2.1 (by omega))
 subst e0
 obtain ⟨n1, en, hn1, hn4, hb1, hb4, hexb, hexl⟩ := hOk.data hRd hf0
 have hBl := hB.lt
 have hwlt : 0 < ws.length → bw < w0.heap.size := hws.lt
 have lt_gE := hA.lt
 refine go ?_
 refine x_c func40 rfl rfl (bill_c px c ws aw bw ow cw r aE gE cE w8.heap.size ex (onS out out.length) n1 en _ hB hM hA (by omega) hn1 hn4 hb1 hb4 hc0 hexb hexl (OpOk.vals hRd) (fun h => by have := hwlt h; omega) (hws.keep (E11.u.nx u15) (fun _ h => h)) hwl) ?_
 rintro _ w27 ⟨⟨bB, eB, rfl, hBR⟩, u28⟩ zu28
 refine go ?_
 refine x_s fun w31 sw31 B33 u32 => ?_
 refine go ?_
 refine f_ret2 (v1 := .agg #[.int .i64 bB.f, .int .i64 bB.o, .int .i64 bB.d, .int .i64 bB.e, .int .i64 bB.c, .int .i64 bB.t]) (v2 := .int .i64 eB) results14 ⟨_, _, rfl, run_loadVarN (vs := [.int .i64 bB.f, .int .i64 bB.o, .int .i64 bB.d, .int .i64 bB.e, .int .i64 bB.c, .int .i64 bB.t]) isAgg58 sizeOf58 rfl (B33.at.sub 0 6)⟩ rfl ?_
 exact ⟨⟨bB, eB, rfl, .inr ⟨hc0, hf0, h1c, out, ex, n1, en, hRd, hOk, hn1, hn4, hBR⟩⟩, u_d⟩

end Go.Proofs.YtclinbbghnebaaaGreat
namespace Go.Proofs.YtclinbbghnebaaaGreat
open Go Go.RowKit

def sumN : List Bid → Int
  | [] => 0
  | x :: l => x.n + sumN l
/-- The state of the matching: tons that are left, both queues, the trades. -/
structure MtS where
  l : Int
  zb : List Bid
  ib : Nat
  za : List Bid
  ia : Nat
  ts : List Trd
def mtN (s : MtS) : Int := min (min s.l (nth s.zb s.ib).n) (nth s.za s.ia).n
def mtStep (s : MtS) : MtS := ⟨s.l - mtN s, takeZ s.zb s.ib (mtN s), takeI s.zb s.ib (mtN s), takeZ s.za s.ia (mtN s), takeI s.za s.ia (mtN s), s.ts ++ [⟨(nth s.zb s.ib).p, (nth s.za s.ia).p, mtN s⟩]⟩
structure MtOk (nb na : Nat) (s : MtS) : Prop where
  l0 : 0 ≤ s.l
  sb : s.l ≤ sumN (s.zb.drop s.ib)
  sa : s.l ≤ sumN (s.za.drop s.ia)
  ob : ∀ x ∈ s.zb.drop s.ib, 1 ≤ x.n ∧ x.n ≤ 1000000
  oa : ∀ x ∈ s.za.drop s.ia, 1 ≤ x.n ∧ x.n ≤ 1000000
  qb : s.zb.length = nb
  qa : s.za.length = na
  ib : s.ib ≤ nb
  ia : s.ia ≤ na
  tl : 0 < s.l → s.ts.length ≤ s.ib + s.ia
theorem head_lt {zs : List Bid} {i : Nat} {l : Int} (h0 : 0 < l) (h : l ≤ sumN (zs.drop i)) : i < zs.length := by
  rcases Nat.lt_or_ge i zs.length with q | q
  · exact q
  · rw [List.drop_eq_nil_of_le q] at h; simp only [sumN] at h; omega
theorem take_ok {zs : List Bid} {i : Nat} {t : Int} (hi : i < zs.length) (h1 : ∀ x ∈ zs.drop i, 1 ≤ x.n ∧ x.n ≤ 1000000) (ht : 1 ≤ t ∧ t ≤ (nth zs i).n) :
    sumN ((takeZ zs i t).drop (takeI zs i t)) = sumN (zs.drop i) - t ∧ (∀ x ∈ (takeZ zs i t).drop (takeI zs i t), 1 ≤ x.n ∧ x.n ≤ 1000000) ∧ takeI zs i t ≤ zs.length ∧ i ≤ takeI zs i t ∧ ((nth zs i).n = t → takeI zs i t = i + 1) := by
  have e1 := drop_nth hi
  have hd : (takeZ zs i t).drop (i + 1) = zs.drop (i + 1) := by simp [takeZ, List.drop_set]
  rw [e1] at h1
  have hx := h1 (nth zs i) (by simp)
  by_cases q : (nth zs i).n - t = 0
  · have hI : takeI zs i t = i + 1 := if_pos q
    rw [hI, hd, e1]
    exact ⟨by simp only [sumN]; omega, fun x h => h1 x (List.mem_cons_of_mem _ h), by omega, by omega, fun _ => rfl⟩
  · have hI : takeI zs i t = i := if_neg q
    have e2 := drop_nth (xs := takeZ zs i t) (i := i) (by rw [takeZ_len]; exact hi)
    rw [hI, e2, takeZ_nth hi, hd, e1]
    refine ⟨by simp only [sumN, takeB]; omega, fun x h => ?_, by omega, by omega, fun h => by omega⟩
    rcases List.mem_cons.1 h with rfl | h
    · simp only [takeB]; omega
    · exact h1 x (List.mem_cons_of_mem _ h)
theorem MtOk.heads {nb na : Nat} {s : MtS} (h : MtOk nb na s) (h0 : 0 < s.l) : s.ib < s.zb.length ∧ s.ia < s.za.length ∧ (1 ≤ (nth s.zb s.ib).n ∧ (nth s.zb s.ib).n ≤ 1000000) ∧ (1 ≤ (nth s.za s.ia).n ∧ (nth s.za s.ia).n ≤ 1000000) ∧ 1 ≤ mtN s ∧ mtN s ≤ s.l ∧ mtN s ≤ (nth s.zb s.ib).n ∧ mtN s ≤ (nth s.za s.ia).n ∧ (mtN s = s.l ∨ (nth s.zb s.ib).n = mtN s ∨ (nth s.za s.ia).n = mtN s) := by
  have h1 := head_lt h0 h.sb
  have h2 := head_lt h0 h.sa
  have h3 := h.ob (nth s.zb s.ib) (by rw [drop_nth h1]; simp)
  have h4 := h.oa (nth s.za s.ia) (by rw [drop_nth h2]; simp)
  unfold mtN
  omega
theorem MtOk.step {nb na : Nat} {s : MtS} (h : MtOk nb na s) (h0 : 0 < s.l) : MtOk nb na (mtStep s) := by
  obtain ⟨h1, h2, h3, h4, h5, h6, h7, h8, h9⟩ := h.heads h0
  obtain ⟨b1, b2, b3, b4, b5⟩ := take_ok h1 h.ob ⟨h5, h7⟩
  obtain ⟨a1, a2, a3, a4, a5⟩ := take_ok h2 h.oa ⟨h5, h8⟩
  have hsb := h.sb
  have hsa := h.sa
  have hnb := h.qb
  have hna := h.qa
  have htl := h.tl h0
  exact ⟨by show 0 ≤ s.l - mtN s; omega, by show s.l - mtN s ≤ _; exact b1 ▸ (by omega), by show s.l - mtN s ≤ _; exact a1 ▸ (by omega), b2, a2, by simp only [mtStep, takeZ_len]; exact hnb, by simp only [mtStep, takeZ_len]; exact hna,
    by simp only [mtStep]; omega, by simp only [mtStep]; omega, fun q => by
      simp only [mtStep, List.length_append, List.length_singleton] at q ⊢
      rcases h9 with e | e | e
      · omega
      · have := b5 e; omega
      · have := a5 e; omega⟩
end Go.Proofs.YtclinbbghnebaaaGreat
namespace Go.Proofs.YtclinbbghnebaaaGreat
open Go Go.RowKit
set_option maxRecDepth 10000

theorem Sl.ofBlk {α : Type} [Inhabited α] {enc : α → List Value} {k : Nat} (hk : ∀ x, (enc x).length = k) {w : World} {b : Nat} {t : TypeId} {xs : List α} (h : Blk w b t (xs.flatMap enc)) : Sl enc k w (some ⟨b, 0, none⟩) b 0 xs :=
  ⟨fun _ => rfl, fun _ => h.lt, fun i hi j v hv => by
    have h1 := flatMap_at hk xs i j v hi hv
    rw [Nat.zero_add]
    exact h.get h1⟩
section
variable {P : Program} {ops : Array Oper} {Q : Exit → Act → World → Prop} {N : Nat} {ds : List Deferred} {rest : List Oper} {L : Slots} {w : World} {rd : Option Nat} {d : Nat} {ty : TypeId} {pos : String} {aft : Array Edge} {g : Option (Nat × Bool)}
end



end Go.Proofs.YtclinbbghnebaaaGreat
namespace Go.Proofs.YtclinbbghnebaaaGreat
open Go Go.RowKit
set_option maxRecDepth 10000

/-- An element goes down while it is less. -/
def insJ (c : Int → Int → Int) : List Int → Nat → List Int
  | ds, 0 => ds
  | ds, j + 1 => if c (nth ds (j + 1)) (nth ds j) < 0 then insJ c ((ds.set (j + 1) (nth ds j)).set j (nth ds (j + 1))) j else ds
def insI (c : Int → Int → Int) (ds : List Int) : Nat → List Int
  | 0 => ds
  | k + 1 => insJ c (insI c ds k) (k + 1)
/-- The first k numbers are their own place. -/
def fillK (n : Nat) : Nat → List Int
  | 0 => List.replicate n 0
  | k + 1 => (fillK n k).set k (k : Int)
def iotaL (n : Nat) : List Int := fillK n n
/-- The order of offers: that of their begins. -/
def cmpO (l : List Off) (i k : Int) : Int := (nth l i.toNat).b - (nth l k.toNat).b
def ordP (l : List Off) : List Int := insI (cmpO l) (iotaL l.length) (l.length - 1)
instance (h : Hul) : Decidable (okHul h) := by unfold okHul; infer_instance
/-- A run: offers one after another, and what they gain. -/
structure Rn where
  s : List Int
  g : Int
instance : Inhabited Rn := ⟨⟨[], 0⟩⟩
def aftH (h : Hul) (x : Off) : Hul := ⟨x.t, x.e, h.s, h.c⟩
def nxR (l : List Off) (h : Hul) (fr : List Rn) (now : Rn) (i : Int) : Rn := ⟨now.s ++ (nth fr i.toNat).s, now.g + (nth fr i.toNat).g - farH h (nth l i.toNat) * h.c⟩
abbrev inT (l : List Off) (h : Hul) (i : Int) : Prop := h.m + farH h (nth l i.toNat) * h.s ≤ (nth l i.toNat).b
def bstOk (l : List Off) (h : Hul) (fr : List Rn) (now out : Rn) (i : Int) : Prop := inT l h i ∧ btr (nxR l h fr now i).s (nxR l h fr now i).g out.s out.g = true
instance (l : List Off) (h : Hul) (fr : List Rn) (now out : Rn) (i : Int) : Decidable (bstOk l h fr now out i) := inferInstanceAs (Decidable (_ ∧ _))
def bstStep (l : List Off) (h : Hul) (fr : List Rn) (now out : Rn) (i : Int) : Rn := if bstOk l h fr now out i then nxR l h fr now i else out
/-- The best run of the first k later offers. -/
def bstK (l : List Off) (h : Hul) (fr : List Rn) (now : Rn) (later : List Int) : Nat → Rn
  | 0 => now
  | k + 1 => bstStep l h fr now (bstK l h fr now later k) (nth later k)
def bstP (l : List Off) (h : Hul) (fr : List Rn) (now : Rn) (later : List Int) : Rn := bstK l h fr now later later.length
/-- The best runs that begin with each of the last t offers. -/
def tabT (l : List Off) (h : Hul) (ord : List Int) : Nat → List Rn
  | 0 => List.replicate l.length ⟨[], 0⟩
  | t + 1 => (tabT l h ord t).set (nth ord (l.length - (t + 1))).toNat (bstP l (aftH h (nth l (nth ord (l.length - (t + 1))).toNat)) (tabT l h ord t) ⟨[nth ord (l.length - (t + 1))], (nth l (nth ord (l.length - (t + 1))).toNat).p⟩ (ord.drop (l.length - t)))
/-- A run's gain and length are small. -/
def RnB (t : Nat) (r : Rn) : Prop := 0 ≤ r.g ∧ r.g ≤ 1000000000 * (r.s.length : Int) ∧ r.s.length ≤ t
theorem RnB.mono {t u : Nat} {r : Rn} (h : RnB t r) (q : t ≤ u) : RnB u r := ⟨h.1, h.2.1, by have := h.2.2; omega⟩
end Go.Proofs.YtclinbbghnebaaaGreat
namespace Go.Proofs.YtclinbbghnebaaaGreat
open Go Go.RowKit Go.Proofs.Tryz
set_option maxRecDepth 10000

end Go.Proofs.YtclinbbghnebaaaGreat
namespace Go.Proofs.YtclinbbghnebaaaGreat
open Go Go.RowKit Go.Proofs.Tryz
set_option maxRecDepth 10000

/-- A run in memory. -/
structure HR where
  r : Rn
  ao : Option Addr
  g : Nat
  o : Nat
  cp : Nat
instance : Inhabited HR := ⟨⟨default, none, 0, 0, 0⟩⟩
def encHR (h : HR) : List Value := [.slice h.ao h.r.s.length h.cp, .int .i64 h.r.g]
end Go.Proofs.YtclinbbghnebaaaGreat
namespace Go.Proofs.YtclinbbghnebaaaGreat
open Go Go.RowKit

/-- How a round ends. -/
def postY (B : Nat) (Z : World → Prop) (W : World) : Exit → Act → World → Prop
  | .normal, _, W' => KeepsFrom B W W' ∧ Z W'
  | _, _, _ => False

/-- What an iterator is given: at each place where Y holds it may hand out the element, and Z holds behind it; the loop's own blocks l and D are left alone. -/
structure Hands {γ : Type} (P : Program) (l D : Nat) (enc : γ → Value) (Y Z : γ → World → Prop) (R : World → Prop) : Prop where
  keep : ∀ {W W' : World} {S : Nat → Prop}, R W → Upd S W W' → ¬ S l → ¬ S D → R W'
  cell : ∀ {W : World} {b : Nat} {t : TypeId} {cs : List Value}, R W → Blk W b t cs → b ≠ l ∧ b ≠ D
  hand : ∀ x W, Y x W → R W → YieldAt Fence.wide 3 P l #[enc x] W fun e W' => e = .returned (.bool true) ∧ Z x W' ∧ R W'

/-- It stands where the loop's record is turned. -/
def Turned {β : Type} (l : Nat) (I : β → World → Prop) : Prop := ∀ x W W', I x W → (∃ r, W.heap[l]? = some (.loop r)) → Upd (· = l) W W' → I x W'
theorem Turned.and {β : Type} {l : Nat} {I J : β → World → Prop} (h : Turned l I) (k : Turned l J) : Turned l (fun x W => I x W ∧ J x W) := fun x W W' hi hl u => ⟨h x W W' hi.1 hl u, k x W W' hi.2 hl u⟩

section
variable {P : Program} {Q : Exit → Act → World → Prop} {N : Nat} {ds : List Deferred} {L : Slots} {w : World}

theorem c_rangeY {γ : Type} {go : Operand} {p : Nat} {assign body : Code} {gf : Nat} {lb : List Value} {enc : γ → Value} (ho : Own P gf)
    (hp : Nat.blt p N = true) (hg : ev L go = some (.func (.func gf) #[] lb.toArray))
    (Y Z : γ → World → Prop) (E : World → Prop) (hYo : Turned (w.heap.size + 1) Y) (hZo : Turned (w.heap.size + 1) Z) (hEo : Turned (w.heap.size + 1) (fun (_ : Unit) W => E W))
    (hiter : ∀ (l D : Nat) (R : World → Prop) (W : World), D = w.heap.size → l = w.heap.size + 1 → W.heap.size = w.heap.size + 2 → Ext w W → Hands P l D enc Y Z R → R W →
      CallsV P gf (.func (.yield l) #[] #[] :: lb) W (fun _ W' => E W' ∧ R W'))
    (La : γ → Slots)
    (hassign : ∀ (l : Nat) (x : γ) (W : World) (K : Act → World → Prop), Y x W → (∀ L', Sub (La x) L' → QK K N [] L' W) → WC (some l) P (Exit.then K (fun _ _ _ => False)) N [] assign ((p, enc x) :: L) W)
    (hbody : ∀ (l : Nat) (x : γ) (W : World), Y x W → WC (some l) P (postY w.heap.size (Z x) W) N [] body (La x) W)
    (hdone : ∀ (D : Nat) (W : World), w.heap.size ≤ D → E W → W.heap[D]? = some (.deferred (some [])) → QK (Q .normal) N (mark D :: ds) L W) :
    WC none P Q N ds (.rangeFunc go #[p] assign body) L w := by
  refine ⟨fun a ha => ?_⟩
  refine wpIn_rangeFunc (F := Fence.wide) (n := 3) fun fn hfn => ?_
  let rec_ : LoopState → Loop := fun st => { state := st, pending := none, fn, tmps := a.tmps, params := #[p], assign, body, defers := w.heap.size }
  have hsz : ((w.alloc (.deferred (some []))).alloc (.loop (rec_ .ready))).heap.size = w.heap.size + 2 := by simp
  have hD1 : ((w.alloc (.deferred (some []))).alloc (.loop (rec_ .ready))).heap[w.heap.size]? = some (.deferred (some [])) :=
    ((Upd.alloc (w.alloc (.deferred (some []))) (.loop (rec_ .ready))).block _ (by simp) id).trans (World.alloc_heap_new w _)
  have hL1 : ((w.alloc (.deferred (some []))).alloc (.loop (rec_ .ready))).heap[w.heap.size + 1]? = some (.loop (rec_ .ready)) := by
    have := World.alloc_heap_new (w.alloc (.deferred (some []))) (.loop (rec_ .ready)); rwa [World.size_alloc] at this
  have hE1 : Ext w ((w.alloc (.deferred (some []))).alloc (.loop (rec_ .ready))) := (Upd.alloc _ _).trans (Upd.alloc _ _)
  refine ⟨w.heap.size + 1, [{ target := .collected w.heap.size, args := #[] }], (w.alloc (.deferred (some []))).alloc (.loop (rec_ .ready)), { target := .fn (.func gf) lb.toArray, args := #[.func (.yield (w.heap.size + 1)) #[] #[]] }, (w.alloc (.deferred (some []))).alloc (.loop (rec_ .ready)), gf,
    #[.func (.yield (w.heap.size + 1)) #[] #[]] ++ lb.toArray, (w.alloc (.deferred (some []))).alloc (.loop (rec_ .ready)), ?_, ?_, fun _ _ => trivial, ?_, fun _ => by decide, ?_⟩
  · exact run_enterLoop_outer _ _ _ _ _
  · simp only [resolve, ha.ev hg]
    simp [go_sem]
  · simp [invoke, go_sem, ho.run]
  · have hH : Hands P (w.heap.size + 1) w.heap.size enc Y Z (fun W => W.heap[w.heap.size + 1]? = some (.loop (rec_ .ready)) ∧ W.heap[w.heap.size]? = some (.deferred (some []))) := by
      refine ⟨fun {W W' S} h u h1 h2 => ⟨(u.block _ (lt_of_block h.1) h1).trans h.1, (u.block _ (lt_of_block h.2) h2).trans h.2⟩, fun {W b t cs} h hb => ⟨fun e => ?_, fun e => ?_⟩, ?_⟩
      · subst e; unfold Blk at hb; rw [h.1] at hb; cases hb
      · subst e; unfold Blk at hb; rw [h.2] at hb; cases hb
      rintro x W hy ⟨hl, hd⟩
      have hyl := run_yield (P := P) (args := #[enc x]) hl rfl
      refine ⟨fn, _, assign, body, hyl, roundIn_of_wpIn (F := Fence.wide) (n := 3) hfn ?_⟩
      have hk : Kn N [] ((p, enc x) :: L) { tmps := (#[p].zip #[enc x]).foldl (fun t (p, v) => t.setIfInBounds p v) a.tmps, defers := [] } := by
        have h1 : Kn N [] L { a with defers := [] } := ⟨ha.size, rfl, ha.get⟩
        have h2 := h1.put (enc x) hp
        refine ⟨by simpa [Act.put] using h2.size, rfl, fun k v hv => ?_⟩
        have := h2.get k v hv
        simpa [Act.put] using this
      refine hassign (w.heap.size + 1) x W _ hy (fun L' hs => ⟨fun a' ha' => ?_⟩) _ hk
      have hlt := lt_of_block hl
      refine ⟨_, run_beginRound hl rfl, ?_⟩
      have hl2 : (W.putObj (w.heap.size + 1) (.loop { rec_ .ready with state := .busy })).heap[w.heap.size + 1]? = some (.loop { rec_ .ready with state := .busy }) := World.putObj_heap_same hlt
      have hd2 : (W.putObj (w.heap.size + 1) (.loop { rec_ .ready with state := .busy })).heap[w.heap.size]? = some (.deferred (some [])) := (World.putObj_heap_other (by omega)).trans hd
      refine wpIn_mono (hbody (w.heap.size + 1) x _ (hYo _ _ _ hy ⟨_, hl⟩ (Upd.putObj _ _ _)) a' (ha'.sub hs)) ?_
      rintro e a3 W3 hp3
      cases e with
      | normal =>
        obtain ⟨hk3, hz⟩ := hp3
        have hl3 := hk3.same _ _ (by omega) hl2 rfl
        have hd3 := hk3.same _ _ (Nat.le_refl _) hd2 rfl
        exact ⟨_, _, run_endRound none hl3, rfl, hZo _ _ _ hz ⟨_, hl3⟩ (Upd.putObj _ _ _), World.putObj_heap_same (lt_of_block hl3), (World.putObj_heap_other (by omega)).trans hd3⟩
      | ret => exact hp3.elim
      | exit id => exact hp3.elim
      | goto t => exact hp3.elim
      | panic ch => exact hp3.elim
      | outgrown => exact hp3.elim
    have hc := hiter (w.heap.size + 1) w.heap.size _ _ rfl rfl hsz hE1 hH ⟨hL1, hD1⟩
    have e0 : (#[Value.func (.yield (w.heap.size + 1)) #[] #[]] ++ lb.toArray : Array Value) = (Value.func (.yield (w.heap.size + 1)) #[] #[] :: lb).toArray := by simp
    rw [e0]
    refine callsIn_wide.2 (Calls.mono hc ?_)
    rintro e W2 ⟨v, rfl, hE, hl, hd⟩
    refine ⟨none, _, run_endLoop hl (by simp [rec_]), ?_⟩
    refine hdone w.heap.size _ (Nat.le_refl _) (hEo () _ _ hE ⟨_, hl⟩ (Upd.putObj _ _ _)) ((World.putObj_heap_other (by omega)).trans hd) _ ⟨ha.size, ?_, ha.get⟩
    simp [ha.defers, mark]
end

theorem Blk.notLoop {w : World} {b l : Nat} {t : TypeId} {cs : List Value} (h : Blk w b t cs) (hl : ∃ r, w.heap[l]? = some (.loop r)) : b ≠ l := fun e => by
  subst e; obtain ⟨r, hl⟩ := hl; unfold Blk at h; rw [hl] at h; cases h
theorem Sl.notLoop {α : Type} [Inhabited α] {enc : α → List Value} {k : Nat} (hk : ∀ x, 0 < (enc x).length) {w : World} {ao : Option Addr} {b o l : Nat} {xs : List α} (h : Sl enc k w ao b o xs) (hl : ∃ r, w.heap[l]? = some (.loop r)) (hp : 0 < xs.length) : b ≠ l := fun e => by
  subst e; obtain ⟨r, hl⟩ := hl
  have h1 := h.at_ 0 hp 0 _ (List.getElem?_eq_getElem (hk _))
  simp [World.cell?, hl] at h1
end Go.Proofs.YtclinbbghnebaaaGreat
