/-
  Part 11 of the proof: contracts and plain laws. Conditions: none.
-/
import Derived.Test.YtjkpkbdoljjeiaaGreatAK10
namespace Go.Proofs.YtjkpkbdoljjeiaaGreat
open Go Go.RowKit Go.Proofs.Tryz

theorem ctS_bd {L en b : Int} {fs : List Fre} (hL : 0 ≤ L) (hb : 0 ≤ b ∧ b ≤ 200000) (hen : 0 ≤ en ∧ en ≤ 100000) (hfs : ∀ x ∈ fs, FrBd x) : ∀ k, k ≤ fs.length → (0 ≤ (ctS L en b fs k).u ∧ (ctS L en b fs k).u ≤ L) ∧ (0 ≤ (ctS L en b fs k).a ∧ (ctS L en b fs k).a ≤ 200000)
  | 0, _ => ⟨⟨Int.le_refl _, hL⟩, hb⟩
  | k + 1, hk => by
    obtain ⟨h1, h2⟩ := ctS_bd hL hb hen hfs k (by omega)
    have hf := hfs _ (nth_mem (xs := fs) (i := k) (by omega))
    have hu := ctUse_rng (en := en) h1.2 hf.1 h2
    unfold ctS ctStep
    split
    · exact ⟨h1, h2⟩
    · refine ⟨⟨by show 0 ≤ _ + _; omega, by show _ + _ ≤ L; omega⟩, ?_⟩
      dsimp only
      split <;> omega
theorem cntP_bd {L en b : Int} {ys : List Fre} (hL : 0 ≤ L ∧ L ≤ 100000) (hb : 0 ≤ b ∧ b ≤ 200000) (hen : 0 ≤ en ∧ en ≤ 100000) (hys : ∀ x ∈ ys, FrBd x) : (0 ≤ (cntP L en b ys).o ∧ (cntP L en b ys).o ≤ 100000) ∧ (0 ≤ (cntP L en b ys).s ∧ (cntP L en b ys).s ≤ 100000) := by
  have h := ctS_bd (fs := ys ++ [⟨en, en⟩]) hL.1 hb hen (fun x hx => (List.mem_append.1 hx).elim (hys x) (fun q => by rw [List.mem_singleton.1 q]; exact ⟨hen, hen⟩)) (ys.length + 1) (by rw [List.length_append]; exact Nat.le_refl _)
  simp only [cntP]
  constructor
  · split <;> omega
  · split <;> omega
theorem lowK_any {ws : List Low} : ∀ {k : Nat}, lowK ws k = false → (ws.any fun x => !okLow x) = false
  | 0, h => h
  | k + 1, h => by
    unfold lowK at h
    rw [Bool.or_eq_false_iff] at h
    exact lowK_any h.1
theorem pctP_bd {c : Chr} {ws : List Low} (h : chkCh c ws = 0) (lv : Int) : 0 ≤ pctP ws lv ∧ pctP ws lv ≤ 1000 := by
  unfold pctP
  split
  · omega
  · rename_i x hx
    have hm := List.mem_of_find?_eq_some hx
    unfold chkCh at h
    split at h
    · rename_i q
      unfold okCh at q
      rw [decide_eq_true_eq] at q
      have ha := lowK_any q.1
      cases hb : okLow x
      · have : (ws.any fun x => !okLow x) = true := List.any_eq_true.2 ⟨x, hm, by simp [hb]⟩
        rw [ha] at this; cases this
      · unfold okLow at hb
        rw [decide_eq_true_eq] at hb
        exact hb.2
    · omega
structure Bl where
  f : Int
  o : Int
  d : Int
  e : Int
  c : Int
  t : Int
def encBl (x : Bl) : List Value := [.int .i64 x.f, .int .i64 x.o, .int .i64 x.d, .int .i64 x.e, .int .i64 x.c, .int .i64 x.t]
def lvP (m : List (Int × Msg)) : Int := match gtG m 6 with
  | none => 0
  | some x => x.v
/-- A call settled. -/
def blP (c : Chr) (ws : List Low) (tv lv : Int) (lc : Lc) : Bl :=
  ⟨c.r * max tv c.n, rnd2 (c.r * max tv c.n * pctP ws lv) 100, rnd2 (lc.o * c.d) 1440, rnd2 (lc.s * c.e) 1440, rnd2 ((c.r * max tv c.n + rnd2 (c.r * max tv c.n * pctP ws lv) 100) * c.m) 100,
    c.r * max tv c.n + rnd2 (c.r * max tv c.n * pctP ws lv) 100 + rnd2 (lc.o * c.d) 1440 - rnd2 (lc.s * c.e) 1440⟩
theorem mul_bd {a b A B : Int} (ha : 0 ≤ a ∧ a ≤ A) (hb : 0 ≤ b ∧ b ≤ B) : 0 ≤ a * b ∧ a * b ≤ A * B := ⟨Int.mul_nonneg ha.1 hb.1, Int.mul_le_mul ha.2 hb.2 hb.1 (by omega)⟩
theorem rnd2_bd {a b A : Int} (ha : 0 ≤ a ∧ a ≤ A) (hb : b = 100 ∨ b = 1440) : 0 ≤ rnd2 a b ∧ rnd2 a b ≤ A + 720 := by
  unfold rnd2
  rcases hb with rfl | rfl <;> omega
/-- What bill returns. -/
def BlR (c : Chr) (ws : List Low) (ex : List Fre) (m : List (Int × Msg)) (n1 en : Msg) (b : Bl) (e : Int) : Prop := (e = 7 ∧ b = ⟨0, 0, 0, 0, 0, 0⟩ ∧ (gtG m 5 = none ∨ (gtG m 6 = none ∧ 0 < ws.length))) ∨
  (e = 0 ∧ ∃ t5 ys, gtG m 5 = some t5 ∧ (gtG m 6 = none → ws.length = 0) ∧ List.Perm ys ex ∧ Asc cmpFr ys ∧ b = blP c ws t5.v (lvP m) (cntP c.l en.m (n1.m + c.o) ys))

set_option maxHeartbeats 4000000 in
theorem bill_c (px : Nat) (c : Chr) (ws : List Low) (aw : Option Addr) (bw ow cw r : Nat) (aE : Option Addr) (gE cE base : Nat) (ex : List Fre) (m : List (Int × Msg)) (n1 en : Msg) (w0 : World) (hpx : Blk w0 px 130 [.int .i64 c.s, .int .i64 c.c, .int .i64 c.k, .int .i64 c.r, .int .i64 c.n, .int .i64 c.l, .int .i64 c.o, .int .i64 c.d, .int .i64 c.e, .int .i64 c.m, .slice aw ws.length cw, .map (some r), .slice aE ex.length cE]) (hm : MapG cd1 m w0 r) (hA : Acc encFre 2 57 base w0 aE gE cE ex) (hb : base ≤ w0.heap.size) (hn1 : gtG m 1 = some n1) (hn4 : gtG m 4 = some en) (hb1 : 0 ≤ n1.m ∧ n1.m ≤ 100000) (hb4 : 0 ≤ en.m ∧ en.m ≤ 100000) (hc0 : chkCh c ws = 0) (hexb : ∀ x ∈ ex, FrBd x) (hexl : ex.length ≤ 1000) (hmv : ∀ a v, gtG m a = some v → 0 ≤ v.v ∧ v.v ≤ 1000000) (hbw : 0 < ws.length → bw < base) (hws : Sl encLow 2 w0 aw bw ow ws) (hwl : ws.length ≤ 1000000) :
    CallsV Tryz.prog 33 [.pointer (some ⟨px, 0, none⟩)] w0 (fun v w' => (∃ b e, v = .tuple #[.agg (encBl b).toArray, .int .i64 e] ∧ BlR c ws ex m n1 en b e) ∧ Upd (fun i => i = gE ∧ base ≤ i) w0 w') := by
 have hcr := okCh_rng hc0
 have hpxl := hpx.lt
 have hml := hm.lt
 have hgl := hA.lt
 have hgr : gE < base ∨ gE ≠ r := (Nat.lt_or_ge _ _).imp_right (fun h => hA.neMap hm h)
 have hgp : gE < base ∨ gE ≠ px := (Nat.lt_or_ge _ _).imp_right (fun h => hA.neBlk hpx (by decide) h)
 refine f_n func33 ?_
 refine go ?_
 refine x_n fun bk2 w3 ebk2 sbk2 B4 u5 => ?_
 refine go ?_
 have D8 := (hm.keep u5 (fun h => h))
 refine t_lookG (cd := cd1) (a := (5 : Int)) (m := m) (z := .agg #[.int .i64 0, .int .i64 0, .int .i64 0, .int .i64 0, .int .i64 0, .int .i64 0]) key1_ok underlying128 zeroValue100 rfl rfl rfl rfl D8 (fun hq14 => ?_) (fun o5 hq14 => ?_)
 ·
  iterate 2 refine st1 ?_
  refine t_same 15 (v := .agg #[.int .i64 0, .int .i64 0, .int .i64 0, .int .i64 0, .int .i64 0, .int .i64 0]) rfl rfl ?_
  refine go ?_
  refine x_n fun bk9 w10 ebk9 sbk9 B11 u12 => ?_
  refine x_s fun w14 sw14 B16 u15 => ?_
  refine go ?_
  have D19 := ((D8.keep u12 (fun h => h)).keep u15 (show ¬ (r = bk9) by omega))
  refine t_lookG (cd := cd1) (a := (6 : Int)) (m := m) (z := .agg #[.int .i64 0, .int .i64 0, .int .i64 0, .int .i64 0, .int .i64 0, .int .i64 0]) key1_ok underlying128 zeroValue100 rfl rfl rfl rfl D19 (fun hq22 => ?_) (fun o6 hq22 => ?_)
  ·
   iterate 2 refine st1 ?_
   refine t_same 23 (v := .agg #[.int .i64 0, .int .i64 0, .int .i64 0, .int .i64 0, .int .i64 0, .int .i64 0]) rfl rfl ?_
   refine go ?_
   refine x_n fun bk20 w21 ebk20 sbk20 B22 u23 => ?_
   refine x_s fun w25 sw25 B27 u26 => ?_
   refine go ?_
   refine x_s fun w32 sw32 B34 u33 => ?_
   refine go ?_
   refine f_ret2 (v1 := .agg #[.int .i64 0, .int .i64 0, .int .i64 0, .int .i64 0, .int .i64 0, .int .i64 0]) (v2 := .int .i64 7) results33 ⟨_, _, rfl, run_loadVarN (vs := [.int .i64 0, .int .i64 0, .int .i64 0, .int .i64 0, .int .i64 0, .int .i64 0]) isAgg53 sizeOf53 rfl (B34.at.sub 0 6)⟩ rfl ?_
   exact ⟨⟨⟨0, 0, 0, 0, 0, 0⟩, 7, rfl, .inl ⟨rfl, rfl, .inl hq14⟩⟩, u_d⟩
  iterate 2 refine st1 ?_
  refine t_same 23 (v := .agg #[.int .i64 o6.c, .int .i64 o6.n, .int .i64 o6.r, .int .i64 o6.k, .int .i64 o6.m, .int .i64 o6.v]) rfl rfl ?_
  refine go ?_
  refine x_n fun bk36 w37 ebk36 sbk36 B38 u39 => ?_
  refine x_s fun w41 sw41 B43 u42 => ?_
  refine go ?_
  refine x_s fun w48 sw48 B50 u49 => ?_
  refine go ?_
  refine f_ret2 (v1 := .agg #[.int .i64 0, .int .i64 0, .int .i64 0, .int .i64 0, .int .i64 0, .int .i64 0]) (v2 := .int .i64 7) results33 ⟨_, _, rfl, run_loadVarN (vs := [.int .i64 0, .int .i64 0, .int .i64 0, .int .i64 0, .int .i64 0, .int .i64 0]) isAgg53 sizeOf53 rfl (B50.at.sub 0 6)⟩ rfl ?_
  exact ⟨⟨⟨0, 0, 0, 0, 0, 0⟩, 7, rfl, .inl ⟨rfl, rfl, .inl hq14⟩⟩, u_d⟩
 iterate 2 refine st1 ?_
 refine t_same 15 (v := .agg #[.int .i64 o5.c, .int .i64 o5.n, .int .i64 o5.r, .int .i64 o5.k, .int .i64 o5.m, .int .i64 o5.v]) rfl rfl ?_
 refine go ?_
 refine x_n fun bk52 w53 ebk52 sbk52 B54 u55 => ?_
 refine x_s fun w57 sw57 B59 u58 => ?_
 refine go ?_
 have D62 := ((D8.keep u55 (fun h => h)).keep u58 (show ¬ (r = bk52) by omega))
 refine t_lookG (cd := cd1) (a := (6 : Int)) (m := m) (z := .agg #[.int .i64 0, .int .i64 0, .int .i64 0, .int .i64 0, .int .i64 0, .int .i64 0]) key1_ok underlying128 zeroValue100 rfl rfl rfl rfl D62 (fun hq22 => ?_) (fun o6 hq22 => ?_)
 ·
  iterate 2 refine st1 ?_
  refine t_same 23 (v := .agg #[.int .i64 0, .int .i64 0, .int .i64 0, .int .i64 0, .int .i64 0, .int .i64 0]) rfl rfl ?_
  refine go ?_
  refine x_n fun bk63 w64 ebk63 sbk63 B65 u66 => ?_
  refine x_s fun w68 sw68 B70 u69 => ?_
  refine go ?_
  refine q_p (fun g39 => ?_) fun g39 => ?_
  ·
   refine go ?_
   refine x_s fun w75 sw75 B77 u76 => ?_
   refine go ?_
   refine f_ret2 (v1 := .agg #[.int .i64 0, .int .i64 0, .int .i64 0, .int .i64 0, .int .i64 0, .int .i64 0]) (v2 := .int .i64 7) results33 ⟨_, _, rfl, run_loadVarN (vs := [.int .i64 0, .int .i64 0, .int .i64 0, .int .i64 0, .int .i64 0, .int .i64 0]) isAgg53 sizeOf53 rfl (B77.at.sub 0 6)⟩ rfl ?_
   exact ⟨⟨⟨0, 0, 0, 0, 0, 0⟩, 7, rfl, .inl ⟨rfl, rfl, .inr ⟨hq22, by omega⟩⟩⟩, u_d⟩
  refine go ?_
  have B80 := (((((hpx.kx u5).kx u55).keep u58 (by omega)).kx u66).keep u69 (by omega))
  have D81 := ((D62.keep u66 (fun h => h)).keep u69 (show ¬ (r = bk63) by omega))
  have D82 := (((((hA.keep u5 (fun _ h => h)).keep u55 (fun _ h => h)).keep u58 (fun hb9 => show ¬ (gE = bk52) by first | omega | assumption)).keep u66 (fun _ h => h)).keep u69 (fun hb9 => show ¬ (gE = bk63) by first | omega | assumption))
  refine x_c func54 rfl rfl (count_c px c ws aw cw r aE gE cE base ex m n1 en _ B80 D81 D82 (by omega) hn1 hn4 hb1 hb4 hcr.2.2.2.2.1.2 hcr.2.2.2.2.1.1 hexb hexl) ?_
  rintro _ w84 ⟨⟨ys, hyp, hya, rfl⟩, u85⟩ zu85
  have hcb := cntP_bd (ys := ys) hcr.2.2.2.2.1.1 (show 0 ≤ n1.m + c.o ∧ n1.m + c.o ≤ 200000 by omega) hb4 (fun x hx => hexb x (hyp.mem_iff.1 hx))
  have hv5 := hmv _ _ hq14
  have hmx : 0 ≤ max o5.v c.n ∧ max o5.v c.n ≤ 1000000 := by omega
  have hfr9 := mul_bd hcr.2.2.1 hmx
  have hbo1 := mul_bd hfr9 (pctP_bd hc0 (0))
  have hbo9 := rnd2_bd hbo1 (.inl rfl : (100 : Int) = 100 ∨ (100 : Int) = 1440)
  have hde1 := mul_bd hcb.1 hcr.2.2.2.2.2.1.1
  have hde9 := rnd2_bd hde1 (.inr rfl : (1440 : Int) = 100 ∨ (1440 : Int) = 1440)
  have hds1 := mul_bd hcb.2 hcr.2.2.2.2.2.1.2
  have hds9 := rnd2_bd hds1 (.inr rfl : (1440 : Int) = 100 ∨ (1440 : Int) = 1440)
  have hsm9 : 0 ≤ c.r * max o5.v c.n + rnd2 (c.r * max o5.v c.n * pctP ws 0) 100 ∧ c.r * max o5.v c.n + rnd2 (c.r * max o5.v c.n * pctP ws 0) 100 ≤ 2000000000000000 := by omega
  have hcm1 := mul_bd hsm9 hcr.2.2.2.2.2.2
  have hcm9 := rnd2_bd hcm1 (.inl rfl : (100 : Int) = 100 ∨ (100 : Int) = 1440)
  refine x_n fun bk88 w89 ebk88 sbk88 B90 u91 => ?_
  refine x_s fun w93 sw93 B95 u94 => ?_
  refine go ?_
  refine c_drawnM follows (fun i => i = bk2) (OTl [0, 2, 4, 6, 8, 10, 12, 14, 16, 18, 20, 22, 24, 26, 28, 31]) (by kernel_rfl) fun w98 u99 => ?_
  have zu99 := u99.size
  refine go ?_
  refine y_max rfl rfl rfl rfl ?_
  refine go ?_
  refine x_s fun w101 sw101 B103 u102 => ?_
  refine go ?_
  refine c_drawnM follows (fun i => i = bk2) (.look 0 (.look 2 (.look 3 (.look 4 (.act 1 (.act 5 (.look 6 (.act 7 (.look 8 (.act 9 .done .stop)) .stop)) .stop) (.act 5 (.act 1 (.look 6 (.act 7 (.look 8 (.act 9 .done .stop)) .stop)) .stop) .stop)))))) (by kernel_rfl) fun w106 u107 => ?_
  have zu107 := u107.size
  refine go ?_
  refine s_or ?_ ?_
  ·
   refine go ?_
   have B109 := ((((((B80.keep u85 (by omega)).kx u91).keep u94 (by omega)).kx u99).keep u102 (by omega)).kx u107)
   have D110 := (((((((((((hws.keep u5 (fun _ h => h)).keep u55 (fun _ h => h)).keep u58 (fun h9 => show ¬ (bw = bk52) by have := hbw h9; omega)).keep u66 (fun _ h => h)).keep u69 (fun h9 => show ¬ (bw = bk63) by have := hbw h9; omega)).keep u85 (fun h9 => show ¬ ((bw = gE ∧ base ≤ bw)) by have := hbw h9; omega)).keep u91 (fun _ h => h)).keep u94 (fun h9 => show ¬ (bw = bk88) by have := hbw h9; omega)).keep u99 (fun _ h => h)).keep u102 (fun h9 => show ¬ (bw = bk2) by have := hbw h9; omega)).keep u107 (fun _ h => h))
   refine x_c func56 rfl rfl (percent_c px c ws aw bw ow cw r aE ex.length cE 0 _ B109 D110 hwl) ?_
   rintro _ w112 ⟨rfl, u113⟩ zu113
   refine go ?_
   refine x_c func55 rfl rfl (rounded_c ((c.r * (max o5.v c.n)) * (pctP ws 0)) 100 _ (by omega) (by omega)) ?_
   rintro _ w117 ⟨rfl, u118⟩ zu118
   refine go ?_
   refine x_s fun w121 sw121 B123 u122 => ?_
   refine go ?_
   refine c_drawnM follows (fun i => i = bk2) (OTl [0, 2, 4, 6, 8, 10, 12, 14, 17, 18, 21]) (by kernel_rfl) fun w126 u127 => ?_
   have zu127 := u127.size
   refine go ?_
   refine x_c func55 rfl rfl (rounded_c (((cntP c.l en.m (n1.m + c.o) ys).o) * c.d) 1440 _ (by omega) (by omega)) ?_
   rintro _ w130 ⟨rfl, u131⟩ zu131
   refine go ?_
   refine x_s fun w134 sw134 B136 u135 => ?_
   refine go ?_
   refine c_drawnM follows (fun i => i = bk2) (OTl [0, 2, 4, 6, 8, 10, 12, 14, 17, 18, 21]) (by kernel_rfl) fun w139 u140 => ?_
   have zu140 := u140.size
   refine go ?_
   refine x_c func55 rfl rfl (rounded_c (((cntP c.l en.m (n1.m + c.o) ys).s) * c.e) 1440 _ (by omega) (by omega)) ?_
   rintro _ w143 ⟨rfl, u144⟩ zu144
   refine go ?_
   refine x_s fun w147 sw147 B149 u148 => ?_
   refine go ?_
   refine c_drawnM follows (fun i => i = bk2) (.look 0 (.look 2 (.look 5 (.look 6 (.look 7 (.look 8 (.look 9 (.act 1 (.act 3 (.look 4 (.look 10 (.act 11 (.look 12 (.act 13 .done .stop)) .stop))) .stop) (.act 3 (.act 1 (.look 4 (.look 10 (.act 11 (.look 12 (.act 13 .done .stop)) .stop))) .stop) .stop))))))))) (by kernel_rfl) fun w152 u153 => ?_
   have zu153 := u153.size
   refine go ?_
   refine s_or ?_ ?_
   ·
    refine go ?_
    refine x_c func55 rfl rfl (rounded_c (((c.r * (max o5.v c.n)) + (rnd2 ((c.r * (max o5.v c.n)) * (pctP ws 0)) 100)) * c.m) 100 _ (by omega) (by omega)) ?_
    rintro _ w156 ⟨rfl, u157⟩ zu157
    refine go ?_
    refine x_s fun w160 sw160 B162 u161 => ?_
    refine go ?_
    refine x_s fun w165 sw165 B167 u166 => ?_
    refine go ?_
    refine x_s fun w170 sw170 B172 u171 => ?_
    refine go ?_
    refine f_ret2 (v1 := .agg #[.int .i64 (c.r * (max o5.v c.n)), .int .i64 (rnd2 ((c.r * (max o5.v c.n)) * (pctP ws 0)) 100), .int .i64 (rnd2 (((cntP c.l en.m (n1.m + c.o) ys).o) * c.d) 1440), .int .i64 (rnd2 (((cntP c.l en.m (n1.m + c.o) ys).s) * c.e) 1440), .int .i64 (rnd2 (((c.r * (max o5.v c.n)) + (rnd2 ((c.r * (max o5.v c.n)) * (pctP ws 0)) 100)) * c.m) 100), .int .i64 ((((c.r * (max o5.v c.n)) + (rnd2 ((c.r * (max o5.v c.n)) * (pctP ws 0)) 100)) + (rnd2 (((cntP c.l en.m (n1.m + c.o) ys).o) * c.d) 1440)) - (rnd2 (((cntP c.l en.m (n1.m + c.o) ys).s) * c.e) 1440))]) (v2 := .int .i64 0) results33 ⟨_, _, rfl, run_loadVarN (vs := [.int .i64 (c.r * (max o5.v c.n)), .int .i64 (rnd2 ((c.r * (max o5.v c.n)) * (pctP ws 0)) 100), .int .i64 (rnd2 (((cntP c.l en.m (n1.m + c.o) ys).o) * c.d) 1440), .int .i64 (rnd2 (((cntP c.l en.m (n1.m + c.o) ys).s) * c.e) 1440), .int .i64 (rnd2 (((c.r * (max o5.v c.n)) + (rnd2 ((c.r * (max o5.v c.n)) * (pctP ws 0)) 100)) * c.m) 100), .int .i64 ((((c.r * (max o5.v c.n)) + (rnd2 ((c.r * (max o5.v c.n)) * (pctP ws 0)) 100)) + (rnd2 (((cntP c.l en.m (n1.m + c.o) ys).o) * c.d) 1440)) - (rnd2 (((cntP c.l en.m (n1.m + c.o) ys).s) * c.e) 1440))]) isAgg53 sizeOf53 rfl (B172.at.sub 0 6)⟩ rfl ?_
    have hlv : lvP m = 0 := by unfold lvP; rw [hq22]
    exact ⟨⟨blP c ws o5.v 0 (cntP c.l en.m (n1.m + c.o) ys), 0, rfl, .inr ⟨rfl, o5, ys, hq14, (fun _ => by omega), hyp, hya, by rw [hlv]⟩⟩, u_d⟩
   refine go ?_
   refine x_c func55 rfl rfl (rounded_c (((c.r * (max o5.v c.n)) + (rnd2 ((c.r * (max o5.v c.n)) * (pctP ws 0)) 100)) * c.m) 100 _ (by omega) (by omega)) ?_
   rintro _ w175 ⟨rfl, u176⟩ zu176
   refine go ?_
   refine x_s fun w179 sw179 B181 u180 => ?_
   refine go ?_
   refine x_s fun w184 sw184 B186 u185 => ?_
   refine go ?_
   refine x_s fun w189 sw189 B191 u190 => ?_
   refine go ?_
   refine f_ret2 (v1 := .agg #[.int .i64 (c.r * (max o5.v c.n)), .int .i64 (rnd2 ((c.r * (max o5.v c.n)) * (pctP ws 0)) 100), .int .i64 (rnd2 (((cntP c.l en.m (n1.m + c.o) ys).o) * c.d) 1440), .int .i64 (rnd2 (((cntP c.l en.m (n1.m + c.o) ys).s) * c.e) 1440), .int .i64 (rnd2 (((c.r * (max o5.v c.n)) + (rnd2 ((c.r * (max o5.v c.n)) * (pctP ws 0)) 100)) * c.m) 100), .int .i64 ((((c.r * (max o5.v c.n)) + (rnd2 ((c.r * (max o5.v c.n)) * (pctP ws 0)) 100)) + (rnd2 (((cntP c.l en.m (n1.m + c.o) ys).o) * c.d) 1440)) - (rnd2 (((cntP c.l en.m (n1.m + c.o) ys).s) * c.e) 1440))]) (v2 := .int .i64 0) results33 ⟨_, _, rfl, run_loadVarN (vs := [.int .i64 (c.r * (max o5.v c.n)), .int .i64 (rnd2 ((c.r * (max o5.v c.n)) * (pctP ws 0)) 100), .int .i64 (rnd2 (((cntP c.l en.m (n1.m + c.o) ys).o) * c.d) 1440), .int .i64 (rnd2 (((cntP c.l en.m (n1.m + c.o) ys).s) * c.e) 1440), .int .i64 (rnd2 (((c.r * (max o5.v c.n)) + (rnd2 ((c.r * (max o5.v c.n)) * (pctP ws 0)) 100)) * c.m) 100), .int .i64 ((((c.r * (max o5.v c.n)) + (rnd2 ((c.r * (max o5.v c.n)) * (pctP ws 0)) 100)) + (rnd2 (((cntP c.l en.m (n1.m + c.o) ys).o) * c.d) 1440)) - (rnd2 (((cntP c.l en.m (n1.m + c.o) ys).s) * c.e) 1440))]) isAgg53 sizeOf53 rfl (B191.at.sub 0 6)⟩ rfl ?_
   have hlv : lvP m = 0 := by unfold lvP; rw [hq22]
   exact ⟨⟨blP c ws o5.v 0 (cntP c.l en.m (n1.m + c.o) ys), 0, rfl, .inr ⟨rfl, o5, ys, hq14, (fun _ => by omega), hyp, hya, by rw [hlv]⟩⟩, u_d⟩
  refine go ?_
  have B193 := ((((((B80.keep u85 (by omega)).kx u91).keep u94 (by omega)).kx u99).keep u102 (by omega)).kx u107)
  have D194 := (((((((((((hws.keep u5 (fun _ h => h)).keep u55 (fun _ h => h)).keep u58 (fun h9 => show ¬ (bw = bk52) by have := hbw h9; omega)).keep u66 (fun _ h => h)).keep u69 (fun h9 => show ¬ (bw = bk63) by have := hbw h9; omega)).keep u85 (fun h9 => show ¬ ((bw = gE ∧ base ≤ bw)) by have := hbw h9; omega)).keep u91 (fun _ h => h)).keep u94 (fun h9 => show ¬ (bw = bk88) by have := hbw h9; omega)).keep u99 (fun _ h => h)).keep u102 (fun h9 => show ¬ (bw = bk2) by have := hbw h9; omega)).keep u107 (fun _ h => h))
  refine x_c func56 rfl rfl (percent_c px c ws aw bw ow cw r aE ex.length cE 0 _ B193 D194 hwl) ?_
  rintro _ w196 ⟨rfl, u197⟩ zu197
  refine go ?_
  refine x_c func55 rfl rfl (rounded_c ((c.r * (max o5.v c.n)) * (pctP ws 0)) 100 _ (by omega) (by omega)) ?_
  rintro _ w201 ⟨rfl, u202⟩ zu202
  refine go ?_
  refine x_s fun w205 sw205 B207 u206 => ?_
  refine go ?_
  refine c_drawnM follows (fun i => i = bk2) (OTl [0, 2, 4, 6, 8, 10, 12, 14, 17, 18, 21]) (by kernel_rfl) fun w210 u211 => ?_
  have zu211 := u211.size
  refine go ?_
  refine x_c func55 rfl rfl (rounded_c (((cntP c.l en.m (n1.m + c.o) ys).o) * c.d) 1440 _ (by omega) (by omega)) ?_
  rintro _ w214 ⟨rfl, u215⟩ zu215
  refine go ?_
  refine x_s fun w218 sw218 B220 u219 => ?_
  refine go ?_
  refine c_drawnM follows (fun i => i = bk2) (OTl [0, 2, 4, 6, 8, 10, 12, 14, 17, 18, 21]) (by kernel_rfl) fun w223 u224 => ?_
  have zu224 := u224.size
  refine go ?_
  refine x_c func55 rfl rfl (rounded_c (((cntP c.l en.m (n1.m + c.o) ys).s) * c.e) 1440 _ (by omega) (by omega)) ?_
  rintro _ w227 ⟨rfl, u228⟩ zu228
  refine go ?_
  refine x_s fun w231 sw231 B233 u232 => ?_
  refine go ?_
  refine c_drawnM follows (fun i => i = bk2) (.look 0 (.look 2 (.look 5 (.look 6 (.look 7 (.look 8 (.look 9 (.act 1 (.act 3 (.look 4 (.look 10 (.act 11 (.look 12 (.act 13 .done .stop)) .stop))) .stop) (.act 3 (.act 1 (.look 4 (.look 10 (.act 11 (.look 12 (.act 13 .done .stop)) .stop))) .stop) .stop))))))))) (by kernel_rfl) fun w236 u237 => ?_
  have zu237 := u237.size
  refine go ?_
  refine s_or ?_ ?_
  ·
   refine go ?_
   refine x_c func55 rfl rfl (rounded_c (((c.r * (max o5.v c.n)) + (rnd2 ((c.r * (max o5.v c.n)) * (pctP ws 0)) 100)) * c.m) 100 _ (by omega) (by omega)) ?_
   rintro _ w240 ⟨rfl, u241⟩ zu241
   refine go ?_
   refine x_s fun w244 sw244 B246 u245 => ?_
   refine go ?_
   refine x_s fun w249 sw249 B251 u250 => ?_
   refine go ?_
   refine x_s fun w254 sw254 B256 u255 => ?_
   refine go ?_
   refine f_ret2 (v1 := .agg #[.int .i64 (c.r * (max o5.v c.n)), .int .i64 (rnd2 ((c.r * (max o5.v c.n)) * (pctP ws 0)) 100), .int .i64 (rnd2 (((cntP c.l en.m (n1.m + c.o) ys).o) * c.d) 1440), .int .i64 (rnd2 (((cntP c.l en.m (n1.m + c.o) ys).s) * c.e) 1440), .int .i64 (rnd2 (((c.r * (max o5.v c.n)) + (rnd2 ((c.r * (max o5.v c.n)) * (pctP ws 0)) 100)) * c.m) 100), .int .i64 ((((c.r * (max o5.v c.n)) + (rnd2 ((c.r * (max o5.v c.n)) * (pctP ws 0)) 100)) + (rnd2 (((cntP c.l en.m (n1.m + c.o) ys).o) * c.d) 1440)) - (rnd2 (((cntP c.l en.m (n1.m + c.o) ys).s) * c.e) 1440))]) (v2 := .int .i64 0) results33 ⟨_, _, rfl, run_loadVarN (vs := [.int .i64 (c.r * (max o5.v c.n)), .int .i64 (rnd2 ((c.r * (max o5.v c.n)) * (pctP ws 0)) 100), .int .i64 (rnd2 (((cntP c.l en.m (n1.m + c.o) ys).o) * c.d) 1440), .int .i64 (rnd2 (((cntP c.l en.m (n1.m + c.o) ys).s) * c.e) 1440), .int .i64 (rnd2 (((c.r * (max o5.v c.n)) + (rnd2 ((c.r * (max o5.v c.n)) * (pctP ws 0)) 100)) * c.m) 100), .int .i64 ((((c.r * (max o5.v c.n)) + (rnd2 ((c.r * (max o5.v c.n)) * (pctP ws 0)) 100)) + (rnd2 (((cntP c.l en.m (n1.m + c.o) ys).o) * c.d) 1440)) - (rnd2 (((cntP c.l en.m (n1.m + c.o) ys).s) * c.e) 1440))]) isAgg53 sizeOf53 rfl (B256.at.sub 0 6)⟩ rfl ?_
   have hlv : lvP m = 0 := by unfold lvP; rw [hq22]
   exact ⟨⟨blP c ws o5.v 0 (cntP c.l en.m (n1.m + c.o) ys), 0, rfl, .inr ⟨rfl, o5, ys, hq14, (fun _ => by omega), hyp, hya, by rw [hlv]⟩⟩, u_d⟩
  refine go ?_
  refine x_c func55 rfl rfl (rounded_c (((c.r * (max o5.v c.n)) + (rnd2 ((c.r * (max o5.v c.n)) * (pctP ws 0)) 100)) * c.m) 100 _ (by omega) (by omega)) ?_
  rintro _ w259 ⟨rfl, u260⟩ zu260
  refine go ?_
  refine x_s fun w263 sw263 B265 u264 => ?_
  refine go ?_
  refine x_s fun w268 sw268 B270 u269 => ?_
  refine go ?_
  refine x_s fun w273 sw273 B275 u274 => ?_
  refine go ?_
  refine f_ret2 (v1 := .agg #[.int .i64 (c.r * (max o5.v c.n)), .int .i64 (rnd2 ((c.r * (max o5.v c.n)) * (pctP ws 0)) 100), .int .i64 (rnd2 (((cntP c.l en.m (n1.m + c.o) ys).o) * c.d) 1440), .int .i64 (rnd2 (((cntP c.l en.m (n1.m + c.o) ys).s) * c.e) 1440), .int .i64 (rnd2 (((c.r * (max o5.v c.n)) + (rnd2 ((c.r * (max o5.v c.n)) * (pctP ws 0)) 100)) * c.m) 100), .int .i64 ((((c.r * (max o5.v c.n)) + (rnd2 ((c.r * (max o5.v c.n)) * (pctP ws 0)) 100)) + (rnd2 (((cntP c.l en.m (n1.m + c.o) ys).o) * c.d) 1440)) - (rnd2 (((cntP c.l en.m (n1.m + c.o) ys).s) * c.e) 1440))]) (v2 := .int .i64 0) results33 ⟨_, _, rfl, run_loadVarN (vs := [.int .i64 (c.r * (max o5.v c.n)), .int .i64 (rnd2 ((c.r * (max o5.v c.n)) * (pctP ws 0)) 100), .int .i64 (rnd2 (((cntP c.l en.m (n1.m + c.o) ys).o) * c.d) 1440), .int .i64 (rnd2 (((cntP c.l en.m (n1.m + c.o) ys).s) * c.e) 1440), .int .i64 (rnd2 (((c.r * (max o5.v c.n)) + (rnd2 ((c.r * (max o5.v c.n)) * (pctP ws 0)) 100)) * c.m) 100), .int .i64 ((((c.r * (max o5.v c.n)) + (rnd2 ((c.r * (max o5.v c.n)) * (pctP ws 0)) 100)) + (rnd2 (((cntP c.l en.m (n1.m + c.o) ys).o) * c.d) 1440)) - (rnd2 (((cntP c.l en.m (n1.m + c.o) ys).s) * c.e) 1440))]) isAgg53 sizeOf53 rfl (B275.at.sub 0 6)⟩ rfl ?_
  have hlv : lvP m = 0 := by unfold lvP; rw [hq22]
  exact ⟨⟨blP c ws o5.v 0 (cntP c.l en.m (n1.m + c.o) ys), 0, rfl, .inr ⟨rfl, o5, ys, hq14, (fun _ => by omega), hyp, hya, by rw [hlv]⟩⟩, u_d⟩
 iterate 2 refine st1 ?_
 refine t_same 23 (v := .agg #[.int .i64 o6.c, .int .i64 o6.n, .int .i64 o6.r, .int .i64 o6.k, .int .i64 o6.m, .int .i64 o6.v]) rfl rfl ?_
 refine go ?_
 refine x_n fun bk277 w278 ebk277 sbk277 B279 u280 => ?_
 refine x_s fun w282 sw282 B284 u283 => ?_
 refine go ?_
 have B289 := (((((hpx.kx u5).kx u55).keep u58 (by omega)).kx u280).keep u283 (by omega))
 have D290 := ((D62.keep u280 (fun h => h)).keep u283 (show ¬ (r = bk277) by omega))
 have D291 := (((((hA.keep u5 (fun _ h => h)).keep u55 (fun _ h => h)).keep u58 (fun hb9 => show ¬ (gE = bk52) by first | omega | assumption)).keep u280 (fun _ h => h)).keep u283 (fun hb9 => show ¬ (gE = bk277) by first | omega | assumption))
 refine x_c func54 rfl rfl (count_c px c ws aw cw r aE gE cE base ex m n1 en _ B289 D290 D291 (by omega) hn1 hn4 hb1 hb4 hcr.2.2.2.2.1.2 hcr.2.2.2.2.1.1 hexb hexl) ?_
 rintro _ w293 ⟨⟨ys, hyp, hya, rfl⟩, u294⟩ zu294
 have hcb := cntP_bd (ys := ys) hcr.2.2.2.2.1.1 (show 0 ≤ n1.m + c.o ∧ n1.m + c.o ≤ 200000 by omega) hb4 (fun x hx => hexb x (hyp.mem_iff.1 hx))
 have hv5 := hmv _ _ hq14
 have hmx : 0 ≤ max o5.v c.n ∧ max o5.v c.n ≤ 1000000 := by omega
 have hfr9 := mul_bd hcr.2.2.1 hmx
 have hbo1 := mul_bd hfr9 (pctP_bd hc0 (o6.v))
 have hbo9 := rnd2_bd hbo1 (.inl rfl : (100 : Int) = 100 ∨ (100 : Int) = 1440)
 have hde1 := mul_bd hcb.1 hcr.2.2.2.2.2.1.1
 have hde9 := rnd2_bd hde1 (.inr rfl : (1440 : Int) = 100 ∨ (1440 : Int) = 1440)
 have hds1 := mul_bd hcb.2 hcr.2.2.2.2.2.1.2
 have hds9 := rnd2_bd hds1 (.inr rfl : (1440 : Int) = 100 ∨ (1440 : Int) = 1440)
 have hsm9 : 0 ≤ c.r * max o5.v c.n + rnd2 (c.r * max o5.v c.n * pctP ws o6.v) 100 ∧ c.r * max o5.v c.n + rnd2 (c.r * max o5.v c.n * pctP ws o6.v) 100 ≤ 2000000000000000 := by omega
 have hcm1 := mul_bd hsm9 hcr.2.2.2.2.2.2
 have hcm9 := rnd2_bd hcm1 (.inl rfl : (100 : Int) = 100 ∨ (100 : Int) = 1440)
 refine x_n fun bk297 w298 ebk297 sbk297 B299 u300 => ?_
 refine x_s fun w302 sw302 B304 u303 => ?_
 refine go ?_
 refine c_drawnM follows (fun i => i = bk2) (OTl [0, 2, 4, 6, 8, 10, 12, 14, 16, 18, 20, 22, 24, 26, 28, 31]) (by kernel_rfl) fun w307 u308 => ?_
 have zu308 := u308.size
 refine go ?_
 refine y_max rfl rfl rfl rfl ?_
 refine go ?_
 refine x_s fun w310 sw310 B312 u311 => ?_
 refine go ?_
 refine c_drawnM follows (fun i => i = bk2) (.look 0 (.look 2 (.look 3 (.look 4 (.act 1 (.act 5 (.look 6 (.act 7 (.look 8 (.act 9 .done .stop)) .stop)) .stop) (.act 5 (.act 1 (.look 6 (.act 7 (.look 8 (.act 9 .done .stop)) .stop)) .stop) .stop)))))) (by kernel_rfl) fun w315 u316 => ?_
 have zu316 := u316.size
 refine go ?_
 refine s_or ?_ ?_
 ·
  refine go ?_
  have B318 := ((((((B289.keep u294 (by omega)).kx u300).keep u303 (by omega)).kx u308).keep u311 (by omega)).kx u316)
  have D319 := (((((((((((hws.keep u5 (fun _ h => h)).keep u55 (fun _ h => h)).keep u58 (fun h9 => show ¬ (bw = bk52) by have := hbw h9; omega)).keep u280 (fun _ h => h)).keep u283 (fun h9 => show ¬ (bw = bk277) by have := hbw h9; omega)).keep u294 (fun h9 => show ¬ ((bw = gE ∧ base ≤ bw)) by have := hbw h9; omega)).keep u300 (fun _ h => h)).keep u303 (fun h9 => show ¬ (bw = bk297) by have := hbw h9; omega)).keep u308 (fun _ h => h)).keep u311 (fun h9 => show ¬ (bw = bk2) by have := hbw h9; omega)).keep u316 (fun _ h => h))
  refine x_c func56 rfl rfl (percent_c px c ws aw bw ow cw r aE ex.length cE o6.v _ B318 D319 hwl) ?_
  rintro _ w321 ⟨rfl, u322⟩ zu322
  refine go ?_
  refine x_c func55 rfl rfl (rounded_c ((c.r * (max o5.v c.n)) * (pctP ws o6.v)) 100 _ (by omega) (by omega)) ?_
  rintro _ w326 ⟨rfl, u327⟩ zu327
  refine go ?_
  refine x_s fun w330 sw330 B332 u331 => ?_
  refine go ?_
  refine c_drawnM follows (fun i => i = bk2) (OTl [0, 2, 4, 6, 8, 10, 12, 14, 17, 18, 21]) (by kernel_rfl) fun w335 u336 => ?_
  have zu336 := u336.size
  refine go ?_
  refine x_c func55 rfl rfl (rounded_c (((cntP c.l en.m (n1.m + c.o) ys).o) * c.d) 1440 _ (by omega) (by omega)) ?_
  rintro _ w339 ⟨rfl, u340⟩ zu340
  refine go ?_
  refine x_s fun w343 sw343 B345 u344 => ?_
  refine go ?_
  refine c_drawnM follows (fun i => i = bk2) (OTl [0, 2, 4, 6, 8, 10, 12, 14, 17, 18, 21]) (by kernel_rfl) fun w348 u349 => ?_
  have zu349 := u349.size
  refine go ?_
  refine x_c func55 rfl rfl (rounded_c (((cntP c.l en.m (n1.m + c.o) ys).s) * c.e) 1440 _ (by omega) (by omega)) ?_
  rintro _ w352 ⟨rfl, u353⟩ zu353
  refine go ?_
  refine x_s fun w356 sw356 B358 u357 => ?_
  refine go ?_
  refine c_drawnM follows (fun i => i = bk2) (.look 0 (.look 2 (.look 5 (.look 6 (.look 7 (.look 8 (.look 9 (.act 1 (.act 3 (.look 4 (.look 10 (.act 11 (.look 12 (.act 13 .done .stop)) .stop))) .stop) (.act 3 (.act 1 (.look 4 (.look 10 (.act 11 (.look 12 (.act 13 .done .stop)) .stop))) .stop) .stop))))))))) (by kernel_rfl) fun w361 u362 => ?_
  have zu362 := u362.size
  refine go ?_
  refine s_or ?_ ?_
  ·
   refine go ?_
   refine x_c func55 rfl rfl (rounded_c (((c.r * (max o5.v c.n)) + (rnd2 ((c.r * (max o5.v c.n)) * (pctP ws o6.v)) 100)) * c.m) 100 _ (by omega) (by omega)) ?_
   rintro _ w365 ⟨rfl, u366⟩ zu366
   refine go ?_
   refine x_s fun w369 sw369 B371 u370 => ?_
   refine go ?_
   refine x_s fun w374 sw374 B376 u375 => ?_
   refine go ?_
   refine x_s fun w379 sw379 B381 u380 => ?_
   refine go ?_
   refine f_ret2 (v1 := .agg #[.int .i64 (c.r * (max o5.v c.n)), .int .i64 (rnd2 ((c.r * (max o5.v c.n)) * (pctP ws o6.v)) 100), .int .i64 (rnd2 (((cntP c.l en.m (n1.m + c.o) ys).o) * c.d) 1440), .int .i64 (rnd2 (((cntP c.l en.m (n1.m + c.o) ys).s) * c.e) 1440), .int .i64 (rnd2 (((c.r * (max o5.v c.n)) + (rnd2 ((c.r * (max o5.v c.n)) * (pctP ws o6.v)) 100)) * c.m) 100), .int .i64 ((((c.r * (max o5.v c.n)) + (rnd2 ((c.r * (max o5.v c.n)) * (pctP ws o6.v)) 100)) + (rnd2 (((cntP c.l en.m (n1.m + c.o) ys).o) * c.d) 1440)) - (rnd2 (((cntP c.l en.m (n1.m + c.o) ys).s) * c.e) 1440))]) (v2 := .int .i64 0) results33 ⟨_, _, rfl, run_loadVarN (vs := [.int .i64 (c.r * (max o5.v c.n)), .int .i64 (rnd2 ((c.r * (max o5.v c.n)) * (pctP ws o6.v)) 100), .int .i64 (rnd2 (((cntP c.l en.m (n1.m + c.o) ys).o) * c.d) 1440), .int .i64 (rnd2 (((cntP c.l en.m (n1.m + c.o) ys).s) * c.e) 1440), .int .i64 (rnd2 (((c.r * (max o5.v c.n)) + (rnd2 ((c.r * (max o5.v c.n)) * (pctP ws o6.v)) 100)) * c.m) 100), .int .i64 ((((c.r * (max o5.v c.n)) + (rnd2 ((c.r * (max o5.v c.n)) * (pctP ws o6.v)) 100)) + (rnd2 (((cntP c.l en.m (n1.m + c.o) ys).o) * c.d) 1440)) - (rnd2 (((cntP c.l en.m (n1.m + c.o) ys).s) * c.e) 1440))]) isAgg53 sizeOf53 rfl (B381.at.sub 0 6)⟩ rfl ?_
   have hlv : lvP m = o6.v := by unfold lvP; rw [hq22]
   exact ⟨⟨blP c ws o5.v o6.v (cntP c.l en.m (n1.m + c.o) ys), 0, rfl, .inr ⟨rfl, o5, ys, hq14, (fun h => by rw [hq22] at h; cases h), hyp, hya, by rw [hlv]⟩⟩, u_d⟩
  refine go ?_
  refine x_c func55 rfl rfl (rounded_c (((c.r * (max o5.v c.n)) + (rnd2 ((c.r * (max o5.v c.n)) * (pctP ws o6.v)) 100)) * c.m) 100 _ (by omega) (by omega)) ?_
  rintro _ w384 ⟨rfl, u385⟩ zu385
  refine go ?_
  refine x_s fun w388 sw388 B390 u389 => ?_
  refine go ?_
  refine x_s fun w393 sw393 B395 u394 => ?_
  refine go ?_
  refine x_s fun w398 sw398 B400 u399 => ?_
  refine go ?_
  refine f_ret2 (v1 := .agg #[.int .i64 (c.r * (max o5.v c.n)), .int .i64 (rnd2 ((c.r * (max o5.v c.n)) * (pctP ws o6.v)) 100), .int .i64 (rnd2 (((cntP c.l en.m (n1.m + c.o) ys).o) * c.d) 1440), .int .i64 (rnd2 (((cntP c.l en.m (n1.m + c.o) ys).s) * c.e) 1440), .int .i64 (rnd2 (((c.r * (max o5.v c.n)) + (rnd2 ((c.r * (max o5.v c.n)) * (pctP ws o6.v)) 100)) * c.m) 100), .int .i64 ((((c.r * (max o5.v c.n)) + (rnd2 ((c.r * (max o5.v c.n)) * (pctP ws o6.v)) 100)) + (rnd2 (((cntP c.l en.m (n1.m + c.o) ys).o) * c.d) 1440)) - (rnd2 (((cntP c.l en.m (n1.m + c.o) ys).s) * c.e) 1440))]) (v2 := .int .i64 0) results33 ⟨_, _, rfl, run_loadVarN (vs := [.int .i64 (c.r * (max o5.v c.n)), .int .i64 (rnd2 ((c.r * (max o5.v c.n)) * (pctP ws o6.v)) 100), .int .i64 (rnd2 (((cntP c.l en.m (n1.m + c.o) ys).o) * c.d) 1440), .int .i64 (rnd2 (((cntP c.l en.m (n1.m + c.o) ys).s) * c.e) 1440), .int .i64 (rnd2 (((c.r * (max o5.v c.n)) + (rnd2 ((c.r * (max o5.v c.n)) * (pctP ws o6.v)) 100)) * c.m) 100), .int .i64 ((((c.r * (max o5.v c.n)) + (rnd2 ((c.r * (max o5.v c.n)) * (pctP ws o6.v)) 100)) + (rnd2 (((cntP c.l en.m (n1.m + c.o) ys).o) * c.d) 1440)) - (rnd2 (((cntP c.l en.m (n1.m + c.o) ys).s) * c.e) 1440))]) isAgg53 sizeOf53 rfl (B400.at.sub 0 6)⟩ rfl ?_
  have hlv : lvP m = o6.v := by unfold lvP; rw [hq22]
  exact ⟨⟨blP c ws o5.v o6.v (cntP c.l en.m (n1.m + c.o) ys), 0, rfl, .inr ⟨rfl, o5, ys, hq14, (fun h => by rw [hq22] at h; cases h), hyp, hya, by rw [hlv]⟩⟩, u_d⟩
 refine go ?_
 have B402 := ((((((B289.keep u294 (by omega)).kx u300).keep u303 (by omega)).kx u308).keep u311 (by omega)).kx u316)
 have D403 := (((((((((((hws.keep u5 (fun _ h => h)).keep u55 (fun _ h => h)).keep u58 (fun h9 => show ¬ (bw = bk52) by have := hbw h9; omega)).keep u280 (fun _ h => h)).keep u283 (fun h9 => show ¬ (bw = bk277) by have := hbw h9; omega)).keep u294 (fun h9 => show ¬ ((bw = gE ∧ base ≤ bw)) by have := hbw h9; omega)).keep u300 (fun _ h => h)).keep u303 (fun h9 => show ¬ (bw = bk297) by have := hbw h9; omega)).keep u308 (fun _ h => h)).keep u311 (fun h9 => show ¬ (bw = bk2) by have := hbw h9; omega)).keep u316 (fun _ h => h))
 refine x_c func56 rfl rfl (percent_c px c ws aw bw ow cw r aE ex.length cE o6.v _ B402 D403 hwl) ?_
 rintro _ w405 ⟨rfl, u406⟩ zu406
 refine go ?_
 refine x_c func55 rfl rfl (rounded_c ((c.r * (max o5.v c.n)) * (pctP ws o6.v)) 100 _ (by omega) (by omega)) ?_
 rintro _ w410 ⟨rfl, u411⟩ zu411
 refine go ?_
 refine x_s fun w414 sw414 B416 u415 => ?_
 refine go ?_
 refine c_drawnM follows (fun i => i = bk2) (OTl [0, 2, 4, 6, 8, 10, 12, 14, 17, 18, 21]) (by kernel_rfl) fun w419 u420 => ?_
 have zu420 := u420.size
 refine go ?_
 refine x_c func55 rfl rfl (rounded_c (((cntP c.l en.m (n1.m + c.o) ys).o) * c.d) 1440 _ (by omega) (by omega)) ?_
 rintro _ w423 ⟨rfl, u424⟩ zu424
 refine go ?_
 refine x_s fun w427 sw427 B429 u428 => ?_
 refine go ?_
 refine c_drawnM follows (fun i => i = bk2) (OTl [0, 2, 4, 6, 8, 10, 12, 14, 17, 18, 21]) (by kernel_rfl) fun w432 u433 => ?_
 have zu433 := u433.size
 refine go ?_
 refine x_c func55 rfl rfl (rounded_c (((cntP c.l en.m (n1.m + c.o) ys).s) * c.e) 1440 _ (by omega) (by omega)) ?_
 rintro _ w436 ⟨rfl, u437⟩ zu437
 refine go ?_
 refine x_s fun w440 sw440 B442 u441 => ?_
 refine go ?_
 refine c_drawnM follows (fun i => i = bk2) (.look 0 (.look 2 (.look 5 (.look 6 (.look 7 (.look 8 (.look 9 (.act 1 (.act 3 (.look 4 (.look 10 (.act 11 (.look 12 (.act 13 .done .stop)) .stop))) .stop) (.act 3 (.act 1 (.look 4 (.look 10 (.act 11 (.look 12 (.act 13 .done .stop)) .stop))) .stop) .stop))))))))) (by kernel_rfl) fun w445 u446 => ?_
 have zu446 := u446.size
 refine go ?_
 refine s_or ?_ ?_
 ·
  refine go ?_
  refine x_c func55 rfl rfl (rounded_c (((c.r * (max o5.v c.n)) + (rnd2 ((c.r * (max o5.v c.n)) * (pctP ws o6.v)) 100)) * c.m) 100 _ (by omega) (by omega)) ?_
  rintro _ w449 ⟨rfl, u450⟩ zu450
  refine go ?_
  refine x_s fun w453 sw453 B455 u454 => ?_
  refine go ?_
  refine x_s fun w458 sw458 B460 u459 => ?_
  refine go ?_
  refine x_s fun w463 sw463 B465 u464 => ?_
  refine go ?_
  refine f_ret2 (v1 := .agg #[.int .i64 (c.r * (max o5.v c.n)), .int .i64 (rnd2 ((c.r * (max o5.v c.n)) * (pctP ws o6.v)) 100), .int .i64 (rnd2 (((cntP c.l en.m (n1.m + c.o) ys).o) * c.d) 1440), .int .i64 (rnd2 (((cntP c.l en.m (n1.m + c.o) ys).s) * c.e) 1440), .int .i64 (rnd2 (((c.r * (max o5.v c.n)) + (rnd2 ((c.r * (max o5.v c.n)) * (pctP ws o6.v)) 100)) * c.m) 100), .int .i64 ((((c.r * (max o5.v c.n)) + (rnd2 ((c.r * (max o5.v c.n)) * (pctP ws o6.v)) 100)) + (rnd2 (((cntP c.l en.m (n1.m + c.o) ys).o) * c.d) 1440)) - (rnd2 (((cntP c.l en.m (n1.m + c.o) ys).s) * c.e) 1440))]) (v2 := .int .i64 0) results33 ⟨_, _, rfl, run_loadVarN (vs := [.int .i64 (c.r * (max o5.v c.n)), .int .i64 (rnd2 ((c.r * (max o5.v c.n)) * (pctP ws o6.v)) 100), .int .i64 (rnd2 (((cntP c.l en.m (n1.m + c.o) ys).o) * c.d) 1440), .int .i64 (rnd2 (((cntP c.l en.m (n1.m + c.o) ys).s) * c.e) 1440), .int .i64 (rnd2 (((c.r * (max o5.v c.n)) + (rnd2 ((c.r * (max o5.v c.n)) * (pctP ws o6.v)) 100)) * c.m) 100), .int .i64 ((((c.r * (max o5.v c.n)) + (rnd2 ((c.r * (max o5.v c.n)) * (pctP ws o6.v)) 100)) + (rnd2 (((cntP c.l en.m (n1.m + c.o) ys).o) * c.d) 1440)) - (rnd2 (((cntP c.l en.m (n1.m + c.o) ys).s) * c.e) 1440))]) isAgg53 sizeOf53 rfl (B465.at.sub 0 6)⟩ rfl ?_
  have hlv : lvP m = o6.v := by unfold lvP; rw [hq22]
  exact ⟨⟨blP c ws o5.v o6.v (cntP c.l en.m (n1.m + c.o) ys), 0, rfl, .inr ⟨rfl, o5, ys, hq14, (fun h => by rw [hq22] at h; cases h), hyp, hya, by rw [hlv]⟩⟩, u_d⟩
 refine go ?_
 refine x_c func55 rfl rfl (rounded_c (((c.r * (max o5.v c.n)) + (rnd2 ((c.r * (max o5.v c.n)) * (pctP ws o6.v)) 100)) * c.m) 100 _ (by omega) (by omega)) ?_
 rintro _ w468 ⟨rfl, u469⟩ zu469
 refine go ?_
 refine x_s fun w472 sw472 B474 u473 => ?_
 refine go ?_
 refine x_s fun w477 sw477 B479 u478 => ?_
 refine go ?_
 refine x_s fun w482 sw482 B484 u483 => ?_
 refine go ?_
 refine f_ret2 (v1 := .agg #[.int .i64 (c.r * (max o5.v c.n)), .int .i64 (rnd2 ((c.r * (max o5.v c.n)) * (pctP ws o6.v)) 100), .int .i64 (rnd2 (((cntP c.l en.m (n1.m + c.o) ys).o) * c.d) 1440), .int .i64 (rnd2 (((cntP c.l en.m (n1.m + c.o) ys).s) * c.e) 1440), .int .i64 (rnd2 (((c.r * (max o5.v c.n)) + (rnd2 ((c.r * (max o5.v c.n)) * (pctP ws o6.v)) 100)) * c.m) 100), .int .i64 ((((c.r * (max o5.v c.n)) + (rnd2 ((c.r * (max o5.v c.n)) * (pctP ws o6.v)) 100)) + (rnd2 (((cntP c.l en.m (n1.m + c.o) ys).o) * c.d) 1440)) - (rnd2 (((cntP c.l en.m (n1.m + c.o) ys).s) * c.e) 1440))]) (v2 := .int .i64 0) results33 ⟨_, _, rfl, run_loadVarN (vs := [.int .i64 (c.r * (max o5.v c.n)), .int .i64 (rnd2 ((c.r * (max o5.v c.n)) * (pctP ws o6.v)) 100), .int .i64 (rnd2 (((cntP c.l en.m (n1.m + c.o) ys).o) * c.d) 1440), .int .i64 (rnd2 (((cntP c.l en.m (n1.m + c.o) ys).s) * c.e) 1440), .int .i64 (rnd2 (((c.r * (max o5.v c.n)) + (rnd2 ((c.r * (max o5.v c.n)) * (pctP ws o6.v)) 100)) * c.m) 100), .int .i64 ((((c.r * (max o5.v c.n)) + (rnd2 ((c.r * (max o5.v c.n)) * (pctP ws o6.v)) 100)) + (rnd2 (((cntP c.l en.m (n1.m + c.o) ys).o) * c.d) 1440)) - (rnd2 (((cntP c.l en.m (n1.m + c.o) ys).s) * c.e) 1440))]) isAgg53 sizeOf53 rfl (B484.at.sub 0 6)⟩ rfl ?_
 have hlv : lvP m = o6.v := by unfold lvP; rw [hq22]
 exact ⟨⟨blP c ws o5.v o6.v (cntP c.l en.m (n1.m + c.o) ys), 0, rfl, .inr ⟨rfl, o5, ys, hq14, (fun h => by rw [hq22] at h; cases h), hyp, hya, by rw [hlv]⟩⟩, u_d⟩

end Go.Proofs.YtjkpkbdoljjeiaaGreat
namespace Go.Proofs.YtjkpkbdoljjeiaaGreat
open Go Go.RowKit Go.Proofs.Tryz

theorem OpOk.vals {l out : List Msg} (hR : RdR l out 0) : ∀ a v, gtG (onS out out.length) a = some v → 0 ≤ v.v ∧ v.v ≤ 1000000 := fun a v h => by
  obtain ⟨q1, q2, q3⟩ := hR.facts
  have q4 := (rdE_ok q3).2 _ (q1 _ (onS_mem (Nat.le_refl _) (gtG_mem h)))
  unfold okMsg at q4
  rw [decide_eq_true_eq] at q4
  exact q4.2.2.2.2.2
/-- What Bill returns. -/
def BiR (c : Chr) (ws : List Low) (fr : List Fre) (l : List Msg) (b : Bl) (e : Int) : Prop := (e ≠ 0 ∧ SgE c ws fr l e ∧ b = ⟨0, 0, 0, 0, 0, 0⟩) ∨ (chkCh c ws = 0 ∧ chkFr fr = 0 ∧ oneC l = true ∧ ∃ out ex n1 en, RdR l out 0 ∧ OpOk fr out ex ∧ gtG (onS out out.length) 1 = some n1 ∧ gtG (onS out out.length) 4 = some en ∧ BlR c ws ex (onS out out.length) n1 en b e)

theorem Bill_c (c : Chr) (ws : List Low) (aw : Option Addr) (bw ow cw : Nat) (fr : List Fre) (af : Option Addr) (bf of_ cf : Nat) (l : List Msg) (al : Option Addr) (bl ol cl : Nat) (w0 : World) (hws : Sl encLow 2 w0 aw bw ow ws) (hwl : ws.length ≤ 1000000) (hfr : Sl encFre 2 w0 af bf of_ fr) (hfl : fr.length ≤ 1000000) (hl : Sl encMsg 6 w0 al bl ol l) (hll : l.length ≤ 1000000) (hpos : 0 < w0.heap.size) :
    CallsV Tryz.prog 9 [.agg #[.int .i64 c.s, .int .i64 c.c, .int .i64 c.k, .int .i64 c.r, .int .i64 c.n, .int .i64 c.l, .int .i64 c.o, .int .i64 c.d, .int .i64 c.e, .int .i64 c.m, .slice aw ws.length cw], .slice af fr.length cf, .slice al l.length cl] w0 (fun v w' => (∃ b e, v = .tuple #[.agg (encBl b).toArray, .int .i64 e] ∧ BiR c ws fr l b e) ∧ Ext w0 w') := by
 refine f_n func9 ?_
 refine go ?_
 refine x_b fun bk2 w3 ebk2 sbk2 B4 u5 => ?_
 refine x_n fun bk7 w8 ebk7 sbk7 B9 u10 => ?_
 have E11 := Sc.mk (((Upd.refl (fun _ => False) w0).nx u5).nx u10)
 refine go ?_
 refine x_c func32 rfl rfl (single_c c ws aw bw ow cw fr af bf of_ cf l al bl ol cl _ (hws.keep E11.u (fun _ h => h)) hwl (hfr.keep E11.u (fun _ h => h)) hfl (hl.keep E11.u (fun _ h => h)) hll (by omega)) ?_
 rintro _ w14 ⟨⟨pO, eO, rfl, hO⟩, u15⟩ zu15
 refine go ?_
 refine q_p (fun g18 => ?_) fun g18 => ?_
 ·
  refine go ?_
  refine x_s fun w21 sw21 B23 u22 => ?_
  refine go ?_
  refine f_ret2 (v1 := .agg #[.int .i64 0, .int .i64 0, .int .i64 0, .int .i64 0, .int .i64 0, .int .i64 0]) (v2 := .int .i64 eO) results9 ⟨_, _, rfl, run_loadVarN (vs := [.int .i64 0, .int .i64 0, .int .i64 0, .int .i64 0, .int .i64 0, .int .i64 0]) isAgg53 sizeOf53 rfl (B23.at.sub 0 6)⟩ rfl ?_
  obtain ⟨hp0, he0, hE⟩ := hO.resolve_right (fun h => g18 h.1)
  exact ⟨⟨⟨0, 0, 0, 0, 0, 0⟩, eO, rfl, .inl ⟨he0, hE, rfl⟩⟩, u_d⟩
 obtain ⟨e0, hc0, hf0, h1c, out, hRd, px, r, aE, gE, cE, ex, rfl, hB, hM, hA, hOk⟩ := hO.resolve_left (fun h => h.2.1 (by omega))
 subst e0
 obtain ⟨n1, en, hn1, hn4, hb1, hb4, hexb, hexl⟩ := hOk.data hRd hf0
 have hBl := hB.lt
 have hwlt : 0 < ws.length → bw < w0.heap.size := hws.lt
 have lt_gE := hA.lt
 refine go ?_
 refine x_c func33 rfl rfl (bill_c px c ws aw bw ow cw r aE gE cE w8.heap.size ex (onS out out.length) n1 en _ hB hM hA (by omega) hn1 hn4 hb1 hb4 hc0 hexb hexl (OpOk.vals hRd) (fun h => by have := hwlt h; omega) (hws.keep (E11.u.nx u15) (fun _ h => h)) hwl) ?_
 rintro _ w27 ⟨⟨bB, eB, rfl, hBR⟩, u28⟩ zu28
 refine go ?_
 refine x_s fun w31 sw31 B33 u32 => ?_
 refine go ?_
 refine f_ret2 (v1 := .agg #[.int .i64 bB.f, .int .i64 bB.o, .int .i64 bB.d, .int .i64 bB.e, .int .i64 bB.c, .int .i64 bB.t]) (v2 := .int .i64 eB) results9 ⟨_, _, rfl, run_loadVarN (vs := [.int .i64 bB.f, .int .i64 bB.o, .int .i64 bB.d, .int .i64 bB.e, .int .i64 bB.c, .int .i64 bB.t]) isAgg53 sizeOf53 rfl (B33.at.sub 0 6)⟩ rfl ?_
 exact ⟨⟨bB, eB, rfl, .inr ⟨hc0, hf0, h1c, out, ex, n1, en, hRd, hOk, hn1, hn4, hBR⟩⟩, u_d⟩

end Go.Proofs.YtjkpkbdoljjeiaaGreat
namespace Go.Proofs.YtjkpkbdoljjeiaaGreat
open Go Go.RowKit

/-- Two lists in strict order with the same members are one. -/
theorem sorted_ext {α : Type} {R : α → α → Prop} (ha : ∀ a b, R a b → ¬ R b a) : ∀ {xs ys : List α}, xs.Pairwise R → ys.Pairwise R → (∀ x, x ∈ xs ↔ x ∈ ys) → xs = ys
  | [], [], _, _, _ => rfl
  | [], y :: ys, _, _, h => absurd ((h y).2 (by simp)) (by simp)
  | x :: xs, [], _, _, h => absurd ((h x).1 (by simp)) (by simp)
  | x :: xs, y :: ys, hx, hy, h => by
    rw [List.pairwise_cons] at hx hy
    have e : x = y := by
      rcases List.mem_cons.1 ((h x).1 (by simp)) with q | q
      · exact q
      · rcases List.mem_cons.1 ((h y).2 (by simp)) with q2 | q2
        · exact q2.symm
        · exact absurd (hx.1 y q2) (ha _ _ (hy.1 x q))
    subst e
    have i1 : ∀ z, z ∈ xs → z ≠ x := fun z hz e => ha x x (by have := hx.1 z hz; rwa [e] at this) (by have := hx.1 z hz; rwa [e] at this)
    have i2 : ∀ z, z ∈ ys → z ≠ x := fun z hz e => ha x x (by have := hy.1 z hz; rwa [e] at this) (by have := hy.1 z hz; rwa [e] at this)
    rw [sorted_ext ha hx.2 hy.2 (fun z => ⟨fun hz => (List.mem_cons.1 ((h z).1 (List.mem_cons_of_mem _ hz))).resolve_left (i1 z hz), fun hz => (List.mem_cons.1 ((h z).2 (List.mem_cons_of_mem _ hz))).resolve_left (i2 z hz)⟩)]
theorem Asc.pw {α : Type} [Inhabited α] {c : α → α → Int} {ys : List α} (h : Asc c ys) : ys.Pairwise (fun a b => ¬ c b a < 0) := List.pairwise_iff_getElem.2 fun i j hi hj hij => by
  have := h i j hij hj
  rwa [nth_eq hi, nth_eq hj] at this
section
variable {α β : Type} [DecidableEq α]
def upR (a : α) (v : β) : List (α × β) → List (α × β)
  | [] => [(a, v)]
  | p :: m => if a = p.1 then (a, v) :: m else p :: upR a v m
def gtR (a : α) : List (α × β) → Option β
  | [] => none
  | p :: m => if a = p.1 then some p.2 else gtR a m
theorem fG_shift (a : α) : ∀ (m : List (α × β)) (i : Nat), fG m a (i + 1) = (fG m a i).map fun p => (p.1 + 1, p.2)
  | [], _ => rfl
  | p :: m, i => by
    unfold fG
    split
    · rfl
    · exact fG_shift a m (i + 1)
theorem gtG_eq (a : α) : ∀ (m : List (α × β)), gtG m a = gtR a m
  | [] => rfl
  | p :: m => by
    unfold gtG fG gtR
    split
    · rfl
    · rw [fG_shift, ← gtG_eq a m]
      unfold gtG
      cases fG m a 0 <;> rfl
theorem upG_eq (a : α) (v : β) : ∀ (m : List (α × β)), upG m a v = upR a v m
  | [] => rfl
  | p :: m => by
    have ih := upG_eq a v m
    unfold upG fG upR
    by_cases q : a = p.1
    · simp [q]
    · simp only [if_neg q]
      rw [fG_shift, ← ih]
      unfold upG
      cases fG m a 0 <;> rfl
theorem gtR_upR (a : α) (v : β) (b : α) : ∀ (m : List (α × β)), gtR b (upR a v m) = if b = a then some v else gtR b m
  | [] => by
    unfold upR gtR
    split <;> rfl
  | p :: m => by
    unfold upR
    split
    · rename_i e
      unfold gtR
      by_cases q : b = a
      · simp [q]
      · rw [if_neg q, if_neg q, if_neg (by rw [← e]; exact q)]
    · rename_i e
      rw [gtR, gtR_upR a v b m]
      by_cases q : b = a
      · subst q; rw [if_neg e, if_pos rfl, if_pos rfl]
      · rw [if_neg q, if_neg q, gtR]
theorem upR_key (a : α) (v : β) : ∀ (m : List (α × β)) {k : α}, k ∈ (upR a v m).map (·.1) → k = a ∨ k ∈ m.map (·.1)
  | [], k, h => by simp [upR] at h; exact .inl h
  | p :: m, k, h => by
    unfold upR at h
    split at h
    · rcases List.mem_cons.1 h with q | q
      · exact .inl q
      · exact .inr (List.mem_cons_of_mem _ q)
    · rcases List.mem_cons.1 h with q | q
      · exact .inr (by rw [q]; simp)
      · exact (upR_key a v m q).imp_right (List.mem_cons_of_mem _)
theorem upR_nodup (a : α) (v : β) : ∀ {m : List (α × β)}, (m.map (·.1)).Nodup → ((upR a v m).map (·.1)).Nodup
  | [], _ => by simp [upR]
  | p :: m, h => by
    rw [List.map_cons, List.nodup_cons] at h
    unfold upR
    split
    · rename_i e
      rw [List.map_cons, List.nodup_cons]
      exact ⟨by rw [e]; exact h.1, h.2⟩
    · rename_i e
      rw [List.map_cons, List.nodup_cons]
      exact ⟨fun q => (upR_key a v m q).elim (fun q => e q.symm) h.1, upR_nodup a v h.2⟩
theorem gtR_mem {a : α} {v : β} : ∀ {m : List (α × β)}, gtR a m = some v → (a, v) ∈ m
  | [], h => by cases h
  | p :: m, h => by
    unfold gtR at h
    split at h
    · rename_i e
      simp only [Option.some.injEq] at h
      rw [e, ← h]; simp
    · exact List.mem_cons_of_mem _ (gtR_mem h)
theorem mem_gtR {a : α} {v : β} : ∀ {m : List (α × β)}, (m.map (·.1)).Nodup → (a, v) ∈ m → gtR a m = some v
  | [], _, h => by cases h
  | p :: m, hn, h => by
    rw [List.map_cons, List.nodup_cons] at hn
    unfold gtR
    rcases List.mem_cons.1 h with q | q
    · rw [← q]; simp
    · rw [if_neg (fun e => hn.1 (by rw [← e]; exact List.mem_map.2 ⟨_, q, rfl⟩))]
      exact mem_gtR hn.2 q
end
/-- What the editions' map holds. -/
theorem edS_at {l : List Msg} : ∀ {k : Nat}, k ≤ l.length → ∀ e, (∀ o, gtR e (edS l k) = some o → o ∈ l.take k ∧ edK o = e) ∧ (gtR e (edS l k) = none → ∀ m ∈ l.take k, edK m ≠ e)
  | 0, _, e => ⟨fun o h => (by cases h), fun _ m h => (by simp at h)⟩
  | k + 1, hk, e => by
    obtain ⟨h1, h2⟩ := edS_at (l := l) (k := k) (by omega) e
    rw [edS, upG_eq, gtR_upR, take_nth (show k < l.length by omega)]
    by_cases q : e = edK (nth l k)
    · rw [if_pos q]
      exact ⟨fun o h => by simp only [Option.some.injEq] at h; subst h; exact ⟨by simp, q.symm⟩, fun h => by cases h⟩
    · rw [if_neg q]
      refine ⟨fun o h => ⟨List.mem_append_left _ (h1 o h).1, (h1 o h).2⟩, fun h m hm => ?_⟩
      rcases List.mem_append.1 hm with hm | hm
      · exact h2 h m hm
      · rw [List.mem_singleton.1 hm]; exact fun e9 => q e9.symm
/-- No two messages of one edition differ. -/
def NoEd (l : List Msg) : Prop := ∀ a ∈ l, ∀ b ∈ l, edK a = edK b → a = b
theorem noEd_of {l : List Msg} (h : ∀ k, k < l.length → ¬ edErr l k) : NoEd l := by
  have key : ∀ k, k ≤ l.length → ∀ a ∈ l.take k, ∀ b ∈ l.take k, edK a = edK b → a = b := by
    intro k
    induction k with
    | zero => intro _ a ha; simp at ha
    | succ k ih =>
      intro hk
      have one : ∀ a ∈ l.take k, edK a = edK (nth l k) → a = nth l k := fun a ha e => by
        obtain ⟨h1, h2⟩ := edS_at (l := l) (k := k) (by omega) (edK (nth l k))
        cases hg : gtR (edK (nth l k)) (edS l k) with
        | none => exact absurd e (h2 hg a ha)
        | some o =>
          obtain ⟨h3, h4⟩ := h1 o hg
          have h5 : o = nth l k := Classical.byContradiction fun q => h k (by omega) ⟨o, by rw [gtG_eq]; exact hg, q⟩
          rw [← h5]
          exact ih (by omega) a ha o h3 (by rw [e, h4])
      intro a ha b hb e
      rw [take_nth (show k < l.length by omega)] at ha hb
      rcases List.mem_append.1 ha with ha | ha <;> rcases List.mem_append.1 hb with hb | hb
      · exact ih (by omega) a ha b hb e
      · rw [List.mem_singleton.1 hb] at e ⊢; exact one a ha e
      · rw [List.mem_singleton.1 ha] at e ⊢; exact (one b hb e.symm).symm
      · rw [List.mem_singleton.1 ha, List.mem_singleton.1 hb]
  have := key l.length (Nat.le_refl _)
  rw [List.take_length] at this
  exact this
theorem not_edErr {l : List Msg} (h : NoEd l) {k : Nat} (hk : k < l.length) : ¬ edErr l k := fun ⟨o, hg, hn⟩ => by
  rw [gtG_eq] at hg
  obtain ⟨h1, h2⟩ := (edS_at (l := l) (k := k) (by omega) _).1 o hg
  exact hn (h o (List.mem_of_mem_take h1) _ (nth_mem hk) h2)
/-- What the map of the latest revisions holds. -/
theorem laS_at {l : List Msg} : ∀ {k : Nat}, k ≤ l.length → ((laS l k).map (·.1)).Nodup ∧ ∀ e, (∀ o, gtR e (laS l k) = some o → o ∈ l.take k ∧ keK o = e ∧ ∀ m ∈ l.take k, keK m = e → m.r ≤ o.r) ∧ (gtR e (laS l k) = none → ∀ m ∈ l.take k, keK m ≠ e)
  | 0, _ => ⟨by simp [laS], fun e => ⟨fun o h => (by cases h), fun _ m h => (by simp at h)⟩⟩
  | k + 1, hk => by
    obtain ⟨h0, h12⟩ := laS_at (l := l) (k := k) (by omega)
    rw [take_nth (show k < l.length by omega)]
    by_cases hq : laOld (laS l k) (nth l k) = true
    · rw [laS, if_pos hq, upG_eq]
      refine ⟨upR_nodup _ _ h0, fun e => ?_⟩
      obtain ⟨h1, h2⟩ := h12 e
      rw [gtR_upR]
      by_cases q : e = keK (nth l k)
      · rw [if_pos q]
        refine ⟨fun o h => ?_, fun h => by cases h⟩
        simp only [Option.some.injEq] at h
        subst h
        refine ⟨by simp, q.symm, fun m hm hk9 => ?_⟩
        rcases List.mem_append.1 hm with hm | hm
        · unfold laOld at hq
          rw [gtG_eq, ← q] at hq
          cases hg : gtR e (laS l k) with
          | none => exact absurd hk9 (h2 hg m hm)
          | some o =>
            rw [hg] at hq
            have h3 := (h1 o hg).2.2 m hm hk9
            simp only [decide_eq_true_eq] at hq
            omega
        · rw [List.mem_singleton.1 hm]; exact Int.le_refl _
      · rw [if_neg q]
        refine ⟨fun o h => ⟨List.mem_append_left _ (h1 o h).1, (h1 o h).2.1, fun m hm hk9 => ?_⟩, fun h m hm => ?_⟩
        · rcases List.mem_append.1 hm with hm | hm
          · exact (h1 o h).2.2 m hm hk9
          · rw [List.mem_singleton.1 hm] at hk9; exact absurd hk9.symm q
        · rcases List.mem_append.1 hm with hm | hm
          · exact h2 h m hm
          · rw [List.mem_singleton.1 hm]; exact fun e9 => q e9.symm
    · rw [laS, if_neg hq]
      refine ⟨h0, fun e => ?_⟩
      obtain ⟨h1, h2⟩ := h12 e
      have old : ∃ v, gtR (keK (nth l k)) (laS l k) = some v ∧ (nth l k).r ≤ v.r := by
        unfold laOld at hq
        rw [gtG_eq] at hq
        cases hg : gtR (keK (nth l k)) (laS l k) with
        | none => rw [hg] at hq; simp at hq
        | some v => rw [hg] at hq; simp only [decide_eq_true_eq] at hq; exact ⟨v, rfl, by omega⟩
      obtain ⟨v, hv, hr⟩ := old
      refine ⟨fun o h => ⟨List.mem_append_left _ (h1 o h).1, (h1 o h).2.1, fun m hm hk9 => ?_⟩, fun h m hm => ?_⟩
      · rcases List.mem_append.1 hm with hm | hm
        · exact (h1 o h).2.2 m hm hk9
        · rw [List.mem_singleton.1 hm] at hk9 ⊢
          rw [hk9, h] at hv
          simp only [Option.some.injEq] at hv
          subst hv; exact hr
      · rcases List.mem_append.1 hm with hm | hm
        · exact h2 h m hm
        · rw [List.mem_singleton.1 hm]
          intro e9
          rw [e9, h] at hv
          cases hv
/-- A fact: the latest revision of its message, and not withdrawn. -/
def LastIn (l : List Msg) (x : Msg) : Prop := x ∈ l ∧ x.k ≠ 7 ∧ ∀ m ∈ l, m.c = x.c → m.n = x.n → m.r ≤ x.r
abbrev FLt (a b : Msg) : Prop := cmpF a b < 0
theorem FLt.asym (a b : Msg) (h : FLt a b) : ¬ FLt b a := by
  unfold FLt at *
  rw [cmpF_lt] at *
  omega
theorem cmpF_ne {a b : Msg} (h : ¬ cmpF b a < 0) (hn : keK a ≠ keK b) : cmpF a b < 0 := by
  have : ¬ (a.c = b.c ∧ a.n = b.n) := fun q => hn (by unfold keK; rw [q.1, q.2])
  rw [cmpF_lt] at *
  omega
theorem RdR.spec {l out : List Msg} (h : RdR l out 0) : rdE l = 0 ∧ NoEd l ∧ out.Pairwise FLt ∧ ∀ x, x ∈ out ↔ LastIn l x := by
  rcases h with ⟨h1, h2, _⟩ | ⟨_, h2, _⟩ | ⟨h0, _, hne, hp, ha⟩
  · omega
  · omega
  · have hE := noEd_of hne
    obtain ⟨hn, hl⟩ := laS_at (l := l) (k := l.length) (Nat.le_refl _)
    rw [List.take_length] at hl
    have keyp : ∀ p ∈ laS l l.length, p.1 = keK p.2 := fun p hp => ((hl p.1).1 p.2 (mem_gtR hn hp)).2.1.symm
    refine ⟨h0, hE, ?_, fun x => ?_⟩
    · have h3 : out.Pairwise (fun a b => keK a ≠ keK b) := by
        refine hp.symm.pairwise ?_ (fun {a b} q => fun e => q e.symm)
        refine List.Pairwise.filter _ ?_
        rw [List.pairwise_map]
        have h4 := hn
        unfold List.Nodup at h4
        rw [List.pairwise_map] at h4
        exact h4.imp_of_mem (fun ha hb q e => q (by rw [keyp _ ha, keyp _ hb, e]))
      exact (ha.pw.and h3).imp (fun q => cmpF_ne q.1 q.2)
    · rw [hp.mem_iff, List.mem_filter, List.mem_map]
      constructor
      · rintro ⟨⟨p, hp9, rfl⟩, hk⟩
        have h5 := (hl p.1).1 p.2 (mem_gtR hn hp9)
        exact ⟨h5.1, by simpa using hk, fun m hm hc hn9 => h5.2.2 m hm (by rw [keyp p hp9]; unfold keK; rw [hc, hn9])⟩
      · rintro ⟨hx, hk, hr⟩
        refine ⟨?_, by simpa using hk⟩
        cases hg : gtR (keK x) (laS l l.length) with
        | none => exact absurd rfl ((hl (keK x)).2 hg x hx)
        | some o =>
          obtain ⟨h6, h7, h8⟩ := (hl (keK x)).1 o hg
          have hc : o.c = x.c := congrArg Prod.fst h7
          have hn9 : o.n = x.n := congrArg Prod.snd h7
          have h9 := h8 x hx rfl
          have h10 := hr o h6 hc hn9
          have e : o = x := hE o h6 x hx (by unfold edK; rw [hc, hn9, show o.r = x.r by omega])
          exact ⟨_, gtR_mem hg, e⟩
theorem RdR.err {l out : List Msg} {e : Int} (h : RdR l out e) : (rdE l ≠ 0 ∧ e = rdE l ∧ out = []) ∨ (rdE l = 0 ∧ ¬ NoEd l ∧ e = 6 ∧ out = []) ∨ (rdE l = 0 ∧ NoEd l ∧ e = 0) := by
  rcases h with ⟨h1, h2, h3⟩ | ⟨h0, h2, h3, k, hk, he⟩ | ⟨h0, h2, hne, _⟩
  · exact .inl ⟨h1, h2, h3⟩
  · exact .inr (.inl ⟨h0, fun q => not_edErr q hk he, h2, h3⟩)
  · exact .inr (.inr ⟨h0, noEd_of hne, h2⟩)
end Go.Proofs.YtjkpkbdoljjeiaaGreat
