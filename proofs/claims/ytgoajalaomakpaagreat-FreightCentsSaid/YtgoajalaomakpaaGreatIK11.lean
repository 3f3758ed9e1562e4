/-
  Part 11 of the proof: contracts and plain laws. Conditions: none.
-/
import Derived.Test.YtgoajalaomakpaaGreatIK10
namespace Go.Proofs.YtgoajalaomakpaaGreat
open Go Go.RowKit Go.Proofs.Tryz

theorem ctS_bd {L en b : Int} {fs : List Fre} (hL : 0 ≤ L) (hb : 0 ≤ b ∧ b ≤ 200000) (hen : 0 ≤ en ∧ en ≤ 100000) (hfs : ∀ x ∈ fs, FrBd x) : ∀ k, k ≤ fs.length → (0 ≤ (ctS L en b fs k).u ∧ (ctS L en b fs k).u ≤ L) ∧ (0 ≤ (ctS L en b fs k).a ∧ (ctS L en b fs k).a ≤ 200000)
  | 0, _ => ⟨⟨Int.le_refl _, hL⟩, hb⟩
  | k + 1, hk => by
    obtain ⟨h1, h2⟩ := ctS_bd hL hb hen hfs k (by omega)
    have hf := hfs _ (nth_mem (xs := fs) (i := k) (by omega))
    have hu := ctUse_rng (en := en) h1.2 hf.1 h2
    unfold ctS ctStep
    split
    · exact ⟨h1, h2⟩
    · refine ⟨⟨by show 0 ≤ _ + _; omega, by show _ + _ ≤ L; omega⟩, ?_⟩
      dsimp only
      split <;> omega
theorem cntP_bd {L en b : Int} {ys : List Fre} (hL : 0 ≤ L ∧ L ≤ 100000) (hb : 0 ≤ b ∧ b ≤ 200000) (hen : 0 ≤ en ∧ en ≤ 100000) (hys : ∀ x ∈ ys, FrBd x) : (0 ≤ (cntP L en b ys).o ∧ (cntP L en b ys).o ≤ 100000) ∧ (0 ≤ (cntP L en b ys).s ∧ (cntP L en b ys).s ≤ 100000) := by
  have h := ctS_bd (fs := ys ++ [⟨en, en⟩]) hL.1 hb hen (fun x hx => (List.mem_append.1 hx).elim (hys x) (fun q => by rw [List.mem_singleton.1 q]; exact ⟨hen, hen⟩)) (ys.length + 1) (by rw [List.length_append]; exact Nat.le_refl _)
  simp only [cntP]
  constructor
  · split <;> omega
  · split <;> omega
theorem lowK_any {ws : List Low} : ∀ {k : Nat}, lowK ws k = false → (ws.any fun x => !okLow x) = false
  | 0, h => h
  | k + 1, h => by
    unfold lowK at h
    rw [Bool.or_eq_false_iff] at h
    exact lowK_any h.1
theorem pctP_bd {c : Chr} {ws : List Low} (h : chkCh c ws = 0) (lv : Int) : 0 ≤ pctP ws lv ∧ pctP ws lv ≤ 1000 := by
  unfold pctP
  split
  · omega
  · rename_i x hx
    have hm := List.mem_of_find?_eq_some hx
    unfold chkCh at h
    split at h
    · rename_i q
      unfold okCh at q
      rw [decide_eq_true_eq] at q
      have ha := lowK_any q.1
      cases hb : okLow x
      · have : (ws.any fun x => !okLow x) = true := List.any_eq_true.2 ⟨x, hm, by simp [hb]⟩
        rw [ha] at this; cases this
      · unfold okLow at hb
        rw [decide_eq_true_eq] at hb
        exact hb.2
    · omega
structure Bl where
  f : Int
  o : Int
  d : Int
  e : Int
  c : Int
  t : Int
def encBl (x : Bl) : List Value := [.int .i64 x.f, .int .i64 x.o, .int .i64 x.d, .int .i64 x.e, .int .i64 x.c, .int .i64 x.t]
def lvP (m : List (Int × Msg)) : Int := match gtG m 6 with
  | none => 0
  | some x => x.v
/-- A call settled. -/
def blP (c : Chr) (ws : List Low) (tv lv : Int) (lc : Lc) : Bl :=
  ⟨c.r * max tv c.n, rnd2 (c.r * max tv c.n * pctP ws lv) 100, rnd2 (lc.o * c.d) 1440, rnd2 (lc.s * c.e) 1440, rnd2 ((c.r * max tv c.n + rnd2 (c.r * max tv c.n * pctP ws lv) 100) * c.m) 100,
    c.r * max tv c.n + rnd2 (c.r * max tv c.n * pctP ws lv) 100 + rnd2 (lc.o * c.d) 1440 - rnd2 (lc.s * c.e) 1440⟩
theorem mul_bd {a b A B : Int} (ha : 0 ≤ a ∧ a ≤ A) (hb : 0 ≤ b ∧ b ≤ B) : 0 ≤ a * b ∧ a * b ≤ A * B := ⟨Int.mul_nonneg ha.1 hb.1, Int.mul_le_mul ha.2 hb.2 hb.1 (by omega)⟩
theorem rnd2_bd {a b A : Int} (ha : 0 ≤ a ∧ a ≤ A) (hb : b = 100 ∨ b = 1440) : 0 ≤ rnd2 a b ∧ rnd2 a b ≤ A + 720 := by
  unfold rnd2
  rcases hb with rfl | rfl <;> omega
/-- What bill returns. -/
def BlR (c : Chr) (ws : List Low) (ex : List Fre) (m : List (Int × Msg)) (n1 en : Msg) (b : Bl) (e : Int) : Prop := (e = 7 ∧ b = ⟨0, 0, 0, 0, 0, 0⟩ ∧ (gtG m 5 = none ∨ (gtG m 6 = none ∧ 0 < ws.length))) ∨
  (e = 0 ∧ ∃ t5 ys, gtG m 5 = some t5 ∧ (gtG m 6 = none → ws.length = 0) ∧ List.Perm ys ex ∧ Asc cmpFr ys ∧ b = blP c ws t5.v (lvP m) (cntP c.l en.m (n1.m + c.o) ys))

set_option maxHeartbeats 4000000 in
theorem bill_c (px : Nat) (c : Chr) (ws : List Low) (aw : Option Addr) (bw ow cw r : Nat) (aE : Option Addr) (gE cE base : Nat) (ex : List Fre) (m : List (Int × Msg)) (n1 en : Msg) (w0 : World) (hpx : Blk w0 px 206 [.int .i64 c.s, .int .i64 c.c, .int .i64 c.k, .int .i64 c.r, .int .i64 c.n, .int .i64 c.l, .int .i64 c.o, .int .i64 c.d, .int .i64 c.e, .int .i64 c.m, .slice aw ws.length cw, .map (some r), .slice aE ex.length cE]) (hm : MapG cd1 m w0 r) (hA : Acc encFre 2 88 base w0 aE gE cE ex) (hb : base ≤ w0.heap.size) (hn1 : gtG m 1 = some n1) (hn4 : gtG m 4 = some en) (hb1 : 0 ≤ n1.m ∧ n1.m ≤ 100000) (hb4 : 0 ≤ en.m ∧ en.m ≤ 100000) (hc0 : chkCh c ws = 0) (hexb : ∀ x ∈ ex, FrBd x) (hexl : ex.length ≤ 1000) (hmv : ∀ a v, gtG m a = some v → 0 ≤ v.v ∧ v.v ≤ 1000000) (hbw : 0 < ws.length → bw < base) (hws : Sl encLow 2 w0 aw bw ow ws) (hwl : ws.length ≤ 1000000) :
    CallsV Tryz.prog 82 [.pointer (some ⟨px, 0, none⟩)] w0 (fun v w' => (∃ b e, v = .tuple #[.agg (encBl b).toArray, .int .i64 e] ∧ BlR c ws ex m n1 en b e) ∧ Upd (fun i => i = gE ∧ base ≤ i) w0 w') := by
 have hcr := okCh_rng hc0
 have hpxl := hpx.lt
 have hml := hm.lt
 have hgl := hA.lt
 have hgr : gE < base ∨ gE ≠ r := (Nat.lt_or_ge _ _).imp_right (fun h => hA.neMap hm h)
 have hgp : gE < base ∨ gE ≠ px := (Nat.lt_or_ge _ _).imp_right (fun h => hA.neBlk hpx (by decide) h)
 refine f_n func82 ?_
 refine go ?_
 refine x_n fun bk2 w3 ebk2 sbk2 B4 u5 => ?_
 refine go ?_
 have D8 := (hm.keep u5 (fun h => h))
 refine t_lookG (cd := cd1) (a := (5 : Int)) (m := m) (z := .agg #[.int .i64 0, .int .i64 0, .int .i64 0, .int .i64 0, .int .i64 0, .int .i64 0]) key1_ok underlying204 zeroValue111 rfl rfl rfl rfl D8 (fun hq14 => ?_) (fun o5 hq14 => ?_)
 ·
  iterate 2 refine st1 ?_
  refine t_same 15 (v := .agg #[.int .i64 0, .int .i64 0, .int .i64 0, .int .i64 0, .int .i64 0, .int .i64 0]) rfl rfl ?_
  refine go ?_
  refine x_n fun bk9 w10 ebk9 sbk9 B11 u12 => ?_
  refine x_s fun w14 sw14 B16 u15 => ?_
  refine go ?_
  have D19 := ((D8.keep u12 (fun h => h)).keep u15 (show ¬ (r = bk9) by omega))
  refine t_lookG (cd := cd1) (a := (6 : Int)) (m := m) (z := .agg #[.int .i64 0, .int .i64 0, .int .i64 0, .int .i64 0, .int .i64 0, .int .i64 0]) key1_ok underlying204 zeroValue111 rfl rfl rfl rfl D19 (fun hq22 => ?_) (fun o6 hq22 => ?_)
  ·
   iterate 2 refine st1 ?_
   refine t_same 23 (v := .agg #[.int .i64 0, .int .i64 0, .int .i64 0, .int .i64 0, .int .i64 0, .int .i64 0]) rfl rfl ?_
   refine go ?_
   refine x_n fun bk20 w21 ebk20 sbk20 B22 u23 => ?_
   refine x_s fun w25 sw25 B27 u26 => ?_
   refine go ?_
   refine x_s fun w32 sw32 B34 u33 => ?_
   refine go ?_
   refine f_ret2 (v1 := .agg #[.int .i64 0, .int .i64 0, .int .i64 0, .int .i64 0, .int .i64 0, .int .i64 0]) (v2 := .int .i64 7) results82 ⟨_, _, rfl, run_loadVarN (vs := [.int .i64 0, .int .i64 0, .int .i64 0, .int .i64 0, .int .i64 0, .int .i64 0]) isAgg73 sizeOf73 rfl (B34.at.sub 0 6)⟩ rfl ?_
   exact ⟨⟨⟨0, 0, 0, 0, 0, 0⟩, 7, rfl, .inl ⟨rfl, rfl, .inl hq14⟩⟩, u_d⟩
  iterate 2 refine st1 ?_
  refine t_same 23 (v := .agg #[.int .i64 o6.c, .int .i64 o6.n, .int .i64 o6.r, .int .i64 o6.k, .int .i64 o6.m, .int .i64 o6.v]) rfl rfl ?_
  refine go ?_
  refine x_n fun bk36 w37 ebk36 sbk36 B38 u39 => ?_
  refine x_s fun w41 sw41 B43 u42 => ?_
  refine go ?_
  refine x_s fun w48 sw48 B50 u49 => ?_
  refine go ?_
  refine f_ret2 (v1 := .agg #[.int .i64 0, .int .i64 0, .int .i64 0, .int .i64 0, .int .i64 0, .int .i64 0]) (v2 := .int .i64 7) results82 ⟨_, _, rfl, run_loadVarN (vs := [.int .i64 0, .int .i64 0, .int .i64 0, .int .i64 0, .int .i64 0, .int .i64 0]) isAgg73 sizeOf73 rfl (B50.at.sub 0 6)⟩ rfl ?_
  exact ⟨⟨⟨0, 0, 0, 0, 0, 0⟩, 7, rfl, .inl ⟨rfl, rfl, .inl hq14⟩⟩, u_d⟩
 iterate 2 refine st1 ?_
 refine t_same 15 (v := .agg #[.int .i64 o5.c, .int .i64 o5.n, .int .i64 o5.r, .int .i64 o5.k, .int .i64 o5.m, .int .i64 o5.v]) rfl rfl ?_
 refine go ?_
 refine x_n fun bk52 w53 ebk52 sbk52 B54 u55 => ?_
 refine x_s fun w57 sw57 B59 u58 => ?_
 refine go ?_
 have D62 := ((D8.keep u55 (fun h => h)).keep u58 (show ¬ (r = bk52) by omega))
 refine t_lookG (cd := cd1) (a := (6 : Int)) (m := m) (z := .agg #[.int .i64 0, .int .i64 0, .int .i64 0, .int .i64 0, .int .i64 0, .int .i64 0]) key1_ok underlying204 zeroValue111 rfl rfl rfl rfl D62 (fun hq22 => ?_) (fun o6 hq22 => ?_)
 ·
  iterate 2 refine st1 ?_
  refine t_same 23 (v := .agg #[.int .i64 0, .int .i64 0, .int .i64 0, .int .i64 0, .int .i64 0, .int .i64 0]) rfl rfl ?_
  refine go ?_
  refine x_n fun bk63 w64 ebk63 sbk63 B65 u66 => ?_
  refine x_s fun w68 sw68 B70 u69 => ?_
  refine go ?_
  refine q_p (fun g39 => ?_) fun g39 => ?_
  ·
   refine go ?_
   refine x_s fun w75 sw75 B77 u76 => ?_
   refine go ?_
   refine f_ret2 (v1 := .agg #[.int .i64 0, .int .i64 0, .int .i64 0, .int .i64 0, .int .i64 0, .int .i64 0]) (v2 := .int .i64 7) results82 ⟨_, _, rfl, run_loadVarN (vs := [.int .i64 0, .int .i64 0, .int .i64 0, .int .i64 0, .int .i64 0, .int .i64 0]) isAgg73 sizeOf73 rfl (B77.at.sub 0 6)⟩ rfl ?_
   exact ⟨⟨⟨0, 0, 0, 0, 0, 0⟩, 7, rfl, .inl ⟨rfl, rfl, .inr ⟨hq22, by omega⟩⟩⟩, u_d⟩
  refine go ?_
  have B80 := (((((hpx.kx u5).kx u55).keep u58 (by omega)).kx u66).keep u69 (by omega))
  have D81 := ((D62.keep u66 (fun h => h)).keep u69 (show ¬ (r = bk63) by omega))
  have D82 := (((((hA.keep u5 (fun _ h => h)).keep u55 (fun _ h => h)).keep u58 (fun hb9 => show ¬ (gE = bk52) by first | omega | assumption)).keep u66 (fun _ h => h)).keep u69 (fun hb9 => show ¬ (gE = bk63) by first | omega | assumption))
  refine x_c func84 rfl rfl (count_c px c ws aw cw r aE gE cE base ex m n1 en _ B80 D81 D82 (by omega) hn1 hn4 hb1 hb4 hcr.2.2.2.2.1.2 hcr.2.2.2.2.1.1 hexb hexl) ?_
  rintro _ w84 ⟨⟨ys, hyp, hya, rfl⟩, u85⟩ zu85
  have hcb := cntP_bd (ys := ys) hcr.2.2.2.2.1.1 (show 0 ≤ n1.m + c.o ∧ n1.m + c.o ≤ 200000 by omega) hb4 (fun x hx => hexb x (hyp.mem_iff.1 hx))
  have hv5 := hmv _ _ hq14
  have hmx : 0 ≤ max o5.v c.n ∧ max o5.v c.n ≤ 1000000 := by omega
  have hfr9 := mul_bd hcr.2.2.1 hmx
  have hbo1 := mul_bd hfr9 (pctP_bd hc0 (0))
  have hbo9 := rnd2_bd hbo1 (.inl rfl : (100 : Int) = 100 ∨ (100 : Int) = 1440)
  have hde1 := mul_bd hcb.1 hcr.2.2.2.2.2.1.1
  have hde9 := rnd2_bd hde1 (.inr rfl : (1440 : Int) = 100 ∨ (1440 : Int) = 1440)
  have hds1 := mul_bd hcb.2 hcr.2.2.2.2.2.1.2
  have hds9 := rnd2_bd hds1 (.inr rfl : (1440 : Int) = 100 ∨ (1440 : Int) = 1440)
  have hsm9 : 0 ≤ c.r * max o5.v c.n + rnd2 (c.r * max o5.v c.n * pctP ws 0) 100 ∧ c.r * max o5.v c.n + rnd2 (c.r * max o5.v c.n * pctP ws 0) 100 ≤ 2000000000000000 := by omega
  have hcm1 := mul_bd hsm9 hcr.2.2.2.2.2.2
  have hcm9 := rnd2_bd hcm1 (.inl rfl : (100 : Int) = 100 ∨ (100 : Int) = 1440)
  refine x_n fun bk88 w89 ebk88 sbk88 B90 u91 => ?_
  refine x_s fun w93 sw93 B95 u94 => ?_
  refine go ?_
  refine c_drawnM follows (fun i => i = bk2) (OTl [0, 2, 4, 6, 8, 10, 12, 14, 16, 18, 20, 22, 24, 26, 28, 31]) (by kernel_rfl) fun w98 u99 => ?_
  have zu99 := u99.size
  refine go ?_
  refine y_max rfl rfl rfl rfl ?_
  refine go ?_
  refine x_s fun w101 sw101 B103 u102 => ?_
  refine go ?_
  refine c_drawnM follows (fun i => i = bk2) (.look 0 (.look 2 (.look 3 (.look 4 (.act 1 (.act 5 (.look 6 (.act 7 (.look 8 (.act 9 .done .stop)) .stop)) .stop) (.act 5 (.act 1 (.look 6 (.act 7 (.look 8 (.act 9 .done .stop)) .stop)) .stop) .stop)))))) (by kernel_rfl) fun w106 u107 => ?_
  have zu107 := u107.size
  refine go ?_
  refine s_or ?_ ?_
  ·
   refine go ?_
   have B109 := ((((((B80.keep u85 (by omega)).kx u91).keep u94 (by omega)).kx u99).keep u102 (by omega)).kx u107)
   have D110 := (((((((((((hws.keep u5 (fun _ h => h)).keep u55 (fun _ h => h)).keep u58 (fun h9 => show ¬ (bw = bk52) by have := hbw h9; omega)).keep u66 (fun _ h => h)).keep u69 (fun h9 => show ¬ (bw = bk63) by have := hbw h9; omega)).keep u85 (fun h9 => show ¬ ((bw = gE ∧ base ≤ bw)) by have := hbw h9; omega)).keep u91 (fun _ h => h)).keep u94 (fun h9 => show ¬ (bw = bk88) by have := hbw h9; omega)).keep u99 (fun _ h => h)).keep u102 (fun h9 => show ¬ (bw = bk2) by have := hbw h9; omega)).keep u107 (fun _ h => h))
   refine x_c func120 rfl rfl (percent_c px c ws aw bw ow cw r aE ex.length cE 0 _ B109 D110 hwl) ?_
   rintro _ w112 ⟨rfl, u113⟩ zu113
   refine go ?_
   refine x_c func119 rfl rfl (rounded_c ((c.r * (max o5.v c.n)) * (pctP ws 0)) 100 _ (by omega) (by omega)) ?_
   rintro _ w117 ⟨rfl, u118⟩ zu118
   refine go ?_
   refine x_s fun w121 sw121 B123 u122 => ?_
   refine go ?_
   refine c_drawnM follows (fun i => i = bk2) (OTl [0, 2, 4, 6, 8, 10, 12, 14, 17, 18, 21]) (by kernel_rfl) fun w126 u127 => ?_
   have zu127 := u127.size
   refine go ?_
   refine x_c func119 rfl rfl (rounded_c (((cntP c.l en.m (n1.m + c.o) ys).o) * c.d) 1440 _ (by omega) (by omega)) ?_
   rintro _ w130 ⟨rfl, u131⟩ zu131
   refine go ?_
   refine x_s fun w134 sw134 B136 u135 => ?_
   refine go ?_
   refine c_drawnM follows (fun i => i = bk2) (OTl [0, 2, 4, 6, 8, 10, 12, 14, 17, 18, 21]) (by kernel_rfl) fun w139 u140 => ?_
   have zu140 := u140.size
   refine go ?_
   refine x_c func119 rfl rfl (rounded_c (((cntP c.l en.m (n1.m + c.o) ys).s) * c.e) 1440 _ (by omega) (by omega)) ?_
   rintro _ w143 ⟨rfl, u144⟩ zu144
   refine go ?_
   refine x_s fun w147 sw147 B149 u148 => ?_
   refine go ?_
   refine c_drawnM follows (fun i => i = bk2) (.look 0 (.look 2 (.look 5 (.look 6 (.look 7 (.look 8 (.look 9 (.act 1 (.act 3 (.look 4 (.look 10 (.act 11 (.look 12 (.act 13 .done .stop)) .stop))) .stop) (.act 3 (.act 1 (.look 4 (.look 10 (.act 11 (.look 12 (.act 13 .done .stop)) .stop))) .stop) .stop))))))))) (by kernel_rfl) fun w152 u153 => ?_
   have zu153 := u153.size
   refine go ?_
   refine s_or ?_ ?_
   ·
    refine go ?_
    refine x_c func119 rfl rfl (rounded_c (((c.r * (max o5.v c.n)) + (rnd2 ((c.r * (max o5.v c.n)) * (pctP ws 0)) 100)) * c.m) 100 _ (by omega) (by omega)) ?_
    rintro _ w156 ⟨rfl, u157⟩ zu157
    refine go ?_
    refine x_s fun w160 sw160 B162 u161 => ?_
    refine go ?_
    refine x_s fun w165 sw165 B167 u166 => ?_
    refine go ?_
    refine x_s fun w170 sw170 B172 u171 => ?_
    refine go ?_
    refine f_ret2 (v1 := .agg #[.int .i64 (c.r * (max o5.v c.n)), .int .i64 (rnd2 ((c.r * (max o5.v c.n)) * (pctP ws 0)) 100), .int .i64 (rnd2 (((cntP c.l en.m (n1.m + c.o) ys).o) * c.d) 1440), .int .i64 (rnd2 (((cntP c.l en.m (n1.m + c.o) ys).s) * c.e) 1440), .int .i64 (rnd2 (((c.r * (max o5.v c.n)) + (rnd2 ((c.r * (max o5.v c.n)) * (pctP ws 0)) 100)) * c.m) 100), .int .i64 ((((c.r * (max o5.v c.n)) + (rnd2 ((c.r * (max o5.v c.n)) * (pctP ws 0)) 100)) + (rnd2 (((cntP c.l en.m (n1.m + c.o) ys).o) * c.d) 1440)) - (rnd2 (((cntP c.l en.m (n1.m + c.o) ys).s) * c.e) 1440))]) (v2 := .int .i64 0) results82 ⟨_, _, rfl, run_loadVarN (vs := [.int .i64 (c.r * (max o5.v c.n)), .int .i64 (rnd2 ((c.r * (max o5.v c.n)) * (pctP ws 0)) 100), .int .i64 (rnd2 (((cntP c.l en.m (n1.m + c.o) ys).o) * c.d) 1440), .int .i64 (rnd2 (((cntP c.l en.m (n1.m + c.o) ys).s) * c.e) 1440), .int .i64 (rnd2 (((c.r * (max o5.v c.n)) + (rnd2 ((c.r * (max o5.v c.n)) * (pctP ws 0)) 100)) * c.m) 100), .int .i64 ((((c.r * (max o5.v c.n)) + (rnd2 ((c.r * (max o5.v c.n)) * (pctP ws 0)) 100)) + (rnd2 (((cntP c.l en.m (n1.m + c.o) ys).o) * c.d) 1440)) - (rnd2 (((cntP c.l en.m (n1.m + c.o) ys).s) * c.e) 1440))]) isAgg73 sizeOf73 rfl (B172.at.sub 0 6)⟩ rfl ?_
    have hlv : lvP m = 0 := by unfold lvP; rw [hq22]
    exact ⟨⟨blP c ws o5.v 0 (cntP c.l en.m (n1.m + c.o) ys), 0, rfl, .inr ⟨rfl, o5, ys, hq14, (fun _ => by omega), hyp, hya, by rw [hlv]⟩⟩, u_d⟩
   refine go ?_
   refine x_c func119 rfl rfl (rounded_c (((c.r * (max o5.v c.n)) + (rnd2 ((c.r * (max o5.v c.n)) * (pctP ws 0)) 100)) * c.m) 100 _ (by omega) (by omega)) ?_
   rintro _ w175 ⟨rfl, u176⟩ zu176
   refine go ?_
   refine x_s fun w179 sw179 B181 u180 => ?_
   refine go ?_
   refine x_s fun w184 sw184 B186 u185 => ?_
   refine go ?_
   refine x_s fun w189 sw189 B191 u190 => ?_
   refine go ?_
   refine f_ret2 (v1 := .agg #[.int .i64 (c.r * (max o5.v c.n)), .int .i64 (rnd2 ((c.r * (max o5.v c.n)) * (pctP ws 0)) 100), .int .i64 (rnd2 (((cntP c.l en.m (n1.m + c.o) ys).o) * c.d) 1440), .int .i64 (rnd2 (((cntP c.l en.m (n1.m + c.o) ys).s) * c.e) 1440), .int .i64 (rnd2 (((c.r * (max o5.v c.n)) + (rnd2 ((c.r * (max o5.v c.n)) * (pctP ws 0)) 100)) * c.m) 100), .int .i64 ((((c.r * (max o5.v c.n)) + (rnd2 ((c.r * (max o5.v c.n)) * (pctP ws 0)) 100)) + (rnd2 (((cntP c.l en.m (n1.m + c.o) ys).o) * c.d) 1440)) - (rnd2 (((cntP c.l en.m (n1.m + c.o) ys).s) * c.e) 1440))]) (v2 := .int .i64 0) results82 ⟨_, _, rfl, run_loadVarN (vs := [.int .i64 (c.r * (max o5.v c.n)), .int .i64 (rnd2 ((c.r * (max o5.v c.n)) * (pctP ws 0)) 100), .int .i64 (rnd2 (((cntP c.l en.m (n1.m + c.o) ys).o) * c.d) 1440), .int .i64 (rnd2 (((cntP c.l en.m (n1.m + c.o) ys).s) * c.e) 1440), .int .i64 (rnd2 (((c.r * (max o5.v c.n)) + (rnd2 ((c.r * (max o5.v c.n)) * (pctP ws 0)) 100)) * c.m) 100), .int .i64 ((((c.r * (max o5.v c.n)) + (rnd2 ((c.r * (max o5.v c.n)) * (pctP ws 0)) 100)) + (rnd2 (((cntP c.l en.m (n1.m + c.o) ys).o) * c.d) 1440)) - (rnd2 (((cntP c.l en.m (n1.m + c.o) ys).s) * c.e) 1440))]) isAgg73 sizeOf73 rfl (B191.at.sub 0 6)⟩ rfl ?_
   have hlv : lvP m = 0 := by unfold lvP; rw [hq22]
   exact ⟨⟨blP c ws o5.v 0 (cntP c.l en.m (n1.m + c.o) ys), 0, rfl, .inr ⟨rfl, o5, ys, hq14, (fun _ => by omega), hyp, hya, by rw [hlv]⟩⟩, u_d⟩
  refine go ?_
  have B193 := ((((((B80.keep u85 (by omega)).kx u91).keep u94 (by omega)).kx u99).keep u102 (by omega)).kx u107)
  have D194 := (((((((((((hws.keep u5 (fun _ h => h)).keep u55 (fun _ h => h)).keep u58 (fun h9 => show ¬ (bw = bk52) by have := hbw h9; omega)).keep u66 (fun _ h => h)).keep u69 (fun h9 => show ¬ (bw = bk63) by have := hbw h9; omega)).keep u85 (fun h9 => show ¬ ((bw = gE ∧ base ≤ bw)) by have := hbw h9; omega)).keep u91 (fun _ h => h)).keep u94 (fun h9 => show ¬ (bw = bk88) by have := hbw h9; omega)).keep u99 (fun _ h => h)).keep u102 (fun h9 => show ¬ (bw = bk2) by have := hbw h9; omega)).keep u107 (fun _ h => h))
  refine x_c func120 rfl rfl (percent_c px c ws aw bw ow cw r aE ex.length cE 0 _ B193 D194 hwl) ?_
  rintro _ w196 ⟨rfl, u197⟩ zu197
  refine go ?_
  refine x_c func119 rfl rfl (rounded_c ((c.r * (max o5.v c.n)) * (pctP ws 0)) 100 _ (by omega) (by omega)) ?_
  rintro _ w201 ⟨rfl, u202⟩ zu202
  refine go ?_
  refine x_s fun w205 sw205 B207 u206 => ?_
  refine go ?_
  refine c_drawnM follows (fun i => i = bk2) (OTl [0, 2, 4, 6, 8, 10, 12, 14, 17, 18, 21]) (by kernel_rfl) fun w210 u211 => ?_
  have zu211 := u211.size
  refine go ?_
  refine x_c func119 rfl rfl (rounded_c (((cntP c.l en.m (n1.m + c.o) ys).o) * c.d) 1440 _ (by omega) (by omega)) ?_
  rintro _ w214 ⟨rfl, u215⟩ zu215
  refine go ?_
  refine x_s fun w218 sw218 B220 u219 => ?_
  refine go ?_
  refine c_drawnM follows (fun i => i = bk2) (OTl [0, 2, 4, 6, 8, 10, 12, 14, 17, 18, 21]) (by kernel_rfl) fun w223 u224 => ?_
  have zu224 := u224.size
  refine go ?_
  refine x_c func119 rfl rfl (rounded_c (((cntP c.l en.m (n1.m + c.o) ys).s) * c.e) 1440 _ (by omega) (by omega)) ?_
  rintro _ w227 ⟨rfl, u228⟩ zu228
  refine go ?_
  refine x_s fun w231 sw231 B233 u232 => ?_
  refine go ?_
  refine c_drawnM follows (fun i => i = bk2) (.look 0 (.look 2 (.look 5 (.look 6 (.look 7 (.look 8 (.look 9 (.act 1 (.act 3 (.look 4 (.look 10 (.act 11 (.look 12 (.act 13 .done .stop)) .stop))) .stop) (.act 3 (.act 1 (.look 4 (.look 10 (.act 11 (.look 12 (.act 13 .done .stop)) .stop))) .stop) .stop))))))))) (by kernel_rfl) fun w236 u237 => ?_
  have zu237 := u237.size
  refine go ?_
  refine s_or ?_ ?_
  ·
   refine go ?_
   refine x_c func119 rfl rfl (rounded_c (((c.r * (max o5.v c.n)) + (rnd2 ((c.r * (max o5.v c.n)) * (pctP ws 0)) 100)) * c.m) 100 _ (by omega) (by omega)) ?_
   rintro _ w240 ⟨rfl, u241⟩ zu241
   refine go ?_
   refine x_s fun w244 sw244 B246 u245 => ?_
   refine go ?_
   refine x_s fun w249 sw249 B251 u250 => ?_
   refine go ?_
   refine x_s fun w254 sw254 B256 u255 => ?_
   refine go ?_
   refine f_ret2 (v1 := .agg #[.int .i64 (c.r * (max o5.v c.n)), .int .i64 (rnd2 ((c.r * (max o5.v c.n)) * (pctP ws 0)) 100), .int .i64 (rnd2 (((cntP c.l en.m (n1.m + c.o) ys).o) * c.d) 1440), .int .i64 (rnd2 (((cntP c.l en.m (n1.m + c.o) ys).s) * c.e) 1440), .int .i64 (rnd2 (((c.r * (max o5.v c.n)) + (rnd2 ((c.r * (max o5.v c.n)) * (pctP ws 0)) 100)) * c.m) 100), .int .i64 ((((c.r * (max o5.v c.n)) + (rnd2 ((c.r * (max o5.v c.n)) * (pctP ws 0)) 100)) + (rnd2 (((cntP c.l en.m (n1.m + c.o) ys).o) * c.d) 1440)) - (rnd2 (((cntP c.l en.m (n1.m + c.o) ys).s) * c.e) 1440))]) (v2 := .int .i64 0) results82 ⟨_, _, rfl, run_loadVarN (vs := [.int .i64 (c.r * (max o5.v c.n)), .int .i64 (rnd2 ((c.r * (max o5.v c.n)) * (pctP ws 0)) 100), .int .i64 (rnd2 (((cntP c.l en.m (n1.m + c.o) ys).o) * c.d) 1440), .int .i64 (rnd2 (((cntP c.l en.m (n1.m + c.o) ys).s) * c.e) 1440), .int .i64 (rnd2 (((c.r * (max o5.v c.n)) + (rnd2 ((c.r * (max o5.v c.n)) * (pctP ws 0)) 100)) * c.m) 100), .int .i64 ((((c.r * (max o5.v c.n)) + (rnd2 ((c.r * (max o5.v c.n)) * (pctP ws 0)) 100)) + (rnd2 (((cntP c.l en.m (n1.m + c.o) ys).o) * c.d) 1440)) - (rnd2 (((cntP c.l en.m (n1.m + c.o) ys).s) * c.e) 1440))]) isAgg73 sizeOf73 rfl (B256.at.sub 0 6)⟩ rfl ?_
   have hlv : lvP m = 0 := by unfold lvP; rw [hq22]
   exact ⟨⟨blP c ws o5.v 0 (cntP c.l en.m (n1.m + c.o) ys), 0, rfl, .inr ⟨rfl, o5, ys, hq14, (fun _ => by omega), hyp, hya, by rw [hlv]⟩⟩, u_d⟩
  refine go ?_
  refine x_c func119 rfl rfl (rounded_c (((c.r * (max o5.v c.n)) + (rnd2 ((c.r * (max o5.v c.n)) * (pctP ws 0)) 100)) * c.m) 100 _ (by omega) (by omega)) ?_
  rintro _ w259 ⟨rfl, u260⟩ zu260
  refine go ?_
  refine x_s fun w263 sw263 B265 u264 => ?_
  refine go ?_
  refine x_s fun w268 sw268 B270 u269 => ?_
  refine go ?_
  refine x_s fun w273 sw273 B275 u274 => ?_
  refine go ?_
  refine f_ret2 (v1 := .agg #[.int .i64 (c.r * (max o5.v c.n)), .int .i64 (rnd2 ((c.r * (max o5.v c.n)) * (pctP ws 0)) 100), .int .i64 (rnd2 (((cntP c.l en.m (n1.m + c.o) ys).o) * c.d) 1440), .int .i64 (rnd2 (((cntP c.l en.m (n1.m + c.o) ys).s) * c.e) 1440), .int .i64 (rnd2 (((c.r * (max o5.v c.n)) + (rnd2 ((c.r * (max o5.v c.n)) * (pctP ws 0)) 100)) * c.m) 100), .int .i64 ((((c.r * (max o5.v c.n)) + (rnd2 ((c.r * (max o5.v c.n)) * (pctP ws 0)) 100)) + (rnd2 (((cntP c.l en.m (n1.m + c.o) ys).o) * c.d) 1440)) - (rnd2 (((cntP c.l en.m (n1.m + c.o) ys).s) * c.e) 1440))]) (v2 := .int .i64 0) results82 ⟨_, _, rfl, run_loadVarN (vs := [.int .i64 (c.r * (max o5.v c.n)), .int .i64 (rnd2 ((c.r * (max o5.v c.n)) * (pctP ws 0)) 100), .int .i64 (rnd2 (((cntP c.l en.m (n1.m + c.o) ys).o) * c.d) 1440), .int .i64 (rnd2 (((cntP c.l en.m (n1.m + c.o) ys).s) * c.e) 1440), .int .i64 (rnd2 (((c.r * (max o5.v c.n)) + (rnd2 ((c.r * (max o5.v c.n)) * (pctP ws 0)) 100)) * c.m) 100), .int .i64 ((((c.r * (max o5.v c.n)) + (rnd2 ((c.r * (max o5.v c.n)) * (pctP ws 0)) 100)) + (rnd2 (((cntP c.l en.m (n1.m + c.o) ys).o) * c.d) 1440)) - (rnd2 (((cntP c.l en.m (n1.m + c.o) ys).s) * c.e) 1440))]) isAgg73 sizeOf73 rfl (B275.at.sub 0 6)⟩ rfl ?_
  have hlv : lvP m = 0 := by unfold lvP; rw [hq22]
  exact ⟨⟨blP c ws o5.v 0 (cntP c.l en.m (n1.m + c.o) ys), 0, rfl, .inr ⟨rfl, o5, ys, hq14, (fun _ => by omega), hyp, hya, by rw [hlv]⟩⟩, u_d⟩
 iterate 2 refine st1 ?_
 refine t_same 23 (v := .agg #[.int .i64 o6.c, .int .i64 o6.n, .int .i64 o6.r, .int .i64 o6.k, .int .i64 o6.m, .int .i64 o6.v]) rfl rfl ?_
 refine go ?_
 refine x_n fun bk277 w278 ebk277 sbk277 B279 u280 => ?_
 refine x_s fun w282 sw282 B284 u283 => ?_
 refine go ?_
 have B289 := (((((hpx.kx u5).kx u55).keep u58 (by omega)).kx u280).keep u283 (by omega))
 have D290 := ((D62.keep u280 (fun h => h)).keep u283 (show ¬ (r = bk277) by omega))
 have D291 := (((((hA.keep u5 (fun _ h => h)).keep u55 (fun _ h => h)).keep u58 (fun hb9 => show ¬ (gE = bk52) by first | omega | assumption)).keep u280 (fun _ h => h)).keep u283 (fun hb9 => show ¬ (gE = bk277) by first | omega | assumption))
 refine x_c func84 rfl rfl (count_c px c ws aw cw r aE gE cE base ex m n1 en _ B289 D290 D291 (by omega) hn1 hn4 hb1 hb4 hcr.2.2.2.2.1.2 hcr.2.2.2.2.1.1 hexb hexl) ?_
 rintro _ w293 ⟨⟨ys, hyp, hya, rfl⟩, u294⟩ zu294
 have hcb := cntP_bd (ys := ys) hcr.2.2.2.2.1.1 (show 0 ≤ n1.m + c.o ∧ n1.m + c.o ≤ 200000 by omega) hb4 (fun x hx => hexb x (hyp.mem_iff.1 hx))
 have hv5 := hmv _ _ hq14
 have hmx : 0 ≤ max o5.v c.n ∧ max o5.v c.n ≤ 1000000 := by omega
 have hfr9 := mul_bd hcr.2.2.1 hmx
 have hbo1 := mul_bd hfr9 (pctP_bd hc0 (o6.v))
 have hbo9 := rnd2_bd hbo1 (.inl rfl : (100 : Int) = 100 ∨ (100 : Int) = 1440)
 have hde1 := mul_bd hcb.1 hcr.2.2.2.2.2.1.1
 have hde9 := rnd2_bd hde1 (.inr rfl : (1440 : Int) = 100 ∨ (1440 : Int) = 1440)
 have hds1 := mul_bd hcb.2 hcr.2.2.2.2.2.1.2
 have hds9 := rnd2_bd hds1 (.inr rfl : (1440 : Int) = 100 ∨ (1440 : Int) = 1440)
 have hsm9 : 0 ≤ c.r * max o5.v c.n + rnd2 (c.r * max o5.v c.n * pctP ws o6.v) 100 ∧ c.r * max o5.v c.n + rnd2 (c.r * max o5.v c.n * pctP ws o6.v) 100 ≤ 2000000000000000 := by omega
 have hcm1 := mul_bd hsm9 hcr.2.2.2.2.2.2
 have hcm9 := rnd2_bd hcm1 (.inl rfl : (100 : Int) = 100 ∨ (100 : Int) = 1440)
 refine x_n fun bk297 w298 ebk297 sbk297 B299 u300 => ?_
 refine x_s fun w302 sw302 B304 u303 => ?_
 refine go ?_
 refine c_drawnM follows (fun i => i = bk2) (OTl [0, 2, 4, 6, 8, 10, 12, 14, 16, 18, 20, 22, 24, 26, 28, 31]) (by kernel_rfl) fun w307 u308 => ?_
 have zu308 := u308.size
 refine go ?_
 refine y_max rfl rfl rfl rfl ?_
 refine go ?_
 refine x_s fun w310 sw310 B312 u311 => ?_
 refine go ?_
 refine c_drawnM follows (fun i => i = bk2) (.look 0 (.look 2 (.look 3 (.look 4 (.act 1 (.act 5 (.look 6 (.act 7 (.look 8 (.act 9 .done .stop)) .stop)) .stop) (.act 5 (.act 1 (.look 6 (.act 7 (.look 8 (.act 9 .done .stop)) .stop)) .stop) .stop)))))) (by kernel_rfl) fun w315 u316 => ?_
 have zu316 := u316.size
 refine go ?_
 refine s_or ?_ ?_
 ·
  refine go ?_
  have B318 := ((((((B289.keep u294 (by omega)).kx u300).keep u303 (by omega)).kx u308).keep u311 (by omega)).kx u316)
  have D319 := (((((((((((hws.keep u5 (fun _ h => h)).keep u55 (fun _ h => h)).keep u58 (fun h9 => show ¬ (bw = bk52) by have := hbw h9; omega)).keep u280 (fun _ h => h)).keep u283 (fun h9 => show ¬ (bw = bk277) by have := hbw h9; omega)).keep u294 (fun h9 => show ¬ ((bw = gE ∧ base ≤ bw)) by have := hbw h9; omega)).keep u300 (fun _ h => h)).keep u303 (fun h9 => show ¬ (bw = bk297) by have := hbw h9; omega)).keep u308 (fun _ h => h)).keep u311 (fun h9 => show ¬ (bw = bk2) by have := hbw h9; omega)).keep u316 (fun _ h => h))
  refine x_c func120 rfl rfl (percent_c px c ws aw bw ow cw r aE ex.length cE o6.v _ B318 D319 hwl) ?_
  rintro _ w321 ⟨rfl, u322⟩ zu322
  refine go ?_
  refine x_c func119 rfl rfl (rounded_c ((c.r * (max o5.v c.n)) * (pctP ws o6.v)) 100 _ (by omega) (by omega)) ?_
  rintro _ w326 ⟨rfl, u327⟩ zu327
  refine go ?_
  refine x_s fun w330 sw330 B332 u331 => ?_
  refine go ?_
  refine c_drawnM follows (fun i => i = bk2) (OTl [0, 2, 4, 6, 8, 10, 12, 14, 17, 18, 21]) (by kernel_rfl) fun w335 u336 => ?_
  have zu336 := u336.size
  refine go ?_
  refine x_c func119 rfl rfl (rounded_c (((cntP c.l en.m (n1.m + c.o) ys).o) * c.d) 1440 _ (by omega) (by omega)) ?_
  rintro _ w339 ⟨rfl, u340⟩ zu340
  refine go ?_
  refine x_s fun w343 sw343 B345 u344 => ?_
  refine go ?_
  refine c_drawnM follows (fun i => i = bk2) (OTl [0, 2, 4, 6, 8, 10, 12, 14, 17, 18, 21]) (by kernel_rfl) fun w348 u349 => ?_
  have zu349 := u349.size
  refine go ?_
  refine x_c func119 rfl rfl (rounded_c (((cntP c.l en.m (n1.m + c.o) ys).s) * c.e) 1440 _ (by omega) (by omega)) ?_
  rintro _ w352 ⟨rfl, u353⟩ zu353
  refine go ?_
  refine x_s fun w356 sw356 B358 u357 => ?_
  refine go ?_
  refine c_drawnM follows (fun i => i = bk2) (.look 0 (.look 2 (.look 5 (.look 6 (.look 7 (.look 8 (.look 9 (.act 1 (.act 3 (.look 4 (.look 10 (.act 11 (.look 12 (.act 13 .done .stop)) .stop))) .stop) (.act 3 (.act 1 (.look 4 (.look 10 (.act 11 (.look 12 (.act 13 .done .stop)) .stop))) .stop) .stop))))))))) (by kernel_rfl) fun w361 u362 => ?_
  have zu362 := u362.size
  refine go ?_
  refine s_or ?_ ?_
  ·
   refine go ?_
   refine x_c func119 rfl rfl (rounded_c (((c.r * (max o5.v c.n)) + (rnd2 ((c.r * (max o5.v c.n)) * (pctP ws o6.v)) 100)) * c.m) 100 _ (by omega) (by omega)) ?_
   rintro _ w365 ⟨rfl, u366⟩ zu366
   refine go ?_
   refine x_s fun w369 sw369 B371 u370 => ?_
   refine go ?_
   refine x_s fun w374 sw374 B376 u375 => ?_
   refine go ?_
   refine x_s fun w379 sw379 B381 u380 => ?_
   refine go ?_
   refine f_ret2 (v1 := .agg #[.int .i64 (c.r * (max o5.v c.n)), .int .i64 (rnd2 ((c.r * (max o5.v c.n)) * (pctP ws o6.v)) 100), .int .i64 (rnd2 (((cntP c.l en.m (n1.m + c.o) ys).o) * c.d) 1440), .int .i64 (rnd2 (((cntP c.l en.m (n1.m + c.o) ys).s) * c.e) 1440), .int .i64 (rnd2 (((c.r * (max o5.v c.n)) + (rnd2 ((c.r * (max o5.v c.n)) * (pctP ws o6.v)) 100)) * c.m) 100), .int .i64 ((((c.r * (max o5.v c.n)) + (rnd2 ((c.r * (max o5.v c.n)) * (pctP ws o6.v)) 100)) + (rnd2 (((cntP c.l en.m (n1.m + c.o) ys).o) * c.d) 1440)) - (rnd2 (((cntP c.l en.m (n1.m + c.o) ys).s) * c.e) 1440))]) (v2 := .int .i64 0) results82 ⟨_, _, rfl, run_loadVarN (vs := [.int .i64 (c.r * (max o5.v c.n)), .int .i64 (rnd2 ((c.r * (max o5.v c.n)) * (pctP ws o6.v)) 100), .int .i64 (rnd2 (((cntP c.l en.m (n1.m + c.o) ys).o) * c.d) 1440), .int .i64 (rnd2 (((cntP c.l en.m (n1.m + c.o) ys).s) * c.e) 1440), .int .i64 (rnd2 (((c.r * (max o5.v c.n)) + (rnd2 ((c.r * (max o5.v c.n)) * (pctP ws o6.v)) 100)) * c.m) 100), .int .i64 ((((c.r * (max o5.v c.n)) + (rnd2 ((c.r * (max o5.v c.n)) * (pctP ws o6.v)) 100)) + (rnd2 (((cntP c.l en.m (n1.m + c.o) ys).o) * c.d) 1440)) - (rnd2 (((cntP c.l en.m (n1.m + c.o) ys).s) * c.e) 1440))]) isAgg73 sizeOf73 rfl (B381.at.sub 0 6)⟩ rfl ?_
   have hlv : lvP m = o6.v := by unfold lvP; rw [hq22]
   exact ⟨⟨blP c ws o5.v o6.v (cntP c.l en.m (n1.m + c.o) ys), 0, rfl, .inr ⟨rfl, o5, ys, hq14, (fun h => by rw [hq22] at h; cases h), hyp, hya, by rw [hlv]⟩⟩, u_d⟩
  refine go ?_
  refine x_c func119 rfl rfl (rounded_c (((c.r * (max o5.v c.n)) + (rnd2 ((c.r * (max o5.v c.n)) * (pctP ws o6.v)) 100)) * c.m) 100 _ (by omega) (by omega)) ?_
  rintro _ w384 ⟨rfl, u385⟩ zu385
  refine go ?_
  refine x_s fun w388 sw388 B390 u389 => ?_
  refine go ?_
  refine x_s fun w393 sw393 B395 u394 => ?_
  refine go ?_
  refine x_s fun w398 sw398 B400 u399 => ?_
  refine go ?_
  refine f_ret2 (v1 := .agg #[.int .i64 (c.r * (max o5.v c.n)), .int .i64 (rnd2 ((c.r * (max o5.v c.n)) * (pctP ws o6.v)) 100), .int .i64 (rnd2 (((cntP c.l en.m (n1.m + c.o) ys).o) * c.d) 1440), .int .i64 (rnd2 (((cntP c.l en.m (n1.m + c.o) ys).s) * c.e) 1440), .int .i64 (rnd2 (((c.r * (max o5.v c.n)) + (rnd2 ((c.r * (max o5.v c.n)) * (pctP ws o6.v)) 100)) * c.m) 100), .int .i64 ((((c.r * (max o5.v c.n)) + (rnd2 ((c.r * (max o5.v c.n)) * (pctP ws o6.v)) 100)) + (rnd2 (((cntP c.l en.m (n1.m + c.o) ys).o) * c.d) 1440)) - (rnd2 (((cntP c.l en.m (n1.m + c.o) ys).s) * c.e) 1440))]) (v2 := .int .i64 0) results82 ⟨_, _, rfl, run_loadVarN (vs := [.int .i64 (c.r * (max o5.v c.n)), .int .i64 (rnd2 ((c.r * (max o5.v c.n)) * (pctP ws o6.v)) 100), .int .i64 (rnd2 (((cntP c.l en.m (n1.m + c.o) ys).o) * c.d) 1440), .int .i64 (rnd2 (((cntP c.l en.m (n1.m + c.o) ys).s) * c.e) 1440), .int .i64 (rnd2 (((c.r * (max o5.v c.n)) + (rnd2 ((c.r * (max o5.v c.n)) * (pctP ws o6.v)) 100)) * c.m) 100), .int .i64 ((((c.r * (max o5.v c.n)) + (rnd2 ((c.r * (max o5.v c.n)) * (pctP ws o6.v)) 100)) + (rnd2 (((cntP c.l en.m (n1.m + c.o) ys).o) * c.d) 1440)) - (rnd2 (((cntP c.l en.m (n1.m + c.o) ys).s) * c.e) 1440))]) isAgg73 sizeOf73 rfl (B400.at.sub 0 6)⟩ rfl ?_
  have hlv : lvP m = o6.v := by unfold lvP; rw [hq22]
  exact ⟨⟨blP c ws o5.v o6.v (cntP c.l en.m (n1.m + c.o) ys), 0, rfl, .inr ⟨rfl, o5, ys, hq14, (fun h => by rw [hq22] at h; cases h), hyp, hya, by rw [hlv]⟩⟩, u_d⟩
 refine go ?_
 have B402 := ((((((B289.keep u294 (by omega)).kx u300).keep u303 (by omega)).kx u308).keep u311 (by omega)).kx u316)
 have D403 := (((((((((((hws.keep u5 (fun _ h => h)).keep u55 (fun _ h => h)).keep u58 (fun h9 => show ¬ (bw = bk52) by have := hbw h9; omega)).keep u280 (fun _ h => h)).keep u283 (fun h9 => show ¬ (bw = bk277) by have := hbw h9; omega)).keep u294 (fun h9 => show ¬ ((bw = gE ∧ base ≤ bw)) by have := hbw h9; omega)).keep u300 (fun _ h => h)).keep u303 (fun h9 => show ¬ (bw = bk297) by have := hbw h9; omega)).keep u308 (fun _ h => h)).keep u311 (fun h9 => show ¬ (bw = bk2) by have := hbw h9; omega)).keep u316 (fun _ h => h))
 refine x_c func120 rfl rfl (percent_c px c ws aw bw ow cw r aE ex.length cE o6.v _ B402 D403 hwl) ?_
 rintro _ w405 ⟨rfl, u406⟩ zu406
 refine go ?_
 refine x_c func119 rfl rfl (rounded_c ((c.r * (max o5.v c.n)) * (pctP ws o6.v)) 100 _ (by omega) (by omega)) ?_
 rintro _ w410 ⟨rfl, u411⟩ zu411
 refine go ?_
 refine x_s fun w414 sw414 B416 u415 => ?_
 refine go ?_
 refine c_drawnM follows (fun i => i = bk2) (OTl [0, 2, 4, 6, 8, 10, 12, 14, 17, 18, 21]) (by kernel_rfl) fun w419 u420 => ?_
 have zu420 := u420.size
 refine go ?_
 refine x_c func119 rfl rfl (rounded_c (((cntP c.l en.m (n1.m + c.o) ys).o) * c.d) 1440 _ (by omega) (by omega)) ?_
 rintro _ w423 ⟨rfl, u424⟩ zu424
 refine go ?_
 refine x_s fun w427 sw427 B429 u428 => ?_
 refine go ?_
 refine c_drawnM follows (fun i => i = bk2) (OTl [0, 2, 4, 6, 8, 10, 12, 14, 17, 18, 21]) (by kernel_rfl) fun w432 u433 => ?_
 have zu433 := u433.size
 refine go ?_
 refine x_c func119 rfl rfl (rounded_c (((cntP c.l en.m (n1.m + c.o) ys).s) * c.e) 1440 _ (by omega) (by omega)) ?_
 rintro _ w436 ⟨rfl, u437⟩ zu437
 refine go ?_
 refine x_s fun w440 sw440 B442 u441 => ?_
 refine go ?_
 refine c_drawnM follows (fun i => i = bk2) (.look 0 (.look 2 (.look 5 (.look 6 (.look 7 (.look 8 (.look 9 (.act 1 (.act 3 (.look 4 (.look 10 (.act 11 (.look 12 (.act 13 .done .stop)) .stop))) .stop) (.act 3 (.act 1 (.look 4 (.look 10 (.act 11 (.look 12 (.act 13 .done .stop)) .stop))) .stop) .stop))))))))) (by kernel_rfl) fun w445 u446 => ?_
 have zu446 := u446.size
 refine go ?_
 refine s_or ?_ ?_
 ·
  refine go ?_
  refine x_c func119 rfl rfl (rounded_c (((c.r * (max o5.v c.n)) + (rnd2 ((c.r * (max o5.v c.n)) * (pctP ws o6.v)) 100)) * c.m) 100 _ (by omega) (by omega)) ?_
  rintro _ w449 ⟨rfl, u450⟩ zu450
  refine go ?_
  refine x_s fun w453 sw453 B455 u454 => ?_
  refine go ?_
  refine x_s fun w458 sw458 B460 u459 => ?_
  refine go ?_
  refine x_s fun w463 sw463 B465 u464 => ?_
  refine go ?_
  refine f_ret2 (v1 := .agg #[.int .i64 (c.r * (max o5.v c.n)), .int .i64 (rnd2 ((c.r * (max o5.v c.n)) * (pctP ws o6.v)) 100), .int .i64 (rnd2 (((cntP c.l en.m (n1.m + c.o) ys).o) * c.d) 1440), .int .i64 (rnd2 (((cntP c.l en.m (n1.m + c.o) ys).s) * c.e) 1440), .int .i64 (rnd2 (((c.r * (max o5.v c.n)) + (rnd2 ((c.r * (max o5.v c.n)) * (pctP ws o6.v)) 100)) * c.m) 100), .int .i64 ((((c.r * (max o5.v c.n)) + (rnd2 ((c.r * (max o5.v c.n)) * (pctP ws o6.v)) 100)) + (rnd2 (((cntP c.l en.m (n1.m + c.o) ys).o) * c.d) 1440)) - (rnd2 (((cntP c.l en.m (n1.m + c.o) ys).s) * c.e) 1440))]) (v2 := .int .i64 0) results82 ⟨_, _, rfl, run_loadVarN (vs := [.int .i64 (c.r * (max o5.v c.n)), .int .i64 (rnd2 ((c.r * (max o5.v c.n)) * (pctP ws o6.v)) 100), .int .i64 (rnd2 (((cntP c.l en.m (n1.m + c.o) ys).o) * c.d) 1440), .int .i64 (rnd2 (((cntP c.l en.m (n1.m + c.o) ys).s) * c.e) 1440), .int .i64 (rnd2 (((c.r * (max o5.v c.n)) + (rnd2 ((c.r * (max o5.v c.n)) * (pctP ws o6.v)) 100)) * c.m) 100), .int .i64 ((((c.r * (max o5.v c.n)) + (rnd2 ((c.r * (max o5.v c.n)) * (pctP ws o6.v)) 100)) + (rnd2 (((cntP c.l en.m (n1.m + c.o) ys).o) * c.d) 1440)) - (rnd2 (((cntP c.l en.m (n1.m + c.o) ys).s) * c.e) 1440))]) isAgg73 sizeOf73 rfl (B465.at.sub 0 6)⟩ rfl ?_
  have hlv : lvP m = o6.v := by unfold lvP; rw [hq22]
  exact ⟨⟨blP c ws o5.v o6.v (cntP c.l en.m (n1.m + c.o) ys), 0, rfl, .inr ⟨rfl, o5, ys, hq14, (fun h => by rw [hq22] at h; cases h), hyp, hya, by rw [hlv]⟩⟩, u_d⟩
 refine go ?_
 refine x_c func119 rfl rfl (rounded_c (((c.r * (max o5.v c.n)) + (rnd2 ((c.r * (max o5.v c.n)) * (pctP ws o6.v)) 100)) * c.m) 100 _ (by omega) (by omega)) ?_
 rintro _ w468 ⟨rfl, u469⟩ zu469
 refine go ?_
 refine x_s fun w472 sw472 B474 u473 => ?_
 refine go ?_
 refine x_s fun w477 sw477 B479 u478 => ?_
 refine go ?_
 refine x_s fun w482 sw482 B484 u483 => ?_
 refine go ?_
 refine f_ret2 (v1 := .agg #[.int .i64 (c.r * (max o5.v c.n)), .int .i64 (rnd2 ((c.r * (max o5.v c.n)) * (pctP ws o6.v)) 100), .int .i64 (rnd2 (((cntP c.l en.m (n1.m + c.o) ys).o) * c.d) 1440), .int .i64 (rnd2 (((cntP c.l en.m (n1.m + c.o) ys).s) * c.e) 1440), .int .i64 (rnd2 (((c.r * (max o5.v c.n)) + (rnd2 ((c.r * (max o5.v c.n)) * (pctP ws o6.v)) 100)) * c.m) 100), .int .i64 ((((c.r * (max o5.v c.n)) + (rnd2 ((c.r * (max o5.v c.n)) * (pctP ws o6.v)) 100)) + (rnd2 (((cntP c.l en.m (n1.m + c.o) ys).o) * c.d) 1440)) - (rnd2 (((cntP c.l en.m (n1.m + c.o) ys).s) * c.e) 1440))]) (v2 := .int .i64 0) results82 ⟨_, _, rfl, run_loadVarN (vs := [.int .i64 (c.r * (max o5.v c.n)), .int .i64 (rnd2 ((c.r * (max o5.v c.n)) * (pctP ws o6.v)) 100), .int .i64 (rnd2 (((cntP c.l en.m (n1.m + c.o) ys).o) * c.d) 1440), .int .i64 (rnd2 (((cntP c.l en.m (n1.m + c.o) ys).s) * c.e) 1440), .int .i64 (rnd2 (((c.r * (max o5.v c.n)) + (rnd2 ((c.r * (max o5.v c.n)) * (pctP ws o6.v)) 100)) * c.m) 100), .int .i64 ((((c.r * (max o5.v c.n)) + (rnd2 ((c.r * (max o5.v c.n)) * (pctP ws o6.v)) 100)) + (rnd2 (((cntP c.l en.m (n1.m + c.o) ys).o) * c.d) 1440)) - (rnd2 (((cntP c.l en.m (n1.m + c.o) ys).s) * c.e) 1440))]) isAgg73 sizeOf73 rfl (B484.at.sub 0 6)⟩ rfl ?_
 have hlv : lvP m = o6.v := by unfold lvP; rw [hq22]
 exact ⟨⟨blP c ws o5.v o6.v (cntP c.l en.m (n1.m + c.o) ys), 0, rfl, .inr ⟨rfl, o5, ys, hq14, (fun h => by rw [hq22] at h; cases h), hyp, hya, by rw [hlv]⟩⟩, u_d⟩

end Go.Proofs.YtgoajalaomakpaaGreat
namespace Go.Proofs.YtgoajalaomakpaaGreat
open Go Go.RowKit Go.Proofs.Tryz

theorem OpOk.vals {l out : List Msg} (hR : RdR l out 0) : ∀ a v, gtG (onS out out.length) a = some v → 0 ≤ v.v ∧ v.v ≤ 1000000 := fun a v h => by
  obtain ⟨q1, q2, q3⟩ := hR.facts
  have q4 := (rdE_ok q3).2 _ (q1 _ (onS_mem (Nat.le_refl _) (gtG_mem h)))
  unfold okMsg at q4
  rw [decide_eq_true_eq] at q4
  exact q4.2.2.2.2.2
/-- What Bill returns. -/
def BiR (c : Chr) (ws : List Low) (fr : List Fre) (l : List Msg) (b : Bl) (e : Int) : Prop := (e ≠ 0 ∧ SgE c ws fr l e ∧ b = ⟨0, 0, 0, 0, 0, 0⟩) ∨ (chkCh c ws = 0 ∧ chkFr fr = 0 ∧ oneC l = true ∧ ∃ out ex n1 en, RdR l out 0 ∧ OpOk fr out ex ∧ gtG (onS out out.length) 1 = some n1 ∧ gtG (onS out out.length) 4 = some en ∧ BlR c ws ex (onS out out.length) n1 en b e)

theorem Bill_c (c : Chr) (ws : List Low) (aw : Option Addr) (bw ow cw : Nat) (fr : List Fre) (af : Option Addr) (bf of_ cf : Nat) (l : List Msg) (al : Option Addr) (bl ol cl : Nat) (w0 : World) (hws : Sl encLow 2 w0 aw bw ow ws) (hwl : ws.length ≤ 1000000) (hfr : Sl encFre 2 w0 af bf of_ fr) (hfl : fr.length ≤ 1000000) (hl : Sl encMsg 6 w0 al bl ol l) (hll : l.length ≤ 1000000) (hpos : 0 < w0.heap.size) :
    CallsV Tryz.prog 27 [.agg #[.int .i64 c.s, .int .i64 c.c, .int .i64 c.k, .int .i64 c.r, .int .i64 c.n, .int .i64 c.l, .int .i64 c.o, .int .i64 c.d, .int .i64 c.e, .int .i64 c.m, .slice aw ws.length cw], .slice af fr.length cf, .slice al l.length cl] w0 (fun v w' => (∃ b e, v = .tuple #[.agg (encBl b).toArray, .int .i64 e] ∧ BiR c ws fr l b e) ∧ Ext w0 w') := by
 refine f_n func27 ?_
 refine go ?_
 refine x_b fun bk2 w3 ebk2 sbk2 B4 u5 => ?_
 refine x_n fun bk7 w8 ebk7 sbk7 B9 u10 => ?_
 have E11 := Sc.mk (((Upd.refl (fun _ => False) w0).nx u5).nx u10)
 refine go ?_
 refine x_c func83 rfl rfl (single_c c ws aw bw ow cw fr af bf of_ cf l al bl ol cl _ (hws.keep E11.u (fun _ h => h)) hwl (hfr.keep E11.u (fun _ h => h)) hfl (hl.keep E11.u (fun _ h => h)) hll (by omega)) ?_
 rintro _ w14 ⟨⟨pO, eO, rfl, hO⟩, u15⟩ zu15
 refine go ?_
 refine q_p (fun g18 => ?_) fun g18 => ?_
 ·
  refine go ?_
  refine x_s fun w21 sw21 B23 u22 => ?_
  refine go ?_
  refine f_ret2 (v1 := .agg #[.int .i64 0, .int .i64 0, .int .i64 0, .int .i64 0, .int .i64 0, .int .i64 0]) (v2 := .int .i64 eO) results27 ⟨_, _, rfl, run_loadVarN (vs := [.int .i64 0, .int .i64 0, .int .i64 0, .int .i64 0, .int .i64 0, .int .i64 0]) isAgg73 sizeOf73 rfl (B23.at.sub 0 6)⟩ rfl ?_
  obtain ⟨hp0, he0, hE⟩ := hO.resolve_right (fun h => g18 h.1)
  exact ⟨⟨⟨0, 0, 0, 0, 0, 0⟩, eO, rfl, .inl ⟨he0, hE, rfl⟩⟩, u_d⟩
 obtain ⟨e0, hc0, hf0, h1c, out, hRd, px, r, aE, gE, cE, ex, rfl, hB, hM, hA, hOk⟩ := hO.resolve_left (fun h => h.2.1 (by omega))
 subst e0
 obtain ⟨n1, en, hn1, hn4, hb1, hb4, hexb, hexl⟩ := hOk.data hRd hf0
 have hBl := hB.lt
 have hwlt : 0 < ws.length → bw < w0.heap.size := hws.lt
 have lt_gE := hA.lt
 refine go ?_
 refine x_c func82 rfl rfl (bill_c px c ws aw bw ow cw r aE gE cE w8.heap.size ex (onS out out.length) n1 en _ hB hM hA (by omega) hn1 hn4 hb1 hb4 hc0 hexb hexl (OpOk.vals hRd) (fun h => by have := hwlt h; omega) (hws.keep (E11.u.nx u15) (fun _ h => h)) hwl) ?_
 rintro _ w27 ⟨⟨bB, eB, rfl, hBR⟩, u28⟩ zu28
 refine go ?_
 refine x_s fun w31 sw31 B33 u32 => ?_
 refine go ?_
 refine f_ret2 (v1 := .agg #[.int .i64 bB.f, .int .i64 bB.o, .int .i64 bB.d, .int .i64 bB.e, .int .i64 bB.c, .int .i64 bB.t]) (v2 := .int .i64 eB) results27 ⟨_, _, rfl, run_loadVarN (vs := [.int .i64 bB.f, .int .i64 bB.o, .int .i64 bB.d, .int .i64 bB.e, .int .i64 bB.c, .int .i64 bB.t]) isAgg73 sizeOf73 rfl (B33.at.sub 0 6)⟩ rfl ?_
 exact ⟨⟨bB, eB, rfl, .inr ⟨hc0, hf0, h1c, out, ex, n1, en, hRd, hOk, hn1, hn4, hBR⟩⟩, u_d⟩

end Go.Proofs.YtgoajalaomakpaaGreat
namespace Go.Proofs.YtgoajalaomakpaaGreat
open Go Go.RowKit Go.Proofs.Tryz

/-- A charter in memory. -/
structure HC where
  v : Chr
  ws : List Low
  ao : Option Addr
  g : Nat
  o : Nat
  cp : Nat
instance : Inhabited Chr := ⟨⟨0, 0, 0, 0, 0, 0, 0, 0, 0, 0⟩⟩
instance : Inhabited HC := ⟨⟨default, [], none, 0, 0, 0⟩⟩
def encHC (h : HC) : List Value := [.int .i64 h.v.s, .int .i64 h.v.c, .int .i64 h.v.k, .int .i64 h.v.r, .int .i64 h.v.n, .int .i64 h.v.l, .int .i64 h.v.o, .int .i64 h.v.d, .int .i64 h.v.e, .int .i64 h.v.m, .slice h.ao h.ws.length h.cp]
theorem own71 : Own Tryz.prog 71 := ⟨Tryz.f71, func71, by kernel_rfl, by kernel_rfl⟩
theorem own76 : Own Tryz.prog 76 := ⟨Tryz.f76, func76, by kernel_rfl, by kernel_rfl⟩
theorem own77 : Own Tryz.prog 77 := ⟨Tryz.f77, func77, by kernel_rfl, by kernel_rfl⟩
theorem own81 : Own Tryz.prog 81 := ⟨Tryz.f81, func81, by kernel_rfl, by kernel_rfl⟩

theorem balance1_c (c : Chr) (ws : List Low) (aw : Option Addr) (bw ow cw : Nat) (w0 : World) (hws : Sl encLow 2 w0 aw bw ow ws) (hwl : ws.length ≤ 1000000) :
    CallsV Tryz.prog 71 [.agg #[.int .i64 c.s, .int .i64 c.c, .int .i64 c.k, .int .i64 c.r, .int .i64 c.n, .int .i64 c.l, .int .i64 c.o, .int .i64 c.d, .int .i64 c.e, .int .i64 c.m, .slice aw ws.length cw]] w0 (fun v w' => v = .bool (decide (chkCh c ws ≠ 0)) ∧ Ext w0 w') := by
 refine f_n func71 ?_
 refine go ?_
 refine x_b fun bk2 w3 ebk2 sbk2 B4 u5 => ?_
 refine go ?_
 refine x_c func72 rfl rfl (CheckCharter_c c ws aw bw ow cw _ (hws.keep ((Upd.refl (fun _ => False) w0).nx u5) (fun _ h => h)) hwl) ?_
 rintro _ w9 ⟨rfl, u10⟩ zu10
 refine go ?_
 refine f_1 results71 ?_
 exact ⟨rfl, u_d⟩

theorem balance2_c (x : Msg) (aC : Option Addr) (nC cC bx : Nat) (w0 : World) (hb : Blk w0 bx 52 [.slice aC nC cC]) :
    CallsV Tryz.prog 76 [.agg #[.int .i64 x.c, .int .i64 x.n, .int .i64 x.r, .int .i64 x.k, .int .i64 x.m, .int .i64 x.v], .pointer (some ⟨bx, 0, none⟩)] w0 (fun v w' => v = .bool (decide ((nC : Int) ≤ x.c)) ∧ Ext w0 w') := by
 refine f_n func76 ?_
 refine go ?_
 refine x_b fun bk2 w3 ebk2 sbk2 B4 u5 => ?_
 refine go ?_
 refine f_1 results76 ?_
 exact ⟨rfl, u_d⟩

theorem balance3_c (x : Msg) (i : Int) (bx : Nat) (w0 : World) (hb : Blk w0 bx 3 [.int .i64 i]) :
    CallsV Tryz.prog 77 [.agg #[.int .i64 x.c, .int .i64 x.n, .int .i64 x.r, .int .i64 x.k, .int .i64 x.m, .int .i64 x.v], .pointer (some ⟨bx, 0, none⟩)] w0 (fun v w' => v = .bool (decide (x.c = i)) ∧ Ext w0 w') := by
 refine f_n func77 ?_
 refine go ?_
 refine x_b fun bk2 w3 ebk2 sbk2 B4 u5 => ?_
 refine go ?_
 refine f_1 results77 ?_
 exact ⟨rfl, u_d⟩

theorem balance4_c (x : Msg) (i : Int) (bf bi : Nat) (w0 : World) (hf : Blk w0 bf 159 [.func (.func 77) #[] #[.pointer (some ⟨bi, 0, none⟩)]]) (hb : Blk w0 bi 3 [.int .i64 i]) :
    CallsV Tryz.prog 81 [.agg #[.int .i64 x.c, .int .i64 x.n, .int .i64 x.r, .int .i64 x.k, .int .i64 x.m, .int .i64 x.v], .pointer (some ⟨bf, 0, none⟩)] w0 (fun v w' => v = .bool (!decide (x.c = i)) ∧ Ext w0 w') := by
 refine f_n func81 ?_
 refine go ?_
 refine x_b fun bk2 w3 ebk2 sbk2 B4 u5 => ?_
 refine go ?_
 have B8 := (hb.kx u5)
 refine x_c func77 rfl rfl (balance3_c x i bi _ B8) ?_
 rintro _ w10 ⟨rfl, u11⟩ zu11
 refine go ?_
 refine f_1 results81 ?_
 exact ⟨by first | rfl | simp, u_d⟩

end Go.Proofs.YtgoajalaomakpaaGreat
namespace Go.Proofs.YtgoajalaomakpaaGreat
open Go Go.RowKit Go.Proofs.Tryz
theorem messages_c (l : List Msg) (al : Option Addr) (bl ol cl : Nat) (w0 : World) (hl : Sl encMsg 6 w0 al bl ol l) (hll : l.length ≤ 1000000) (hpos : 0 < w0.heap.size) :
    CallsV Tryz.prog 25 [.slice al l.length cl] w0 (fun v w' => (∃ ao g cp, v = .slice ao (List.length l) cp ∧ Acc encMsg 6 111 w0.heap.size w' ao g cp l) ∧ Ext w0 w') := by
 refine f_n func25 ?_
 refine go ?_
 refine x_l fun bk3 w4 ebk3 sbk3 B5 u6 => ?_
 refine go ?_
 refine t_copy (enc := encMsg) (z := .agg #[.int .i64 0, .int .i64 0, .int .i64 0, .int .i64 0, .int .i64 0, .int .i64 0]) (bytes := 48) (k := 6) (ys := l) underlying53 (by kernel_rfl) rfl (by decide) (fun _ => rfl) (by intro x; simp [encMsg, Value.oneCell']) rfl rfl rfl rfl B5 (hl.keep ((Upd.refl (fun _ => False) w0).nx u6) (fun _ h => h)) (by omega) (by decide) (fun ao8 gb9 cp10 w11 A12 u13 gegb9 => ?_)
 have zu13 := u13.size
 have lt_gb9 := A12.lt
 refine go ?_
 refine f_1 results25 ?_
 obtain ⟨gz, hz⟩ := Acc.lower (base' := w0.heap.size) A12 (by omega) hpos
 exact ⟨⟨_, gz, _, rfl, hz⟩, u_d⟩

theorem times_c (l : List Fre) (al : Option Addr) (bl ol cl : Nat) (w0 : World) (hl : Sl encFre 2 w0 al bl ol l) (hll : l.length ≤ 1000000) (hpos : 0 < w0.heap.size) :
    CallsV Tryz.prog 24 [.slice al l.length cl] w0 (fun v w' => (∃ ao g cp, v = .slice ao (List.length l) cp ∧ Acc encFre 2 88 w0.heap.size w' ao g cp l) ∧ Ext w0 w') := by
 refine f_n func24 ?_
 refine go ?_
 refine x_l fun bk3 w4 ebk3 sbk3 B5 u6 => ?_
 refine go ?_
 refine t_copy (enc := encFre) (z := .agg #[.int .i64 0, .int .i64 0]) (bytes := 16) (k := 2) (ys := l) underlying56 (by kernel_rfl) rfl (by decide) (fun _ => rfl) (by intro x; simp [encFre, Value.oneCell']) rfl rfl rfl rfl B5 (hl.keep ((Upd.refl (fun _ => False) w0).nx u6) (fun _ h => h)) (by omega) (by decide) (fun ao8 gb9 cp10 w11 A12 u13 gegb9 => ?_)
 have zu13 := u13.size
 have lt_gb9 := A12.lt
 refine go ?_
 refine f_1 results24 ?_
 obtain ⟨gz, hz⟩ := Acc.lower (base' := w0.heap.size) A12 (by omega) hpos
 exact ⟨⟨_, gz, _, rfl, hz⟩, u_d⟩

theorem own_cc (c : Chr) (ws : List Low) (aw : Option Addr) (bw ow cw : Nat) (w0 : World) (hws : Sl encLow 2 w0 aw bw ow ws) (hwl : ws.length ≤ 1000000) (hpos : 0 < w0.heap.size) :
    CallsV Tryz.prog 28 [.agg #[.int .i64 c.s, .int .i64 c.c, .int .i64 c.k, .int .i64 c.r, .int .i64 c.n, .int .i64 c.l, .int .i64 c.o, .int .i64 c.d, .int .i64 c.e, .int .i64 c.m, .slice aw ws.length cw]] w0 (fun v w' => (∃ ao g cp, v = .agg #[.int .i64 c.s, .int .i64 c.c, .int .i64 c.k, .int .i64 c.r, .int .i64 c.n, .int .i64 c.l, .int .i64 c.o, .int .i64 c.d, .int .i64 c.e, .int .i64 c.m, .slice ao ws.length cp] ∧ Acc encLow 2 169 w0.heap.size w' ao g cp ws) ∧ Ext w0 w') := by
 refine f_n func28 ?_
 refine go ?_
 refine x_b fun bk2 w3 ebk2 sbk2 B4 u5 => ?_
 refine x_n fun bk7 w8 ebk7 sbk7 B9 u10 => ?_
 refine go ?_
 refine x_l fun bk13 w14 ebk13 sbk13 B15 u16 => ?_
 refine go ?_
 refine t_copy (enc := encLow) (z := .agg #[.int .i64 0, .int .i64 0]) (bytes := 16) (k := 2) (ys := ws) underlying76 (by kernel_rfl) rfl (by decide) (fun _ => rfl) (by intro x; simp [encLow, Value.oneCell']) rfl rfl rfl rfl B15 (hws.keep ((((Upd.refl (fun _ => False) w0).nx u5).nx u10).nx u16) (fun _ h => h)) (by omega) (by decide) (fun ao18 gb19 cp20 w21 A22 u23 gegb19 => ?_)
 have zu23 := u23.size
 have lt_gb19 := A22.lt
 refine go ?_
 refine x_s fun w25 sw25 B27 u26 => ?_
 refine go ?_
 refine x_s fun w30 sw30 B32 u31 => ?_
 refine go ?_
 refine f_ret1 (v := .agg #[.int .i64 c.s, .int .i64 c.c, .int .i64 c.k, .int .i64 c.r, .int .i64 c.n, .int .i64 c.l, .int .i64 c.o, .int .i64 c.d, .int .i64 c.e, .int .i64 c.m, .slice ao18 ws.length cp20]) results28 ⟨_, _, rfl, run_loadVarN (vs := [.int .i64 c.s, .int .i64 c.c, .int .i64 c.k, .int .i64 c.r, .int .i64 c.n, .int .i64 c.l, .int .i64 c.o, .int .i64 c.d, .int .i64 c.e, .int .i64 c.m, .slice ao18 ws.length cp20]) isAgg78 sizeOf78 rfl (B32.at.sub 0 11)⟩ ?_
 have D34 := ((A22.keep u26 (fun hb => show ¬ (gb19 = bk2) by first | omega | assumption)).keep u31 (fun hb => show ¬ (gb19 = bk7) by first | omega | assumption))
 obtain ⟨gz, hz⟩ := Acc.lower (base' := w0.heap.size) D34 (by omega) hpos
 exact ⟨⟨_, gz, _, rfl, hz⟩, u_d⟩

end Go.Proofs.YtgoajalaomakpaaGreat
namespace Go.Proofs.YtgoajalaomakpaaGreat
open Go Go.RowKit

/-- A bill put to the parties' balances. -/
def balN (b : List Int) (c : Chr) (x : Bl) : List Int :=
  ((b.set c.s.toNat (nth b c.s.toNat - x.t)).set c.c.toNat (nth (b.set c.s.toNat (nth b c.s.toNat - x.t)) c.c.toNat + (x.t - x.c))).set c.k.toNat (nth ((b.set c.s.toNat (nth b c.s.toNat - x.t)).set c.c.toNat (nth (b.set c.s.toNat (nth b c.s.toNat - x.t)) c.c.toNat + (x.t - x.c))) c.k.toNat + x.c)
/-- The facts of charter k. -/
def ofC (out : List Msg) (k : Nat) : List Msg := out.filter fun m => !(!decide (m.c = (k : Int)))
def hasC (l : List Msg) (k : Nat) : Bool := l.any fun m => decide (m.c = (k : Int))
/-- Charter k settled. -/
def ChB (cs : List HC) (fr : List Fre) (out : List Msg) (k : Nat) (x : Bl) (e : Int) : Prop := ∃ ex n1 en, OpOk fr (ofC out k) ex ∧ gtG (onS (ofC out k) (ofC out k).length) 1 = some n1 ∧ gtG (onS (ofC out k) (ofC out k).length) 4 = some en ∧ BlR (nth cs k).v (nth cs k).ws ex (onS (ofC out k) (ofC out k).length) n1 en x e
def BaK (cs : List HC) (fr : List Fre) (l out : List Msg) : Nat → List Int → Prop
  | 0, b => b = List.replicate 100 0
  | k + 1, b => ∃ b0, BaK cs fr l out k b0 ∧ ((hasC l k = false ∧ b = b0) ∨ (hasC l k = true ∧ ∃ x, ChB cs fr out k x 0 ∧ b = balN b0 (nth cs k).v x))
theorem rnd2_h {a A : Int} (ha : 0 ≤ a ∧ a ≤ A) : 0 ≤ rnd2 a 100 ∧ rnd2 a 100 ≤ A / 100 + 1 := by
  unfold rnd2; omega
theorem rnd2_d {a A : Int} (ha : 0 ≤ a ∧ a ≤ A) : 0 ≤ rnd2 a 1440 ∧ rnd2 a 1440 ≤ A / 1440 + 1 := by
  unfold rnd2; omega
/-- A bill's numbers are small. -/
theorem blP_bd {c : Chr} {ws : List Low} {tv lv : Int} {lc : Lc} (h : chkCh c ws = 0) (hv : 0 ≤ tv ∧ tv ≤ 1000000) (ho : 0 ≤ lc.o ∧ lc.o ≤ 100000) (hs : 0 ≤ lc.s ∧ lc.s ≤ 100000) : (-100000000000000 ≤ (blP c ws tv lv lc).t ∧ (blP c ws tv lv lc).t ≤ 100000000000000) ∧ (0 ≤ (blP c ws tv lv lc).c ∧ (blP c ws tv lv lc).c ≤ 100000000000000) := by
  have hcr := okCh_rng h
  have hmx : 0 ≤ max tv c.n ∧ max tv c.n ≤ 1000000 := by omega
  have hfr := mul_bd hcr.2.2.1 hmx
  have hb1 := mul_bd hfr (pctP_bd h lv)
  have hb2 := rnd2_h hb1
  have hd1 := mul_bd ho hcr.2.2.2.2.2.1.1
  have hd2 := rnd2_d hd1
  have he1 := mul_bd hs hcr.2.2.2.2.2.1.2
  have he2 := rnd2_d he1
  have hsm : 0 ≤ c.r * max tv c.n + rnd2 (c.r * max tv c.n * pctP ws lv) 100 ∧ c.r * max tv c.n + rnd2 (c.r * max tv c.n * pctP ws lv) 100 ≤ 11000000000001 := by omega
  have hc2 := rnd2_h (mul_bd hsm hcr.2.2.2.2.2.2)
  simp only [blP]
  omega
theorem BlR.bd {c : Chr} {ws : List Low} {ex : List Fre} {m : List (Int × Msg)} {n1 en : Msg} {b : Bl} {e : Int} (h : BlR c ws ex m n1 en b e) (h0 : chkCh c ws = 0) (hb1 : 0 ≤ n1.m ∧ n1.m ≤ 100000) (hb4 : 0 ≤ en.m ∧ en.m ≤ 100000) (hexb : ∀ x ∈ ex, FrBd x) (hmv : ∀ a v, gtG m a = some v → 0 ≤ v.v ∧ v.v ≤ 1000000) :
    (-100000000000000 ≤ b.t ∧ b.t ≤ 100000000000000) ∧ (0 ≤ b.c ∧ b.c ≤ 100000000000000) := by
  rcases h with ⟨_, rfl, _⟩ | ⟨_, t5, ys, h5, _, hp, _, rfl⟩
  · exact ⟨by show (-100000000000000 : Int) ≤ 0 ∧ (0 : Int) ≤ 100000000000000; omega, by show (0 : Int) ≤ 0 ∧ (0 : Int) ≤ 100000000000000; omega⟩
  · have hcr := okCh_rng h0
    have hcb := cntP_bd (ys := ys) (L := c.l) (b := n1.m + c.o) (en := en.m) hcr.2.2.2.2.1.1 (by omega) hb4 (fun x hx => hexb x (hp.mem_iff.1 hx))
    exact blP_bd h0 (hmv _ _ h5) hcb.1 hcb.2
/-- What Balance returns. -/
def BalR (cs : List HC) (fr : List Fre) (l : List Msg) (b : List Int) (e : Int) : Prop := (10 < cs.length ∧ e = 5 ∧ b = []) ∨ (cs.length ≤ 10 ∧ (cs.any fun h => decide (chkCh h.v h.ws ≠ 0)) = true ∧ e = 2 ∧ b = []) ∨
  (cs.length ≤ 10 ∧ (cs.any fun h => decide (chkCh h.v h.ws ≠ 0)) = false ∧ ((chkFr fr ≠ 0 ∧ e = chkFr fr ∧ b = []) ∨ (chkFr fr = 0 ∧ ((e ≠ 0 ∧ b = [] ∧ ∃ o, RdR l o e) ∨ ∃ out, RdR l out 0 ∧
    (((l.any fun m => decide ((cs.length : Int) ≤ m.c)) = true ∧ e = 7 ∧ b = []) ∨ ((l.any fun m => decide ((cs.length : Int) ≤ m.c)) = false ∧
      ((e ≠ 0 ∧ b = [] ∧ ∃ k b0, k < cs.length ∧ BaK cs fr l out k b0 ∧ hasC l k = true ∧ (OpE fr (ofC out k) e ∨ ∃ x, ChB cs fr out k x e)) ∨ (e = 0 ∧ BaK cs fr l out cs.length b))))))))

end Go.Proofs.YtgoajalaomakpaaGreat
namespace Go.Proofs.YtgoajalaomakpaaGreat
open Go Go.RowKit

def BdB (B : Int) (b : List Int) : Prop := ∀ j, j < b.length → -B ≤ nth b j ∧ nth b j ≤ B
theorem BdB.set {B C : Int} {b : List Int} {i : Nat} {v : Int} (h : BdB B b) (hBC : B ≤ C) (hv : -C ≤ v ∧ v ≤ C) : BdB C (b.set i v) := fun j hj => by
  rw [List.length_set] at hj
  have h1 := h j hj
  have e : nth (b.set i v) j = if i = j then v else nth b j := by
    rw [nth_eq (by rw [List.length_set]; exact hj), List.getElem_set, nth_eq hj]
  rw [e]
  split <;> omega
theorem ofC_facts {l out : List Msg} (h : RdR l out 0) (k : Nat) : (∀ x ∈ ofC out k, okMsg x = true) ∧ (ofC out k).length ≤ 100 := by
  obtain ⟨q1, q2, q3⟩ := h.facts
  obtain ⟨q4, q5⟩ := rdE_ok q3
  exact ⟨fun x hx => q5 x (q1 x (List.mem_filter.1 hx).1), Nat.le_trans (List.length_filter_le _ _) (by omega)⟩
theorem OpOk.dataC {fr ex : List Fre} {l out : List Msg} {k : Nat} (h : OpOk fr (ofC out k) ex) (hR : RdR l out 0) (hf : chkFr fr = 0) : (∃ n1 en, gtG (onS (ofC out k) (ofC out k).length) 1 = some n1 ∧ gtG (onS (ofC out k) (ofC out k).length) 4 = some en ∧ (0 ≤ n1.m ∧ n1.m ≤ 100000) ∧ (0 ≤ en.m ∧ en.m ≤ 100000) ∧ (∀ x ∈ ex, FrBd x) ∧ ex.length ≤ 1000) ∧ ∀ a v, gtG (onS (ofC out k) (ofC out k).length) a = some v → 0 ≤ v.v ∧ v.v ≤ 1000000 := by
  obtain ⟨_, n1, en, h1, h4, _, rfl⟩ := h
  obtain ⟨q6, q4⟩ := ofC_facts hR k
  have q7 : 0 ≤ n1.m ∧ n1.m ≤ 100000 := (okMsg_k (q6 _ (onS_mem (Nat.le_refl _) (gtG_mem h1)))).2
  have q8 : 0 ≤ en.m ∧ en.m ≤ 100000 := (okMsg_k (q6 _ (onS_mem (Nat.le_refl _) (gtG_mem h4)))).2
  have q9 := opS_bd (chkFr_bd hf) q6 q8 (ofC out k).length (Nat.le_refl _)
  have q10 := chkFr_len hf
  refine ⟨⟨n1, en, h1, h4, q7, q8, q9.1, by omega⟩, fun a v h => ?_⟩
  have q5 := q6 _ (onS_mem (Nat.le_refl _) (gtG_mem h))
  unfold okMsg at q5
  rw [decide_eq_true_eq] at q5
  exact q5.2.2.2.2.2

end Go.Proofs.YtgoajalaomakpaaGreat
