/-
  Part 17 of the proof: contracts and plain laws. Conditions: none.
-/
import Derived.Test.YtgoajalaomakpaaGreatGK16
namespace Go.Proofs.YtgoajalaomakpaaGreat
open Go Go.RowKit Go.Proofs.Tryz

section
variable {P : Program} {ops : Array Oper} {Q : Exit → Act → World → Prop} {N : Nat} {ds : List Deferred} {rest : List Oper} {L : Slots} {w : World} {rd : Option Nat} {d : Nat} {ty : TypeId} {pos : String} {aft : Array Edge} {g : Option (Nat × Bool)}
theorem t_ariU {op : BinOp} {xt yt : TypeId} {x y : Operand} {m n r : Int} (hg : grd ops L g = true) (hN : Nat.blt d N = true)
    (hx : ev L x = some (.int .u16 m)) (hy : ev L y = some (.int .u16 n)) (hv : ariI op m n = some r) (hr : 0 ≤ r ∧ r ≤ 65535)
    (h : WL rd P ops Q N ds rest ((d, .int .u16 r) :: L) w) : WL rd P ops Q N ds (⟨some d, .binOp op xt x y yt, ty, pos, aft, g⟩ :: rest) L w :=
  WL.value hg rfl hN (fun a ha => by
    have e1 := ha.ev hx
    have e2 := ha.ev hy
    have e3 := IntWalk.u16_in r hr
    cases op <;> simp [ariI] at hv <;> subst hv <;> simp [execOp, e1, e2, eqGuard, binOp, Op.intArith, e3]) h
end
/-- A call whose work ends later. -/
def laC (x : Cll) (m : T2) : Cll := ⟨x.p0, x.p1, x.p2, x.t0, x.t1, x.t2, x.t3, x.t4, x.t5, x.n, x.e % 2500 + min (2499 - x.e % 2500) (m.a % 700), x.v0, x.v1⟩
theorem laC_ok {x : Cll} {m : T2} (hx : okCll x) (_hm : okX2 m) : okCll (laC x m) := by
  unfold okCll okX2 at *
  simp only [laC]
  omega
def dayA (m : T2) : Fre := ⟨m.a % 5000, m.a % 5000 + m.b % 900⟩
def dayB (x : Cll) (ss fs : List T2) (m : T2) : Fre := ⟨enT x ss - (ltP x ss (spL fs)).o, enT x ss - (ltP x ss (spL fs)).o + m.b % 900⟩
set_option maxHeartbeats 4000000 in
theorem FreightOnce_c (x : Cll) (ss : List T2) (al : Option Addr) (bl ol cl : Nat) (fs : List T2) (af : Option Addr) (bf of_ cf : Nat) (m : T2) (w0 : World) (hx : okCll x) (hl : Sl encU2 2 w0 al bl ol ss) (hll : ss.length ≤ 9223372036854775807) (hss : ∀ x ∈ ss, okU2 x) (hf : Sl encX2 2 w0 af bf of_ fs) (hfl : fs.length ≤ 9223372036854775807) (hfs : ∀ x ∈ fs, okX2 x) (hm : okX2 m) :
    CallsV Tryz.prog 6 [.agg #[.int .u8 x.p0, .int .u8 x.p1, .int .u8 x.p2, .int .u16 x.t0, .int .u16 x.t1, .int .u16 x.t2, .int .u16 x.t3, .int .u16 x.t4, .int .u16 x.t5, .int .u16 x.n, .slice al ss.length cl, .int .u16 x.e, .int .u16 x.v0, .int .u16 x.v1], .slice af fs.length cf, .agg #[.int .u16 m.a, .int .u16 m.b]] w0 (fun v w' => v = .bool true ∧ Ext w0 w') := by
 have hx9 := hx
 unfold okCll at hx9
 have hm9 := hm
 unfold okX2 at hm9
 refine f_n func6 ?_
 refine go ?_
 refine x_b fun bk2 w3 ebk2 sbk2 B4 u5 => ?_
 refine x_b fun bk7 w8 ebk7 sbk7 B9 u10 => ?_
 refine go ?_
 refine x_c func30 rfl rfl (terms_c x ss al cl _ hx) ?_
 rintro _ w15 ⟨⟨gW13, rfl, hgW13, hW13⟩, u16⟩ zu16
 have E18 := Sc.mk ((((Upd.refl (fun _ => False) w0).nx u5).nx u10).nx u16)
 have hlW13 := hW13.lt
 refine go ?_
 refine x_c func21 rfl rfl (spans_c fs af bf of_ cf _ (hf.keep E18.u (fun _ h => h)) (by omega) hfs) ?_
 rintro _ w21 ⟨⟨aF19, gF19, cF19, rfl, hF19, hgF19, hzF19⟩, u22⟩ zu22
 have hlF19 := hF19.lt
 obtain ⟨hspl, hspf⟩ := spL_ok hfs
 refine x_n fun bk25 w26 ebk25 sbk25 B27 u28 => ?_
 refine x_s fun w30 sw30 B32 u31 => ?_
 have E33 := Sc.mk (((E18.u.nx u22).nx u28).next u31 (fun i hi h => by omega))
 iterate 3 refine st1 ?_
 refine x_k1 (fun _ => False) [3, 5, 7, 8] (fun (b9 : Nat) => [(9, .pointer (some ⟨b9, 0, none⟩)), (10, .int .i64 0)]) (fun b9 w => (Blk w b9 81 [.int .i64 ((ltP x ss (spL fs)).b), .int .i64 ((ltP x ss (spL fs)).u), .int .i64 ((ltP x ss (spL fs)).o), .int .i64 ((ltP x ss (spL fs)).s)]) ∧ (b9 < w.heap.size ∧ w30.heap.size ≤ b9)) (fun K38 hK38 => ?_) ?_
 ·
  refine c_drawnM follows (fun _ => False) (.look 0 (.look 1 (.look 3 (.act 2 (.act 4 (.act 5 (.look 6 (.look 7 (.look 8 (.act 9 (.act 10 (.look 11 .done) .stop) .stop)))) (.act 9 (.act 5 (.look 6 (.look 7 (.look 8 (.act 10 (.look 11 .done) .stop)))) .stop) .stop)) (.act 9 (.act 4 (.act 5 (.look 6 (.look 7 (.look 8 (.act 10 (.look 11 .done) .stop)))) .stop) .stop) .stop)) (.act 9 (.act 2 (.act 4 (.act 5 (.look 6 (.look 7 (.look 8 (.act 10 (.look 11 .done) .stop)))) .stop) .stop) .stop) .stop))))) (by kernel_rfl) fun w41 u42 => ?_
  have zu42 := u42.size
  have E43 := Sc.mk (E33.u.nx u42)
  refine go ?_
  refine s_or ?_ ?_
  ·
   refine go ?_
   have D45 := (((hF19.keep u28 (fun _ h => h)).keep u31 (fun h9 => show ¬ (gF19 = bk25) by have := hlF19 h9; omega)).keep u42 (fun _ h => h))
   refine x_c func24 rfl rfl (times_c (spL fs) aF19 gF19 0 cF19 _ D45 (by omega) (by omega)) ?_
   rintro _ w47 ⟨⟨aT44, gT44, cT44, rfl, hT44⟩, u48⟩ zu48
   have E50 := Sc.mk (E43.u.nx u48)
   have lt_gT44 := hT44.lt
   refine go ?_
   refine s_or ?_ ?_
   ·
    refine go ?_
    refine x_c func26 rfl rfl (report_c x ss al bl ol cl 0 false _ hx (hl.keep E50.u (fun _ h => h)) (by omega) hss (by decide)) ?_
    rintro _ w53 ⟨⟨aR51, gR51, cR51, rfl, hR51, hgR51, hzR51⟩, u54⟩ zu54
    have hlR51 := hR51.lt
    refine go ?_
    refine s_or ?_ ?_
    ·
     refine go ?_
     have D58 := (hT44.keep u54 (fun _ h => h))
     have D59 := ((((((hW13.keep u22 (fun _ h => h)).keep u28 (fun _ h => h)).keep u31 (fun h9 => show ¬ (gW13 = bk25) by have := hlW13 h9; omega)).keep u42 (fun _ h => h)).keep u48 (fun _ h => h)).keep u54 (fun _ h => h))
     refine x_c func29 rfl rfl (Laytime_c (tmC x) (tmW x) (some ⟨gW13, 0, none⟩) gW13 0 2 (spL fs) aT44 gT44 0 cT44 (rpP 0 false x ss) aR51 gR51 0 cR51 _ D59 (by show 2 ≤ _; decide) (D58.sl (fun _ => rfl)) (by first | omega | (rw [List.length_append, List.length_singleton]; omega)) hR51 (by have := rpP_len (c := 0) (cor := false) (x := x) (ss := ss); omega) (by omega)) ?_
     rintro _ w61 ⟨⟨lcL57, eL57, rfl, hL57⟩, u62⟩ zu62
     obtain ⟨rfl, rfl⟩ := LtR.rp (x := x) (ss := ss) hL57 hx hss (by decide) (spL_chk hfs)
     refine go ?_
     refine x_n fun bk65 w66 ebk65 sbk65 B67 u68 => ?_
     refine go ?_
     refine x_s fun w70 sw70 B72 u71 => ?_
     refine go ?_
     exact hK38 bk65 ⟨B72, ⟨(B72).lt, by omega⟩⟩
    refine go ?_
    refine x_n fun bk74 w75 ebk74 sbk74 B76 u77 => ?_
    refine go ?_
    have D80 := ((hT44.keep u54 (fun _ h => h)).keep u77 (fun _ h => h))
    have D81 := (((((((hW13.keep u22 (fun _ h => h)).keep u28 (fun _ h => h)).keep u31 (fun h9 => show ¬ (gW13 = bk25) by have := hlW13 h9; omega)).keep u42 (fun _ h => h)).keep u48 (fun _ h => h)).keep u54 (fun _ h => h)).keep u77 (fun _ h => h))
    have D82 := (hR51.keep u77 (fun _ h => h))
    refine x_c func29 rfl rfl (Laytime_c (tmC x) (tmW x) (some ⟨gW13, 0, none⟩) gW13 0 2 (spL fs) aT44 gT44 0 cT44 (rpP 0 false x ss) aR51 gR51 0 cR51 _ D81 (by show 2 ≤ _; decide) (D80.sl (fun _ => rfl)) (by first | omega | (rw [List.length_append, List.length_singleton]; omega)) D82 (by have := rpP_len (c := 0) (cor := false) (x := x) (ss := ss); omega) (by omega)) ?_
    rintro _ w84 ⟨⟨lcL79, eL79, rfl, hL79⟩, u85⟩ zu85
    obtain ⟨rfl, rfl⟩ := LtR.rp (x := x) (ss := ss) hL79 hx hss (by decide) (spL_chk hfs)
    refine go ?_
    refine x_s fun w88 sw88 B90 u89 => ?_
    refine go ?_
    exact hK38 bk74 ⟨B90, ⟨(B90).lt, by omega⟩⟩
   refine go ?_
   refine x_n fun bk92 w93 ebk92 sbk92 B94 u95 => ?_
   refine go ?_
   refine x_c func26 rfl rfl (report_c x ss al bl ol cl 0 false _ hx (hl.keep (E50.u.nx u95) (fun _ h => h)) (by omega) hss (by decide)) ?_
   rintro _ w99 ⟨⟨aR97, gR97, cR97, rfl, hR97, hgR97, hzR97⟩, u100⟩ zu100
   have hlR97 := hR97.lt
   refine go ?_
   have D104 := ((hT44.keep u95 (fun _ h => h)).keep u100 (fun _ h => h))
   have D105 := (((((((hW13.keep u22 (fun _ h => h)).keep u28 (fun _ h => h)).keep u31 (fun h9 => show ¬ (gW13 = bk25) by have := hlW13 h9; omega)).keep u42 (fun _ h => h)).keep u48 (fun _ h => h)).keep u95 (fun _ h => h)).keep u100 (fun _ h => h))
   refine x_c func29 rfl rfl (Laytime_c (tmC x) (tmW x) (some ⟨gW13, 0, none⟩) gW13 0 2 (spL fs) aT44 gT44 0 cT44 (rpP 0 false x ss) aR97 gR97 0 cR97 _ D105 (by show 2 ≤ _; decide) (D104.sl (fun _ => rfl)) (by first | omega | (rw [List.length_append, List.length_singleton]; omega)) hR97 (by have := rpP_len (c := 0) (cor := false) (x := x) (ss := ss); omega) (by omega)) ?_
   rintro _ w107 ⟨⟨lcL103, eL103, rfl, hL103⟩, u108⟩ zu108
   obtain ⟨rfl, rfl⟩ := LtR.rp (x := x) (ss := ss) hL103 hx hss (by decide) (spL_chk hfs)
   refine go ?_
   refine x_s fun w111 sw111 B113 u112 => ?_
   refine go ?_
   exact hK38 bk92 ⟨B113, ⟨(B113).lt, by omega⟩⟩
  refine go ?_
  refine x_n fun bk115 w116 ebk115 sbk115 B117 u118 => ?_
  refine go ?_
  have D121 := ((((hF19.keep u28 (fun _ h => h)).keep u31 (fun h9 => show ¬ (gF19 = bk25) by have := hlF19 h9; omega)).keep u42 (fun _ h => h)).keep u118 (fun _ h => h))
  refine x_c func24 rfl rfl (times_c (spL fs) aF19 gF19 0 cF19 _ D121 (by omega) (by omega)) ?_
  rintro _ w123 ⟨⟨aT120, gT120, cT120, rfl, hT120⟩, u124⟩ zu124
  have lt_gT120 := hT120.lt
  refine go ?_
  refine x_c func26 rfl rfl (report_c x ss al bl ol cl 0 false _ hx (hl.keep ((E43.u.nx u118).nx u124) (fun _ h => h)) (by omega) hss (by decide)) ?_
  rintro _ w129 ⟨⟨aR127, gR127, cR127, rfl, hR127, hgR127, hzR127⟩, u130⟩ zu130
  have hlR127 := hR127.lt
  refine go ?_
  have D134 := (hT120.keep u130 (fun _ h => h))
  have D135 := (((((((hW13.keep u22 (fun _ h => h)).keep u28 (fun _ h => h)).keep u31 (fun h9 => show ¬ (gW13 = bk25) by have := hlW13 h9; omega)).keep u42 (fun _ h => h)).keep u118 (fun _ h => h)).keep u124 (fun _ h => h)).keep u130 (fun _ h => h))
  refine x_c func29 rfl rfl (Laytime_c (tmC x) (tmW x) (some ⟨gW13, 0, none⟩) gW13 0 2 (spL fs) aT120 gT120 0 cT120 (rpP 0 false x ss) aR127 gR127 0 cR127 _ D135 (by show 2 ≤ _; decide) (D134.sl (fun _ => rfl)) (by first | omega | (rw [List.length_append, List.length_singleton]; omega)) hR127 (by have := rpP_len (c := 0) (cor := false) (x := x) (ss := ss); omega) (by omega)) ?_
  rintro _ w137 ⟨⟨lcL133, eL133, rfl, hL133⟩, u138⟩ zu138
  obtain ⟨rfl, rfl⟩ := LtR.rp (x := x) (ss := ss) hL133 hx hss (by decide) (spL_chk hfs)
  refine go ?_
  refine x_s fun w141 sw141 B143 u142 => ?_
  refine go ?_
  exact hK38 bk115 ⟨B143, ⟨(B143).lt, by omega⟩⟩
 rintro b9 w39 ⟨hBb9, hsb9⟩ u40 zu40
 have hdb937 : ¬ (bk2 = bk25) := by omega
 have hdb957 : ¬ (bk7 = bk25) := by omega
 iterate 5 refine st1 ?_
 refine t_same 32 (v := .bool false) rfl (congrArg Value.bool (decide_eq_false (by omega))) ?_
 refine go ?_
 refine t_conv underlying65 underlying3 rfl rfl rfl (IntWalk.i64_in _ (by omega)) (t_rem rfl rfl rfl rfl (by omega) (by omega) ?_)
 refine go ?_
 refine t_conv underlying65 underlying3 rfl rfl rfl (IntWalk.i64_in _ (by omega)) (t_rem rfl rfl rfl rfl (by omega) (by omega) ?_)
 refine go ?_
 refine x_l1 (fun _ => False) [3, 5, 7, 8, 9] (fun (k : Nat) => [(11, .int .i64 ((rpA (x.n % 1000) ss k) + x.e % 2500)), (12, .int .i64 (k : Int))]) (fun k w => (k ≤ ss.length ∧ k ≤ 8)) (fun k => 8 - k) 0 (by omega) ?_
 rintro k w152 hk u153 zu153 K151 hK151
 refine st1 ?_
 refine x_k1 (fun _ => False) [3, 5, 7, 8, 9, 11, 12] (fun (qa : Bool) => [(60, .bool qa)]) (fun qa w => (qa = true ↔ (k < ss.length ∧ k < 8))) (fun K160 hK160 => ?_) ?_
 ·
  refine go ?_
  refine t_splitp 57 rfl (fun g57 => ?_) (fun g57 => ?_)
  ·
   refine go ?_
   exact hK160 (decide ((k : Int) < 8)) (by rw [decide_eq_true_eq]; omega)
  refine go ?_
  exact hK160 false (⟨fun h => (by cases h), fun h => absurd h (by omega)⟩)
 rintro qa w161 hqa u162 zu162
 have E163 := Sc.mk (((E33.u.nx u40).nx u153).nx u162)
 refine q_b (fun g60 => ?_) fun g60 => ?_
 ·
  have hqa9 := hqa.1 g60
  have hp9 := hl.lt (by omega)
  have hs9 := hss _ (nth_mem (xs := ss) (i := k) (by omega))
  unfold okU2 at hs9
  have hra := rpA_bd (a := x.n % 1000) (by omega) hss (k := k) (by omega)
  refine go ?_
  refine c_drawnM follows (fun _ => False) (OTl [0, 2, 4, 6, 8, 10, 12, 14, 16, 18, 20, 22, 24, 26, 28, 30, 32, 34]) (by kernel_rfl) fun w165 u166 => ?_
  have zu166 := u166.size
  have E167 := Sc.mk (E163.u.nx u166)
  refine go ?_
  refine y_i k (hl.keep E167.u (fun _ h => h)) (fun _ => ?_)
  refine y_indexArr (j := 0) (ol + k * 2 + 0) underlying86 sizeOf5 rfl rfl rfl rfl rfl (by decide) rfl ?_
  refine go ?_
  refine y_conv underlying5 underlying3 rfl rfl rfl (IntWalk.i64_in _ (by omega)) ?_
  refine go ?_
  refine y_i k (hl.keep E167.u (fun _ h => h)) (fun _ => ?_)
  refine y_indexArr (j := 1) (ol + k * 2 + 1) underlying86 sizeOf5 rfl rfl rfl rfl rfl (by decide) rfl ?_
  refine go ?_
  refine y_conv underlying5 underlying3 rfl rfl rfl (IntWalk.i64_in _ (by omega)) ?_
  refine go ?_
  exact hK151 (k + 1) (by omega) (hs := by exact ⟨(congrArg (fun z => some (Value.int .i64 z)) (by simp only [rpA]; omega)), rfl, rfl, rfl, rfl, rfl, rfl, trivial⟩)
 have hqb9 : ¬ (k < ss.length ∧ k < 8) := fun q => by rw [hqa.2 q] at g60; cases g60
 have hke : (rpA (x.n % 1000) ss k) + x.e % 2500 = enT x ss := by rw [show k = min ss.length 8 by omega]; rfl
 refine c_same 11 (v := .int .i64 (enT x ss)) rfl (congrArg (Value.int .i64) hke) ?_
 iterate 7 refine st1 ?_
 refine x_k1 (fun _ => False) [3, 5, 7, 8, 9, 11] (fun (u10 : Unit) => [(156, .bool false)]) (fun u10 w => True) (fun K175 hK175 => ?_) ?_
 ·
  refine go ?_
  simp only [List.append_eq, List.cons_append, List.nil_append]
  have hco : (tmC x).o = x.t3 % 300 := rfl
  have hcl : (tmC x).l = x.t2 % 2000 := rfl
  have hre := rpA_bd (a := x.n % 1000) (by omega) hss (k := min ss.length 8) (by omega)
  have hen : enT x ss = rpA (x.n % 1000) ss (min ss.length 8) + x.e % 2500 := rfl
  obtain ⟨k1, k2, k3, k4, k5⟩ := ltP_ok (ss := ss) (fr := spL fs) hx
  
  refine go ?_
  refine t_conv underlying65 underlying3 rfl rfl rfl (IntWalk.i64_in _ (by omega)) (t_rem rfl rfl rfl rfl (by omega) (by omega) ?_)
  iterate 4 refine st1 ?_
  refine t_same 89 (v := .bool false) rfl (congrArg Value.bool (decide_eq_false (by omega))) ?_
  iterate 4 refine st1 ?_
  refine t_same 93 (v := .bool false) rfl (congrArg Value.bool (decide_eq_false (by omega))) ?_
  iterate 7 refine st1 ?_
  refine t_same 100 (v := .bool false) rfl (congrArg Value.bool (decide_eq_false (by omega))) ?_
  iterate 5 refine st1 ?_
  refine t_same 105 (v := .bool false) rfl (congrArg Value.bool (decide_eq_false (by omega))) ?_
  refine go ?_
  refine t_splitp 111 rfl (fun g111 => ?_) (fun g111 => ?_)
  ·
   iterate 5 refine st1 ?_
   refine t_same 116 (v := .bool false) rfl (congrArg Value.bool (decide_eq_false (by omega))) ?_
   refine go ?_
   refine t_splitp 123 rfl (fun g123 => ?_) (fun g123 => ?_)
   ·
    iterate 8 refine st1 ?_
    refine t_same 131 (v := .bool false) rfl (congrArg Value.bool (decide_eq_false (by omega))) ?_
    refine go ?_
    refine t_splitp 138 rfl (fun g138 => ?_) (fun g138 => ?_)
    ·
     iterate 3 refine st1 ?_
     refine t_same 141 (v := .bool false) rfl (congrArg Value.bool (decide_eq_false (by omega))) ?_
     refine go ?_
     refine t_max rfl rfl rfl rfl ?_
     refine st1 ?_
     refine t_same 155 (v := .bool false) rfl (congrArg Value.bool (decide_eq_false (by omega))) ?_
     refine go ?_
     exact hK175 () trivial
    refine go ?_
    refine t_max rfl rfl rfl rfl ?_
    refine st1 ?_
    refine t_same 155 (v := .bool false) rfl (congrArg Value.bool (decide_eq_false (by omega))) ?_
    refine go ?_
    exact hK175 () trivial
   refine go ?_
   refine t_splitp 138 rfl (fun g138 => ?_) (fun g138 => ?_)
   ·
    iterate 3 refine st1 ?_
    refine t_same 141 (v := .bool false) rfl (congrArg Value.bool (decide_eq_false (by omega))) ?_
    refine go ?_
    refine t_max rfl rfl rfl rfl ?_
    refine st1 ?_
    refine t_same 155 (v := .bool false) rfl (congrArg Value.bool (decide_eq_false (by omega))) ?_
    refine go ?_
    exact hK175 () trivial
   refine go ?_
   refine t_max rfl rfl rfl rfl ?_
   refine st1 ?_
   refine t_same 155 (v := .bool false) rfl (congrArg Value.bool (decide_eq_false (by omega))) ?_
   refine go ?_
   exact hK175 () trivial
  refine go ?_
  refine t_splitp 123 rfl (fun g123 => ?_) (fun g123 => ?_)
  ·
   iterate 8 refine st1 ?_
   refine t_same 131 (v := .bool false) rfl (congrArg Value.bool (decide_eq_false (by omega))) ?_
   refine go ?_
   refine t_splitp 138 rfl (fun g138 => ?_) (fun g138 => ?_)
   ·
    iterate 3 refine st1 ?_
    refine t_same 141 (v := .bool false) rfl (congrArg Value.bool (decide_eq_false (by omega))) ?_
    refine go ?_
    refine t_max rfl rfl rfl rfl ?_
    refine st1 ?_
    refine t_same 155 (v := .bool false) rfl (congrArg Value.bool (decide_eq_false (by omega))) ?_
    refine go ?_
    exact hK175 () trivial
   refine go ?_
   refine t_max rfl rfl rfl rfl ?_
   refine st1 ?_
   refine t_same 155 (v := .bool false) rfl (congrArg Value.bool (decide_eq_false (by omega))) ?_
   refine go ?_
   exact hK175 () trivial
  refine go ?_
  refine t_splitp 138 rfl (fun g138 => ?_) (fun g138 => ?_)
  ·
   iterate 3 refine st1 ?_
   refine t_same 141 (v := .bool false) rfl (congrArg Value.bool (decide_eq_false (by omega))) ?_
   refine go ?_
   refine t_max rfl rfl rfl rfl ?_
   refine st1 ?_
   refine t_same 155 (v := .bool false) rfl (congrArg Value.bool (decide_eq_false (by omega))) ?_
   refine go ?_
   exact hK175 () trivial
  refine go ?_
  refine t_max rfl rfl rfl rfl ?_
  refine st1 ?_
  refine t_same 155 (v := .bool false) rfl (congrArg Value.bool (decide_eq_false (by omega))) ?_
  refine go ?_
  exact hK175 () trivial
 rintro u10 w176 _ u177 zu177
 refine go ?_
 refine x_n fun bk180 w181 ebk180 sbk180 B182 u183 => ?_
 refine x_s fun w185 sw185 B187 u186 => ?_
 refine go ?_
 refine t_rem8 rfl rfl rfl rfl (by omega) (by omega) ?_
 refine go ?_
 refine t_rem8 rfl rfl rfl rfl (by omega) (by omega) (t_ariU rfl rfl rfl rfl rfl (by omega) (t_indexArr (j := 0) (0) underlying68 sizeOf65 rfl rfl rfl rfl rfl (by decide) rfl ?_))
 refine go ?_
 refine t_rem8 rfl rfl rfl rfl (by omega) (by omega) (t_minK rfl rfl rfl rfl (t_ariU rfl rfl rfl rfl rfl (by omega) ?_))
 refine go ?_
 refine x_s fun w190 sw190 B192 u191 => ?_
 have E193 := Sc.mk ((((E163.u.nx u177).nx u183).next u186 (fun i hi h => by omega)).next u191 (fun i hi h => by omega))
 iterate 2 refine st1 ?_
 refine x_k1 (fun _ => False) [3, 5, 7, 8, 9, 11] (fun (b14 : Nat) => [(10, .int .i64 0), (14, .pointer (some ⟨b14, 0, none⟩))]) (fun b14 w => (Blk w b14 81 [.int .i64 ((ltP (laC x m) ss (spL fs)).b), .int .i64 ((ltP (laC x m) ss (spL fs)).u), .int .i64 ((ltP (laC x m) ss (spL fs)).o), .int .i64 ((ltP (laC x m) ss (spL fs)).s)]) ∧ (b14 < w.heap.size ∧ w190.heap.size ≤ b14)) (fun K198 hK198 => ?_) ?_
 ·
  refine c_drawnM follows (fun _ => False) (.look 0 (.look 1 (.look 3 (.act 2 (.act 4 (.act 5 (.look 6 (.look 7 (.look 8 (.act 9 (.act 10 (.look 11 .done) .stop) .stop)))) (.act 9 (.act 5 (.look 6 (.look 7 (.look 8 (.act 10 (.look 11 .done) .stop)))) .stop) .stop)) (.act 9 (.act 4 (.act 5 (.look 6 (.look 7 (.look 8 (.act 10 (.look 11 .done) .stop)))) .stop) .stop) .stop)) (.act 9 (.act 2 (.act 4 (.act 5 (.look 6 (.look 7 (.look 8 (.act 10 (.look 11 .done) .stop)))) .stop) .stop) .stop) .stop))))) (by kernel_rfl) fun w201 u202 => ?_
  have zu202 := u202.size
  have E203 := Sc.mk (E193.u.nx u202)
  refine go ?_
  refine s_or ?_ ?_
  ·
   refine go ?_
   have D205 := ((((((((((hF19.keep u28 (fun _ h => h)).keep u31 (fun h9 => show ¬ (gF19 = bk25) by have := hlF19 h9; omega)).keep u40 (fun _ h => h)).keep u153 (fun _ h => h)).keep u162 (fun _ h => h)).keep u177 (fun _ h => h)).keep u183 (fun _ h => h)).keep u186 (fun h9 => show ¬ (gF19 = bk180) by have := hlF19 h9; omega)).keep u191 (fun h9 => show ¬ (gF19 = bk180) by have := hlF19 h9; omega)).keep u202 (fun _ h => h))
   refine x_c func24 rfl rfl (times_c (spL fs) aF19 gF19 0 cF19 _ D205 (by omega) (by omega)) ?_
   rintro _ w207 ⟨⟨aT204, gT204, cT204, rfl, hT204⟩, u208⟩ zu208
   have E210 := Sc.mk (E203.u.nx u208)
   have lt_gT204 := hT204.lt
   refine go ?_
   refine s_or ?_ ?_
   ·
    refine go ?_
    refine x_c func26 rfl rfl (report_c (laC x m) ss al bl ol cl 0 false _ (laC_ok hx hm) (hl.keep E210.u (fun _ h => h)) (by omega) hss (by decide)) ?_
    rintro _ w213 ⟨⟨aR211, gR211, cR211, rfl, hR211, hgR211, hzR211⟩, u214⟩ zu214
    have hlR211 := hR211.lt
    refine go ?_
    refine s_or ?_ ?_
    ·
     refine go ?_
     have D218 := (hT204.keep u214 (fun _ h => h))
     have D219 := (((((((((((((hW13.keep u22 (fun _ h => h)).keep u28 (fun _ h => h)).keep u31 (fun h9 => show ¬ (gW13 = bk25) by have := hlW13 h9; omega)).keep u40 (fun _ h => h)).keep u153 (fun _ h => h)).keep u162 (fun _ h => h)).keep u177 (fun _ h => h)).keep u183 (fun _ h => h)).keep u186 (fun h9 => show ¬ (gW13 = bk180) by have := hlW13 h9; omega)).keep u191 (fun h9 => show ¬ (gW13 = bk180) by have := hlW13 h9; omega)).keep u202 (fun _ h => h)).keep u208 (fun _ h => h)).keep u214 (fun _ h => h))
     refine x_c func29 rfl rfl (Laytime_c (tmC x) (tmW x) (some ⟨gW13, 0, none⟩) gW13 0 2 (spL fs) aT204 gT204 0 cT204 (rpP 0 false (laC x m) ss) aR211 gR211 0 cR211 _ D219 (by show 2 ≤ _; decide) (D218.sl (fun _ => rfl)) (by first | omega | (rw [List.length_append, List.length_singleton]; omega)) hR211 (by have := rpP_len (c := 0) (cor := false) (x := (laC x m)) (ss := ss); omega) (by omega)) ?_
     rintro _ w221 ⟨⟨lcL217, eL217, rfl, hL217⟩, u222⟩ zu222
     obtain ⟨rfl, rfl⟩ := LtR.rp (x := (laC x m)) (ss := ss) hL217 (laC_ok hx hm) hss (by decide) (spL_chk hfs)
     refine go ?_
     refine x_n fun bk225 w226 ebk225 sbk225 B227 u228 => ?_
     refine go ?_
     refine x_s fun w230 sw230 B232 u231 => ?_
     refine go ?_
     exact hK198 bk225 ⟨B232, ⟨(B232).lt, by omega⟩⟩
    refine go ?_
    refine x_n fun bk234 w235 ebk234 sbk234 B236 u237 => ?_
    refine go ?_
    have D240 := ((hT204.keep u214 (fun _ h => h)).keep u237 (fun _ h => h))
    have D241 := ((((((((((((((hW13.keep u22 (fun _ h => h)).keep u28 (fun _ h => h)).keep u31 (fun h9 => show ¬ (gW13 = bk25) by have := hlW13 h9; omega)).keep u40 (fun _ h => h)).keep u153 (fun _ h => h)).keep u162 (fun _ h => h)).keep u177 (fun _ h => h)).keep u183 (fun _ h => h)).keep u186 (fun h9 => show ¬ (gW13 = bk180) by have := hlW13 h9; omega)).keep u191 (fun h9 => show ¬ (gW13 = bk180) by have := hlW13 h9; omega)).keep u202 (fun _ h => h)).keep u208 (fun _ h => h)).keep u214 (fun _ h => h)).keep u237 (fun _ h => h))
    have D242 := (hR211.keep u237 (fun _ h => h))
    refine x_c func29 rfl rfl (Laytime_c (tmC x) (tmW x) (some ⟨gW13, 0, none⟩) gW13 0 2 (spL fs) aT204 gT204 0 cT204 (rpP 0 false (laC x m) ss) aR211 gR211 0 cR211 _ D241 (by show 2 ≤ _; decide) (D240.sl (fun _ => rfl)) (by first | omega | (rw [List.length_append, List.length_singleton]; omega)) D242 (by have := rpP_len (c := 0) (cor := false) (x := (laC x m)) (ss := ss); omega) (by omega)) ?_
    rintro _ w244 ⟨⟨lcL239, eL239, rfl, hL239⟩, u245⟩ zu245
    obtain ⟨rfl, rfl⟩ := LtR.rp (x := (laC x m)) (ss := ss) hL239 (laC_ok hx hm) hss (by decide) (spL_chk hfs)
    refine go ?_
    refine x_s fun w248 sw248 B250 u249 => ?_
    refine go ?_
    exact hK198 bk234 ⟨B250, ⟨(B250).lt, by omega⟩⟩
   refine go ?_
   refine x_n fun bk252 w253 ebk252 sbk252 B254 u255 => ?_
   refine go ?_
   refine x_c func26 rfl rfl (report_c (laC x m) ss al bl ol cl 0 false _ (laC_ok hx hm) (hl.keep (E210.u.nx u255) (fun _ h => h)) (by omega) hss (by decide)) ?_
   rintro _ w259 ⟨⟨aR257, gR257, cR257, rfl, hR257, hgR257, hzR257⟩, u260⟩ zu260
   have hlR257 := hR257.lt
   refine go ?_
   have D264 := ((hT204.keep u255 (fun _ h => h)).keep u260 (fun _ h => h))
   have D265 := ((((((((((((((hW13.keep u22 (fun _ h => h)).keep u28 (fun _ h => h)).keep u31 (fun h9 => show ¬ (gW13 = bk25) by have := hlW13 h9; omega)).keep u40 (fun _ h => h)).keep u153 (fun _ h => h)).keep u162 (fun _ h => h)).keep u177 (fun _ h => h)).keep u183 (fun _ h => h)).keep u186 (fun h9 => show ¬ (gW13 = bk180) by have := hlW13 h9; omega)).keep u191 (fun h9 => show ¬ (gW13 = bk180) by have := hlW13 h9; omega)).keep u202 (fun _ h => h)).keep u208 (fun _ h => h)).keep u255 (fun _ h => h)).keep u260 (fun _ h => h))
   refine x_c func29 rfl rfl (Laytime_c (tmC x) (tmW x) (some ⟨gW13, 0, none⟩) gW13 0 2 (spL fs) aT204 gT204 0 cT204 (rpP 0 false (laC x m) ss) aR257 gR257 0 cR257 _ D265 (by show 2 ≤ _; decide) (D264.sl (fun _ => rfl)) (by first | omega | (rw [List.length_append, List.length_singleton]; omega)) hR257 (by have := rpP_len (c := 0) (cor := false) (x := (laC x m)) (ss := ss); omega) (by omega)) ?_
   rintro _ w267 ⟨⟨lcL263, eL263, rfl, hL263⟩, u268⟩ zu268
   obtain ⟨rfl, rfl⟩ := LtR.rp (x := (laC x m)) (ss := ss) hL263 (laC_ok hx hm) hss (by decide) (spL_chk hfs)
   refine go ?_
   refine x_s fun w271 sw271 B273 u272 => ?_
   refine go ?_
   exact hK198 bk252 ⟨B273, ⟨(B273).lt, by omega⟩⟩
  refine go ?_
  refine x_n fun bk275 w276 ebk275 sbk275 B277 u278 => ?_
  refine go ?_
  have D281 := (((((((((((hF19.keep u28 (fun _ h => h)).keep u31 (fun h9 => show ¬ (gF19 = bk25) by have := hlF19 h9; omega)).keep u40 (fun _ h => h)).keep u153 (fun _ h => h)).keep u162 (fun _ h => h)).keep u177 (fun _ h => h)).keep u183 (fun _ h => h)).keep u186 (fun h9 => show ¬ (gF19 = bk180) by have := hlF19 h9; omega)).keep u191 (fun h9 => show ¬ (gF19 = bk180) by have := hlF19 h9; omega)).keep u202 (fun _ h => h)).keep u278 (fun _ h => h))
  refine x_c func24 rfl rfl (times_c (spL fs) aF19 gF19 0 cF19 _ D281 (by omega) (by omega)) ?_
  rintro _ w283 ⟨⟨aT280, gT280, cT280, rfl, hT280⟩, u284⟩ zu284
  have lt_gT280 := hT280.lt
  refine go ?_
  refine x_c func26 rfl rfl (report_c (laC x m) ss al bl ol cl 0 false _ (laC_ok hx hm) (hl.keep ((E203.u.nx u278).nx u284) (fun _ h => h)) (by omega) hss (by decide)) ?_
  rintro _ w289 ⟨⟨aR287, gR287, cR287, rfl, hR287, hgR287, hzR287⟩, u290⟩ zu290
  have hlR287 := hR287.lt
  refine go ?_
  have D294 := (hT280.keep u290 (fun _ h => h))
  have D295 := ((((((((((((((hW13.keep u22 (fun _ h => h)).keep u28 (fun _ h => h)).keep u31 (fun h9 => show ¬ (gW13 = bk25) by have := hlW13 h9; omega)).keep u40 (fun _ h => h)).keep u153 (fun _ h => h)).keep u162 (fun _ h => h)).keep u177 (fun _ h => h)).keep u183 (fun _ h => h)).keep u186 (fun h9 => show ¬ (gW13 = bk180) by have := hlW13 h9; omega)).keep u191 (fun h9 => show ¬ (gW13 = bk180) by have := hlW13 h9; omega)).keep u202 (fun _ h => h)).keep u278 (fun _ h => h)).keep u284 (fun _ h => h)).keep u290 (fun _ h => h))
  refine x_c func29 rfl rfl (Laytime_c (tmC x) (tmW x) (some ⟨gW13, 0, none⟩) gW13 0 2 (spL fs) aT280 gT280 0 cT280 (rpP 0 false (laC x m) ss) aR287 gR287 0 cR287 _ D295 (by show 2 ≤ _; decide) (D294.sl (fun _ => rfl)) (by first | omega | (rw [List.length_append, List.length_singleton]; omega)) hR287 (by have := rpP_len (c := 0) (cor := false) (x := (laC x m)) (ss := ss); omega) (by omega)) ?_
  rintro _ w297 ⟨⟨lcL293, eL293, rfl, hL293⟩, u298⟩ zu298
  obtain ⟨rfl, rfl⟩ := LtR.rp (x := (laC x m)) (ss := ss) hL293 (laC_ok hx hm) hss (by decide) (spL_chk hfs)
  refine go ?_
  refine x_s fun w301 sw301 B303 u302 => ?_
  refine go ?_
  exact hK198 bk275 ⟨B303, ⟨(B303).lt, by omega⟩⟩
 rintro b14 w199 ⟨hBb14, hsb14⟩ u200 zu200
 have hdb1437 : ¬ (bk2 = bk25) := by omega
 have hdb1457 : ¬ (bk7 = bk25) := by omega
 have hla := ltP_later (x := x) (y := laC x m) (ss := ss) (fr := spL fs) hx rfl rfl rfl (by show _ ≤ (x.e % 2500 + min (2499 - x.e % 2500) (m.a % 700)) % 2500; omega)
 
 iterate 11 refine st1 ?_
 refine t_same 187 (v := .bool false) rfl (congrArg Value.bool (decide_eq_false (by omega))) ?_
 iterate 7 refine st1 ?_
 refine t_same 194 (v := .bool false) rfl (congrArg Value.bool (decide_eq_false (by omega))) ?_
 refine go ?_
 refine t_indexArr (j := 0) (0) underlying68 sizeOf65 rfl rfl rfl rfl rfl (by decide) rfl ?_
 refine go ?_
 refine t_conv underlying65 underlying3 rfl rfl rfl (IntWalk.i64_in _ (by omega)) (t_rem rfl rfl rfl rfl (by omega) (by omega) (t_indexArr (j := 0) (0) underlying68 sizeOf65 rfl rfl rfl rfl rfl (by decide) rfl ?_))
 refine go ?_
 refine t_conv underlying65 underlying3 rfl rfl rfl (IntWalk.i64_in _ (by omega)) (t_rem rfl rfl rfl rfl (by omega) (by omega) (t_indexArr (j := 1) (1) underlying68 sizeOf65 rfl rfl rfl rfl rfl (by decide) rfl ?_))
 refine go ?_
 refine t_conv underlying65 underlying3 rfl rfl rfl (IntWalk.i64_in _ (by omega)) (t_rem rfl rfl rfl rfl (by omega) (by omega) ?_)
 refine go ?_
 refine x_n fun bk309 w310 ebk309 sbk309 B311 u312 => ?_
 refine x_s fun w314 sw314 B316 u315 => ?_
 have E317 := Sc.mk (((E193.u.nx u200).nx u312).next u315 (fun i hi h => by omega))
 iterate 2 refine st1 ?_
 refine x_k1 (fun i => i = b14) [3, 5, 7, 8, 9, 11, 14, 15] (fun (u9 : Unit) => [(10, .int .i64 0)]) (fun u9 w => Blk w b14 81 [.int .i64 ((ltP x ss (spL fs ++ [dayA m])).b), .int .i64 ((ltP x ss (spL fs ++ [dayA m])).u), .int .i64 ((ltP x ss (spL fs ++ [dayA m])).o), .int .i64 ((ltP x ss (spL fs ++ [dayA m])).s)]) (fun K322 hK322 => ?_) ?_
 ·
  refine c_drawnM follows (fun i => i = b14) (.look 0 (.look 1 (.look 3 (.look 6 (.act 2 (.act 4 (.act 5 (.act 7 (.act 8 (.look 9 (.look 10 (.look 11 (.act 12 (.look 13 .done) .stop)))) .stop) .stop) .stop) .stop) (.act 4 (.act 2 (.act 5 (.act 7 (.act 8 (.look 9 (.look 10 (.look 11 (.act 12 (.look 13 .done) .stop)))) .stop) .stop) .stop) .stop) .stop)))))) (by kernel_rfl) fun w325 u326 => ?_
  have zu326 := u326.size
  have E327 := Sc.mk (E317.u.nx u326)
  refine go ?_
  refine s_or ?_ ?_
  ·
   refine go ?_
   have D329 := (((((((((((((hF19.keep u28 (fun _ h => h)).keep u31 (fun h9 => show ¬ (gF19 = bk25) by have := hlF19 h9; omega)).keep u40 (fun _ h => h)).keep u153 (fun _ h => h)).keep u162 (fun _ h => h)).keep u177 (fun _ h => h)).keep u183 (fun _ h => h)).keep u186 (fun h9 => show ¬ (gF19 = bk180) by have := hlF19 h9; omega)).keep u191 (fun h9 => show ¬ (gF19 = bk180) by have := hlF19 h9; omega)).keep u200 (fun _ h => h)).keep u312 (fun _ h => h)).keep u315 (fun h9 => show ¬ (gF19 = bk309) by have := hlF19 h9; omega)).keep u326 (fun _ h => h))
   refine x_c func24 rfl rfl (times_c (spL fs) aF19 gF19 0 cF19 _ D329 (by omega) (by omega)) ?_
   rintro _ w331 ⟨⟨aT328, gT328, cT328, rfl, hT328⟩, u332⟩ zu332
   have lt_gT328 := hT328.lt
   refine go ?_
   refine x_l fun bk335 w336 ebk335 sbk335 B337 u338 => ?_
   refine go ?_
   have D340 := (hT328.keep u338 (fun _ h => h))
   refine t_append (z := .agg #[.int .i64 0, .int .i64 0]) (bytes := 16) (k := 2) (base := w325.heap.size) (dayA m) underlying56 (by kernel_rfl) rfl (by decide) (fun _ => rfl) (by intro x; simp [encFre, Value.oneCell']) rfl rfl rfl rfl D340 B337 (by omega) (by omega) (by decide) (fun ao341 gb342 cp343 w344 A345 u346 gegb342 lngb342 => ?_)
   have zu346 := u346.size
   have lt_gb342 := A345.lt
   refine go ?_
   refine x_c func26 rfl rfl (report_c x ss al bl ol cl 0 false _ hx (hl.keep (((E327.u.nx u332).nx u338).next u346 (fun i hi h => by omega)) (fun _ h => h)) (by omega) hss (by decide)) ?_
   rintro _ w350 ⟨⟨aR348, gR348, cR348, rfl, hR348, hgR348, hzR348⟩, u351⟩ zu351
   have hlR348 := hR348.lt
   refine go ?_
   have D355 := (A345.keep u351 (fun _ h => h))
   have D356 := ((((((((((((((((((hW13.keep u22 (fun _ h => h)).keep u28 (fun _ h => h)).keep u31 (fun h9 => show ¬ (gW13 = bk25) by have := hlW13 h9; omega)).keep u40 (fun _ h => h)).keep u153 (fun _ h => h)).keep u162 (fun _ h => h)).keep u177 (fun _ h => h)).keep u183 (fun _ h => h)).keep u186 (fun h9 => show ¬ (gW13 = bk180) by have := hlW13 h9; omega)).keep u191 (fun h9 => show ¬ (gW13 = bk180) by have := hlW13 h9; omega)).keep u200 (fun _ h => h)).keep u312 (fun _ h => h)).keep u315 (fun h9 => show ¬ (gW13 = bk309) by have := hlW13 h9; omega)).keep u326 (fun _ h => h)).keep u332 (fun _ h => h)).keep u338 (fun _ h => h)).keep u346 (fun h9 => show ¬ ((gW13 = gT328 ∧ w325.heap.size ≤ gW13)) by have := hlW13 h9; omega)).keep u351 (fun _ h => h))
   refine x_c func29 rfl rfl (Laytime_c (tmC x) (tmW x) (some ⟨gW13, 0, none⟩) gW13 0 2 ((spL fs) ++ [(dayA m)]) ao341 gb342 0 cp343 (rpP 0 false x ss) aR348 gR348 0 cR348 _ D356 (by show 2 ≤ _; decide) (D355.sl (fun _ => rfl)) (by first | omega | (rw [List.length_append, List.length_singleton]; omega)) hR348 (by have := rpP_len (c := 0) (cor := false) (x := x) (ss := ss); omega) (by omega)) ?_
   rintro _ w358 ⟨⟨lcL354, eL354, rfl, hL354⟩, u359⟩ zu359
   obtain ⟨rfl, rfl⟩ := LtR.rp (x := x) (ss := ss) hL354 hx hss (by decide) (spL_chk1 hfs (by first | (unfold dayA; dsimp only; omega) | (unfold dayB; dsimp only; omega)))
   refine go ?_
   refine x_s fun w362 sw362 B364 u363 => ?_
   refine go ?_
   exact hK322 () B364
  refine go ?_
  refine x_l fun bk366 w367 ebk366 sbk366 B368 u369 => ?_
  refine go ?_
  have D372 := ((((((((((((((hF19.keep u28 (fun _ h => h)).keep u31 (fun h9 => show ¬ (gF19 = bk25) by have := hlF19 h9; omega)).keep u40 (fun _ h => h)).keep u153 (fun _ h => h)).keep u162 (fun _ h => h)).keep u177 (fun _ h => h)).keep u183 (fun _ h => h)).keep u186 (fun h9 => show ¬ (gF19 = bk180) by have := hlF19 h9; omega)).keep u191 (fun h9 => show ¬ (gF19 = bk180) by have := hlF19 h9; omega)).keep u200 (fun _ h => h)).keep u312 (fun _ h => h)).keep u315 (fun h9 => show ¬ (gF19 = bk309) by have := hlF19 h9; omega)).keep u326 (fun _ h => h)).keep u369 (fun _ h => h))
  refine x_c func24 rfl rfl (times_c (spL fs) aF19 gF19 0 cF19 _ D372 (by omega) (by omega)) ?_
  rintro _ w374 ⟨⟨aT371, gT371, cT371, rfl, hT371⟩, u375⟩ zu375
  have lt_gT371 := hT371.lt
  refine go ?_
  have B378 := (B368.kx u375)
  refine t_append (z := .agg #[.int .i64 0, .int .i64 0]) (bytes := 16) (k := 2) (base := w367.heap.size) (dayA m) underlying56 (by kernel_rfl) rfl (by decide) (fun _ => rfl) (by intro x; simp [encFre, Value.oneCell']) rfl rfl rfl rfl hT371 B378 (by omega) (by omega) (by decide) (fun ao379 gb380 cp381 w382 A383 u384 gegb380 lngb380 => ?_)
  have zu384 := u384.size
  have lt_gb380 := A383.lt
  refine go ?_
  refine x_c func26 rfl rfl (report_c x ss al bl ol cl 0 false _ hx (hl.keep (((E327.u.nx u369).nx u375).next u384 (fun i hi h => by omega)) (fun _ h => h)) (by omega) hss (by decide)) ?_
  rintro _ w388 ⟨⟨aR386, gR386, cR386, rfl, hR386, hgR386, hzR386⟩, u389⟩ zu389
  have hlR386 := hR386.lt
  refine go ?_
  have D393 := (A383.keep u389 (fun _ h => h))
  have D394 := ((((((((((((((((((hW13.keep u22 (fun _ h => h)).keep u28 (fun _ h => h)).keep u31 (fun h9 => show ¬ (gW13 = bk25) by have := hlW13 h9; omega)).keep u40 (fun _ h => h)).keep u153 (fun _ h => h)).keep u162 (fun _ h => h)).keep u177 (fun _ h => h)).keep u183 (fun _ h => h)).keep u186 (fun h9 => show ¬ (gW13 = bk180) by have := hlW13 h9; omega)).keep u191 (fun h9 => show ¬ (gW13 = bk180) by have := hlW13 h9; omega)).keep u200 (fun _ h => h)).keep u312 (fun _ h => h)).keep u315 (fun h9 => show ¬ (gW13 = bk309) by have := hlW13 h9; omega)).keep u326 (fun _ h => h)).keep u369 (fun _ h => h)).keep u375 (fun _ h => h)).keep u384 (fun h9 => show ¬ ((gW13 = gT371 ∧ w367.heap.size ≤ gW13)) by have := hlW13 h9; omega)).keep u389 (fun _ h => h))
  refine x_c func29 rfl rfl (Laytime_c (tmC x) (tmW x) (some ⟨gW13, 0, none⟩) gW13 0 2 ((spL fs) ++ [(dayA m)]) ao379 gb380 0 cp381 (rpP 0 false x ss) aR386 gR386 0 cR386 _ D394 (by show 2 ≤ _; decide) (D393.sl (fun _ => rfl)) (by first | omega | (rw [List.length_append, List.length_singleton]; omega)) hR386 (by have := rpP_len (c := 0) (cor := false) (x := x) (ss := ss); omega) (by omega)) ?_
  rintro _ w396 ⟨⟨lcL392, eL392, rfl, hL392⟩, u397⟩ zu397
  obtain ⟨rfl, rfl⟩ := LtR.rp (x := x) (ss := ss) hL392 hx hss (by decide) (spL_chk1 hfs (by first | (unfold dayA; dsimp only; omega) | (unfold dayB; dsimp only; omega)))
  refine go ?_
  refine x_s fun w400 sw400 B402 u401 => ?_
  refine go ?_
  exact hK322 () B402
 rintro u9 w323 I404 u324 zu324
 have hre := rpA_bd (a := x.n % 1000) (by omega) hss (k := min ss.length 8) (by omega)
 have hen : enT x ss = rpA (x.n % 1000) ss (min ss.length 8) + x.e % 2500 := rfl
 obtain ⟨k1, k2, k3, k4, k5⟩ := ltP_ok (ss := ss) (fr := spL fs) hx
 obtain ⟨r1, r2, r3, r4, r5⟩ := ltP_ok (ss := ss) (fr := spL fs ++ [dayA m]) hx
 have hmo := ltP_more (ss := ss) (fr := spL fs) hx (dayA m)
 
 iterate 17 refine st1 ?_
 refine t_same 235 (v := .bool false) rfl (congrArg Value.bool (decide_eq_false (by omega))) ?_
 refine go ?_
 refine q_p (fun g239 => ?_) fun g239 => ?_
 ·
  refine go ?_
  have hre := rpA_bd (a := x.n % 1000) (by omega) hss (k := min ss.length 8) (by omega)
  have hen : enT x ss = rpA (x.n % 1000) ss (min ss.length 8) + x.e % 2500 := rfl
  obtain ⟨k1, k2, k3, k4, k5⟩ := ltP_ok (ss := ss) (fr := spL fs) hx
  
  refine go ?_
  refine t_indexArr (j := 1) (1) underlying68 sizeOf65 rfl rfl rfl rfl rfl (by decide) rfl ?_
  refine go ?_
  refine t_conv underlying65 underlying3 rfl rfl rfl (IntWalk.i64_in _ (by omega)) (t_rem rfl rfl rfl rfl (by omega) (by omega) ?_)
  refine go ?_
  refine x_s fun w411 sw411 B413 u412 => ?_
  iterate 2 refine st1 ?_
  refine x_k1 (fun i => i = b14) [3, 7, 9, 14] (fun (u9 : Unit) => [(10, .int .i64 0)]) (fun u9 w => Blk w b14 81 [.int .i64 ((ltP x ss (spL fs ++ [dayB x ss fs m])).b), .int .i64 ((ltP x ss (spL fs ++ [dayB x ss fs m])).u), .int .i64 ((ltP x ss (spL fs ++ [dayB x ss fs m])).o), .int .i64 ((ltP x ss (spL fs ++ [dayB x ss fs m])).s)]) (fun K419 hK419 => ?_) ?_
  ·
   refine c_drawnM follows (fun i => i = b14) (.look 0 (.look 1 (.look 3 (.look 6 (.act 2 (.act 4 (.act 5 (.act 7 (.act 8 (.look 9 (.look 10 (.look 11 (.act 12 (.look 13 .done) .stop)))) .stop) .stop) .stop) .stop) (.act 4 (.act 2 (.act 5 (.act 7 (.act 8 (.look 9 (.look 10 (.look 11 (.act 12 (.look 13 .done) .stop)))) .stop) .stop) .stop) .stop) .stop)))))) (by kernel_rfl) fun w422 u423 => ?_
   have zu423 := u423.size
   have E424 := Sc.mk (((E317.u.next u324 (fun i hi h => by omega)).next u412 (fun i hi h => by omega)).nx u423)
   refine go ?_
   refine s_or ?_ ?_
   ·
    refine go ?_
    have D426 := (((((((((((((((hF19.keep u28 (fun _ h => h)).keep u31 (fun h9 => show ¬ (gF19 = bk25) by have := hlF19 h9; omega)).keep u40 (fun _ h => h)).keep u153 (fun _ h => h)).keep u162 (fun _ h => h)).keep u177 (fun _ h => h)).keep u183 (fun _ h => h)).keep u186 (fun h9 => show ¬ (gF19 = bk180) by have := hlF19 h9; omega)).keep u191 (fun h9 => show ¬ (gF19 = bk180) by have := hlF19 h9; omega)).keep u200 (fun _ h => h)).keep u312 (fun _ h => h)).keep u315 (fun h9 => show ¬ (gF19 = bk309) by have := hlF19 h9; omega)).keep u324 (fun h9 => show ¬ (gF19 = b14) by have := hlF19 h9; omega)).keep u412 (fun h9 => show ¬ (gF19 = bk309) by have := hlF19 h9; omega)).keep u423 (fun _ h => h))
    refine x_c func24 rfl rfl (times_c (spL fs) aF19 gF19 0 cF19 _ D426 (by omega) (by omega)) ?_
    rintro _ w428 ⟨⟨aT425, gT425, cT425, rfl, hT425⟩, u429⟩ zu429
    have lt_gT425 := hT425.lt
    refine go ?_
    refine x_l fun bk432 w433 ebk432 sbk432 B434 u435 => ?_
    refine go ?_
    have D437 := (hT425.keep u435 (fun _ h => h))
    refine t_append (z := .agg #[.int .i64 0, .int .i64 0]) (bytes := 16) (k := 2) (base := w422.heap.size) (dayB x ss fs m) underlying56 (by kernel_rfl) rfl (by decide) (fun _ => rfl) (by intro x; simp [encFre, Value.oneCell']) rfl rfl rfl rfl D437 B434 (by omega) (by omega) (by decide) (fun ao438 gb439 cp440 w441 A442 u443 gegb439 lngb439 => ?_)
    have zu443 := u443.size
    have lt_gb439 := A442.lt
    refine go ?_
    refine x_c func26 rfl rfl (report_c x ss al bl ol cl 0 false _ hx (hl.keep (((E424.u.nx u429).nx u435).next u443 (fun i hi h => by omega)) (fun _ h => h)) (by omega) hss (by decide)) ?_
    rintro _ w447 ⟨⟨aR445, gR445, cR445, rfl, hR445, hgR445, hzR445⟩, u448⟩ zu448
    have hlR445 := hR445.lt
    refine go ?_
    have D452 := (A442.keep u448 (fun _ h => h))
    have D453 := ((((((((((((((((((((hW13.keep u22 (fun _ h => h)).keep u28 (fun _ h => h)).keep u31 (fun h9 => show ¬ (gW13 = bk25) by have := hlW13 h9; omega)).keep u40 (fun _ h => h)).keep u153 (fun _ h => h)).keep u162 (fun _ h => h)).keep u177 (fun _ h => h)).keep u183 (fun _ h => h)).keep u186 (fun h9 => show ¬ (gW13 = bk180) by have := hlW13 h9; omega)).keep u191 (fun h9 => show ¬ (gW13 = bk180) by have := hlW13 h9; omega)).keep u200 (fun _ h => h)).keep u312 (fun _ h => h)).keep u315 (fun h9 => show ¬ (gW13 = bk309) by have := hlW13 h9; omega)).keep u324 (fun h9 => show ¬ (gW13 = b14) by have := hlW13 h9; omega)).keep u412 (fun h9 => show ¬ (gW13 = bk309) by have := hlW13 h9; omega)).keep u423 (fun _ h => h)).keep u429 (fun _ h => h)).keep u435 (fun _ h => h)).keep u443 (fun h9 => show ¬ ((gW13 = gT425 ∧ w422.heap.size ≤ gW13)) by have := hlW13 h9; omega)).keep u448 (fun _ h => h))
    refine x_c func29 rfl rfl (Laytime_c (tmC x) (tmW x) (some ⟨gW13, 0, none⟩) gW13 0 2 ((spL fs) ++ [(dayB x ss fs m)]) ao438 gb439 0 cp440 (rpP 0 false x ss) aR445 gR445 0 cR445 _ D453 (by show 2 ≤ _; decide) (D452.sl (fun _ => rfl)) (by first | omega | (rw [List.length_append, List.length_singleton]; omega)) hR445 (by have := rpP_len (c := 0) (cor := false) (x := x) (ss := ss); omega) (by omega)) ?_
    rintro _ w455 ⟨⟨lcL451, eL451, rfl, hL451⟩, u456⟩ zu456
    obtain ⟨rfl, rfl⟩ := LtR.rp (x := x) (ss := ss) hL451 hx hss (by decide) (spL_chk1 hfs (by first | (unfold dayA; dsimp only; omega) | (unfold dayB; dsimp only; omega)))
    refine go ?_
    refine x_s fun w459 sw459 B461 u460 => ?_
    refine go ?_
    exact hK419 () B461
   refine go ?_
   refine x_l fun bk463 w464 ebk463 sbk463 B465 u466 => ?_
   refine go ?_
   have D469 := ((((((((((((((((hF19.keep u28 (fun _ h => h)).keep u31 (fun h9 => show ¬ (gF19 = bk25) by have := hlF19 h9; omega)).keep u40 (fun _ h => h)).keep u153 (fun _ h => h)).keep u162 (fun _ h => h)).keep u177 (fun _ h => h)).keep u183 (fun _ h => h)).keep u186 (fun h9 => show ¬ (gF19 = bk180) by have := hlF19 h9; omega)).keep u191 (fun h9 => show ¬ (gF19 = bk180) by have := hlF19 h9; omega)).keep u200 (fun _ h => h)).keep u312 (fun _ h => h)).keep u315 (fun h9 => show ¬ (gF19 = bk309) by have := hlF19 h9; omega)).keep u324 (fun h9 => show ¬ (gF19 = b14) by have := hlF19 h9; omega)).keep u412 (fun h9 => show ¬ (gF19 = bk309) by have := hlF19 h9; omega)).keep u423 (fun _ h => h)).keep u466 (fun _ h => h))
   refine x_c func24 rfl rfl (times_c (spL fs) aF19 gF19 0 cF19 _ D469 (by omega) (by omega)) ?_
   rintro _ w471 ⟨⟨aT468, gT468, cT468, rfl, hT468⟩, u472⟩ zu472
   have lt_gT468 := hT468.lt
   refine go ?_
   have B475 := (B465.kx u472)
   refine t_append (z := .agg #[.int .i64 0, .int .i64 0]) (bytes := 16) (k := 2) (base := w464.heap.size) (dayB x ss fs m) underlying56 (by kernel_rfl) rfl (by decide) (fun _ => rfl) (by intro x; simp [encFre, Value.oneCell']) rfl rfl rfl rfl hT468 B475 (by omega) (by omega) (by decide) (fun ao476 gb477 cp478 w479 A480 u481 gegb477 lngb477 => ?_)
   have zu481 := u481.size
   have lt_gb477 := A480.lt
   refine go ?_
   refine x_c func26 rfl rfl (report_c x ss al bl ol cl 0 false _ hx (hl.keep (((E424.u.nx u466).nx u472).next u481 (fun i hi h => by omega)) (fun _ h => h)) (by omega) hss (by decide)) ?_
   rintro _ w485 ⟨⟨aR483, gR483, cR483, rfl, hR483, hgR483, hzR483⟩, u486⟩ zu486
   have hlR483 := hR483.lt
   refine go ?_
   have D490 := (A480.keep u486 (fun _ h => h))
   have D491 := ((((((((((((((((((((hW13.keep u22 (fun _ h => h)).keep u28 (fun _ h => h)).keep u31 (fun h9 => show ¬ (gW13 = bk25) by have := hlW13 h9; omega)).keep u40 (fun _ h => h)).keep u153 (fun _ h => h)).keep u162 (fun _ h => h)).keep u177 (fun _ h => h)).keep u183 (fun _ h => h)).keep u186 (fun h9 => show ¬ (gW13 = bk180) by have := hlW13 h9; omega)).keep u191 (fun h9 => show ¬ (gW13 = bk180) by have := hlW13 h9; omega)).keep u200 (fun _ h => h)).keep u312 (fun _ h => h)).keep u315 (fun h9 => show ¬ (gW13 = bk309) by have := hlW13 h9; omega)).keep u324 (fun h9 => show ¬ (gW13 = b14) by have := hlW13 h9; omega)).keep u412 (fun h9 => show ¬ (gW13 = bk309) by have := hlW13 h9; omega)).keep u423 (fun _ h => h)).keep u466 (fun _ h => h)).keep u472 (fun _ h => h)).keep u481 (fun h9 => show ¬ ((gW13 = gT468 ∧ w464.heap.size ≤ gW13)) by have := hlW13 h9; omega)).keep u486 (fun _ h => h))
   refine x_c func29 rfl rfl (Laytime_c (tmC x) (tmW x) (some ⟨gW13, 0, none⟩) gW13 0 2 ((spL fs) ++ [(dayB x ss fs m)]) ao476 gb477 0 cp478 (rpP 0 false x ss) aR483 gR483 0 cR483 _ D491 (by show 2 ≤ _; decide) (D490.sl (fun _ => rfl)) (by first | omega | (rw [List.length_append, List.length_singleton]; omega)) hR483 (by have := rpP_len (c := 0) (cor := false) (x := x) (ss := ss); omega) (by omega)) ?_
   rintro _ w493 ⟨⟨lcL489, eL489, rfl, hL489⟩, u494⟩ zu494
   obtain ⟨rfl, rfl⟩ := LtR.rp (x := x) (ss := ss) hL489 hx hss (by decide) (spL_chk1 hfs (by first | (unfold dayA; dsimp only; omega) | (unfold dayB; dsimp only; omega)))
   refine go ?_
   refine x_s fun w497 sw497 B499 u498 => ?_
   refine go ?_
   exact hK419 () B499
  rintro u9 w420 I501 u421 zu421
  refine go ?_
  refine t_neS (xs := [.int .i64 ((ltP x ss (spL fs ++ [dayB x ss fs m])).b), .int .i64 ((ltP x ss (spL fs ++ [dayB x ss fs m])).u), .int .i64 ((ltP x ss (spL fs ++ [dayB x ss fs m])).o), .int .i64 ((ltP x ss (spL fs ++ [dayB x ss fs m])).s)]) (ys := [.int .i64 ((ltP x ss (spL fs)).b), .int .i64 ((ltP x ss (spL fs)).u), .int .i64 ((ltP x ss (spL fs)).o), .int .i64 ((ltP x ss (spL fs)).s)]) (by kernel_rfl) (eqIn81 9998 ((ltP x ss (spL fs ++ [dayB x ss fs m])).b) ((ltP x ss (spL fs ++ [dayB x ss fs m])).u) ((ltP x ss (spL fs ++ [dayB x ss fs m])).o) ((ltP x ss (spL fs ++ [dayB x ss fs m])).s) ((ltP x ss (spL fs)).b) ((ltP x ss (spL fs)).u) ((ltP x ss (spL fs)).o) ((ltP x ss (spL fs)).s)) rfl rfl rfl rfl (t_same 271 (v := .bool false) rfl (by rw [ltP_over hx (by omega) rfl]; simp) ?_)
  refine go ?_
  refine x_n fun bk505 w506 ebk505 sbk505 B507 u508 => ?_
  refine x_s fun w510 sw510 B512 u511 => ?_
  refine go ?_
  refine x_s fun w515 sw515 B517 u516 => ?_
  refine go ?_
  refine c_drawnM follows (fun i => i = b14) (OTl [0, 2, 5, 7, 8, 10, 12, 15, 16]) (by kernel_rfl) fun w520 u521 => ?_
  have zu521 := u521.size
  refine go ?_
  refine x_c func26 rfl rfl (report_c x ([] : List T2) none 0 0 0 0 false _ hx (Sl.nil _ _ _ _ _ _) (by decide) (fun y hy => (by cases hy)) (by decide)) ?_
  rintro _ w525 ⟨⟨aR523, gR523, cR523, rfl, hR523, hgR523, hzR523⟩, u526⟩ zu526
  have hlR523 := hR523.lt
  refine go ?_
  have D530 := (((((((((((((((((((((hW13.keep u22 (fun _ h => h)).keep u28 (fun _ h => h)).keep u31 (fun h9 => show ¬ (gW13 = bk25) by have := hlW13 h9; omega)).keep u40 (fun _ h => h)).keep u153 (fun _ h => h)).keep u162 (fun _ h => h)).keep u177 (fun _ h => h)).keep u183 (fun _ h => h)).keep u186 (fun h9 => show ¬ (gW13 = bk180) by have := hlW13 h9; omega)).keep u191 (fun h9 => show ¬ (gW13 = bk180) by have := hlW13 h9; omega)).keep u200 (fun _ h => h)).keep u312 (fun _ h => h)).keep u315 (fun h9 => show ¬ (gW13 = bk309) by have := hlW13 h9; omega)).keep u324 (fun h9 => show ¬ (gW13 = b14) by have := hlW13 h9; omega)).keep u412 (fun h9 => show ¬ (gW13 = bk309) by have := hlW13 h9; omega)).keep u421 (fun h9 => show ¬ (gW13 = b14) by have := hlW13 h9; omega)).keep u508 (fun _ h => h)).keep u511 (fun h9 => show ¬ (gW13 = bk505) by have := hlW13 h9; omega)).keep u516 (fun h9 => show ¬ (gW13 = bk505) by have := hlW13 h9; omega)).keep u521 (fun _ h => h)).keep u526 (fun _ h => h))
  refine x_c func29 rfl rfl (Laytime_c (tmC x) (tmW x) (some ⟨gW13, 0, none⟩) gW13 0 2 ([] : List Fre) none 0 0 0 (rpP 0 false x ([] : List T2)) aR523 gR523 0 cR523 _ D530 (by show 2 ≤ _; decide) (Sl.nil _ _ _ _ _ _) (by decide) hR523 (by have := rpP_len (c := 0) (cor := false) (x := x) (ss := ([] : List T2)); omega) (by omega)) ?_
  rintro _ w532 ⟨⟨lcL529, eL529, rfl, hL529⟩, u533⟩ zu533
  obtain ⟨rfl, rfl⟩ := LtR.rp (x := x) (ss := ([] : List T2)) hL529 hx (fun y hy => (by cases hy)) (by decide) rfl
  refine go ?_
  refine x_s fun w536 sw536 B538 u537 => ?_
  refine go ?_
  refine t_conv underlying65 underlying3 rfl rfl rfl (IntWalk.i64_in _ (by omega)) (t_rem rfl rfl rfl rfl (by omega) (by omega) ?_)
  refine go ?_
  refine t_conv underlying65 underlying3 rfl rfl rfl (IntWalk.i64_in _ (by omega)) (t_rem rfl rfl rfl rfl (by omega) (by omega) ?_)
  refine go ?_
  have hco : (tmC x).o = x.t3 % 300 := rfl
  have hcl : (tmC x).l = x.t2 % 2000 := rfl
  obtain ⟨k1, k2, k3, k4, k5⟩ := ltP_ok (ss := ss) (fr := spL fs) hx
  
  refine go ?_
  refine t_max rfl rfl rfl rfl ?_
  refine go ?_
  have hco : (tmC x).o = x.t3 % 300 := rfl
  have hcl : (tmC x).l = x.t2 % 2000 := rfl
  obtain ⟨k1, k2, k3, k4, k5⟩ := ltP_ok (ss := ss) (fr := spL fs) hx
  obtain ⟨s1, s2, s3, s4, s5⟩ := ltP_ok (ss := []) (fr := []) hx
  have hba := ltP_bare hx
  
  refine go ?_
  refine t_min rfl rfl rfl rfl ?_
  refine st1 ?_
  refine t_same 304 (v := .bool true) rfl (congrArg Value.bool (decide_eq_true (by omega))) ?_
  refine go ?_
  refine t_max rfl rfl rfl rfl ?_
  refine st1 ?_
  refine t_same 314 (v := .bool true) rfl (congrArg Value.bool (decide_eq_true (by omega))) ?_
  refine go ?_
  refine x_c func11 rfl rfl (known_c _ (by omega)) ?_
  rintro _ w543 ⟨rfl, u544⟩ zu544
  refine go ?_
  refine f_1 results6 ?_
  exact ⟨rfl, u_d⟩
 refine go ?_
 refine x_n fun bk548 w549 ebk548 sbk548 B550 u551 => ?_
 refine x_s fun w553 sw553 B555 u554 => ?_
 refine go ?_
 refine x_s fun w558 sw558 B560 u559 => ?_
 refine go ?_
 refine c_drawnM follows (fun i => i = b14) (OTl [0, 2, 5, 7, 8, 10, 12, 15, 16]) (by kernel_rfl) fun w563 u564 => ?_
 have zu564 := u564.size
 refine go ?_
 refine x_c func26 rfl rfl (report_c x ([] : List T2) none 0 0 0 0 false _ hx (Sl.nil _ _ _ _ _ _) (by decide) (fun y hy => (by cases hy)) (by decide)) ?_
 rintro _ w568 ⟨⟨aR566, gR566, cR566, rfl, hR566, hgR566, hzR566⟩, u569⟩ zu569
 have hlR566 := hR566.lt
 refine go ?_
 have D573 := (((((((((((((((((((hW13.keep u22 (fun _ h => h)).keep u28 (fun _ h => h)).keep u31 (fun h9 => show ¬ (gW13 = bk25) by have := hlW13 h9; omega)).keep u40 (fun _ h => h)).keep u153 (fun _ h => h)).keep u162 (fun _ h => h)).keep u177 (fun _ h => h)).keep u183 (fun _ h => h)).keep u186 (fun h9 => show ¬ (gW13 = bk180) by have := hlW13 h9; omega)).keep u191 (fun h9 => show ¬ (gW13 = bk180) by have := hlW13 h9; omega)).keep u200 (fun _ h => h)).keep u312 (fun _ h => h)).keep u315 (fun h9 => show ¬ (gW13 = bk309) by have := hlW13 h9; omega)).keep u324 (fun h9 => show ¬ (gW13 = b14) by have := hlW13 h9; omega)).keep u551 (fun _ h => h)).keep u554 (fun h9 => show ¬ (gW13 = bk548) by have := hlW13 h9; omega)).keep u559 (fun h9 => show ¬ (gW13 = bk548) by have := hlW13 h9; omega)).keep u564 (fun _ h => h)).keep u569 (fun _ h => h))
 refine x_c func29 rfl rfl (Laytime_c (tmC x) (tmW x) (some ⟨gW13, 0, none⟩) gW13 0 2 ([] : List Fre) none 0 0 0 (rpP 0 false x ([] : List T2)) aR566 gR566 0 cR566 _ D573 (by show 2 ≤ _; decide) (Sl.nil _ _ _ _ _ _) (by decide) hR566 (by have := rpP_len (c := 0) (cor := false) (x := x) (ss := ([] : List T2)); omega) (by omega)) ?_
 rintro _ w575 ⟨⟨lcL572, eL572, rfl, hL572⟩, u576⟩ zu576
 obtain ⟨rfl, rfl⟩ := LtR.rp (x := x) (ss := ([] : List T2)) hL572 hx (fun y hy => (by cases hy)) (by decide) rfl
 refine go ?_
 refine x_s fun w579 sw579 B581 u580 => ?_
 refine go ?_
 refine t_conv underlying65 underlying3 rfl rfl rfl (IntWalk.i64_in _ (by omega)) (t_rem rfl rfl rfl rfl (by omega) (by omega) ?_)
 refine go ?_
 refine t_conv underlying65 underlying3 rfl rfl rfl (IntWalk.i64_in _ (by omega)) (t_rem rfl rfl rfl rfl (by omega) (by omega) ?_)
 refine go ?_
 have hco : (tmC x).o = x.t3 % 300 := rfl
 have hcl : (tmC x).l = x.t2 % 2000 := rfl
 obtain ⟨k1, k2, k3, k4, k5⟩ := ltP_ok (ss := ss) (fr := spL fs) hx
 
 refine go ?_
 refine t_max rfl rfl rfl rfl ?_
 refine go ?_
 have hco : (tmC x).o = x.t3 % 300 := rfl
 have hcl : (tmC x).l = x.t2 % 2000 := rfl
 obtain ⟨k1, k2, k3, k4, k5⟩ := ltP_ok (ss := ss) (fr := spL fs) hx
 obtain ⟨s1, s2, s3, s4, s5⟩ := ltP_ok (ss := []) (fr := []) hx
 have hba := ltP_bare hx
 
 refine go ?_
 refine t_min rfl rfl rfl rfl ?_
 refine st1 ?_
 refine t_same 304 (v := .bool true) rfl (congrArg Value.bool (decide_eq_true (by omega))) ?_
 refine go ?_
 refine t_max rfl rfl rfl rfl ?_
 refine st1 ?_
 refine t_same 314 (v := .bool true) rfl (congrArg Value.bool (decide_eq_true (by omega))) ?_
 refine go ?_
 refine x_c func11 rfl rfl (known_c _ (by omega)) ?_
 rintro _ w586 ⟨rfl, u587⟩ zu587
 refine go ?_
 refine f_1 results6 ?_
 exact ⟨rfl, u_d⟩

end Go.Proofs.YtgoajalaomakpaaGreat
