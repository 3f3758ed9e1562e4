/-
  Part 17 of the proof: contracts and plain laws. Conditions: none.
-/
import Derived.Test.YtgoajalaomakpaaGreatBK16
namespace Go.Proofs.YtgoajalaomakpaaGreat
open Go Go.RowKit Go.Proofs.Tryz

structure W5 where
  a : Int
  b : Int
  c : Int
  d : Int
  e : Int
instance : Inhabited W5 := ⟨⟨default, default, default, default, default⟩⟩
def okW5 (u : W5) : Prop := (0 ≤ u.a ∧ u.a ≤ 255) ∧ (0 ≤ u.b ∧ u.b ≤ 255) ∧ (0 ≤ u.c ∧ u.c ≤ 255) ∧ (0 ≤ u.d ∧ u.d ≤ 255) ∧ (0 ≤ u.e ∧ u.e ≤ 255)
def encW5 (x : W5) : List Value := [.int .u8 x.a, .int .u8 x.b, .int .u8 x.c, .int .u8 x.d, .int .u8 x.e]
/-- An offer by small numbers. -/
def offU (u : W5) : Off := ⟨u.a % 40, u.b % 40, 4 * u.c, 4 * u.c + u.d, 20 * u.e⟩
theorem offU_ok {u : W5} (h : okW5 u) : okOff (offU u) = true := by
  unfold okW5 at h
  unfold okOff offU
  rw [decide_eq_true_eq]
  dsimp only
  omega
theorem offs_ok {xs : List W5} {k : Nat} (h : ∀ x ∈ xs, okW5 x) : ∀ x ∈ (xs.take k).map offU, okOff x = true := fun x hx => by
  obtain ⟨u, hu, rfl⟩ := List.mem_map.1 hx
  exact offU_ok (h u (List.mem_of_mem_take hu))
theorem bestE_ok {l : List Off} {h : Hul} (h1 : l.length ≤ 12) (h2 : ∀ x ∈ l, okOff x = true) (h3 : okHul h) : bestE l h = 0 := by
  unfold bestE
  rw [if_neg (by omega), if_neg, if_neg (fun q => q h3)]
  intro q
  obtain ⟨x, hx, e⟩ := List.any_eq_true.1 q
  simp [h2 x hx] at e
theorem bst_gn {l : List Off} {h : Hul} : 0 ≤ (bestP l h).g ∧ ((bestP l h).s.length = 0 → (bestP l h).g = 0) ∧ Fea l h (bestP l h).s ∧ gnF l h (bestP l h).s = (bestP l h).g := by
  obtain ⟨⟨h1, h2⟩, h3⟩ := bestP_best l h
  refine ⟨?_, fun e => ?_, h1, h2.symm⟩
  · have := h3 ⟨[], 0⟩ ⟨trivial, rfl⟩
    have h4 : ¬ bt ⟨[], 0⟩ (bestP l h) = true := by rw [this]; exact Bool.false_ne_true
    rw [bt_iff] at h4
    simp only [List.length_nil] at h4
    omega
  · rw [h2, List.eq_nil_of_length_eq_zero e]; rfl
theorem bst_no {l : List Off} {h : Hul} {ls : List Int} {g : Int} {ok : Bool} (h1 : ok = true ↔ Fea l h ls) (h2 : ok = true → g = gnF l h ls) (q : ok = true) : ¬ (bestP l h).g < g ∧ ¬ (g = (bestP l h).g ∧ ls.length < (bestP l h).s.length) := by
  have := (bestP_best l h).2 ⟨ls, g⟩ ⟨h1.1 q, h2 q⟩
  have h4 : ¬ bt ⟨ls, g⟩ (bestP l h) = true := by rw [this]; exact Bool.false_ne_true
  rw [bt_iff] at h4
  dsimp only at h4
  omega
theorem Fea_take {l : List Off} {n : Nat} (hn : n ≤ l.length) : ∀ {r : List Int} {h : Hul}, Fea (l.take n) h r → Fea l h r ∧ gnF l h r = gnF (l.take n) h r
  | [], _, _ => ⟨trivial, rfl⟩
  | i :: r, h, q => by
    obtain ⟨q1, q2, q3, q4⟩ := q
    rw [List.length_take] at q1
    have e : ∀ j : Int, 0 ≤ j → j < (n : Int) → nth (l.take n) j.toNat = nth l j.toNat := fun j h1 h2 => nth_take (by omega)
    have ei := e i q1.1 (by omega)
    rw [ei] at q4
    obtain ⟨f1, f2⟩ := Fea_take hn q4
    refine ⟨⟨by omega, by unfold inT at q2 ⊢; rw [ei] at q2; exact q2, fun j hj => ?_, f1⟩, by rw [gnF, gnF, ei, f2]⟩
    have h1 := q3 j hj
    have h2 := fea_head q4 hj
    rw [List.length_take] at h2
    unfold prc at h1 ⊢
    rw [ei, e j h2.1.1 (by omega)] at h1
    exact h1
theorem bestP_len {l : List Off} {h : Hul} (h1 : l.length ≤ 12) (hok : ∀ x ∈ l, okOff x = true) (hh : okHul h) : (bestP l h).s.length ≤ 12 := by
  have := (bstK_bd (l := l) (h := h) (fr := tabT l h (ordP l) l.length) (now := ⟨[], 0⟩) (later := ordP l) (a := 0) (t := 12) hok hh (fun i hi => (tabT_bd hok hh (fun i h => ordP_mem h) (ordP_len _) _ (Nat.le_refl _) i (by rw [tabT_len] at hi; exact hi)).mono h1) (by simp [RnB]) (fun i hi => ordP_mem hi) (tabT_len _ _ _ _) _ (Nat.le_refl _)).2.2
  rw [Nat.zero_add] at this
  exact this
/-- An offer less gains no more. -/
theorem bst_less {l : List Off} {h : Hul} {n : Nat} (hn : n ≤ l.length) : (bestP (l.take n) h).g ≤ (bestP l h).g := by
  obtain ⟨_, _, h3, h4⟩ := bst_gn (l := l.take n) (h := h)
  obtain ⟨f1, f2⟩ := Fea_take hn h3
  have := (bestP_best l h).2 ⟨(bestP (l.take n) h).s, (bestP (l.take n) h).g⟩ ⟨f1, by rw [f2, h4]⟩
  have h9 : ¬ bt ⟨(bestP (l.take n) h).s, (bestP (l.take n) h).g⟩ (bestP l h) = true := by rw [this]; exact Bool.false_ne_true
  rw [bt_iff] at h9
  dsimp only at h9
  omega
set_option maxHeartbeats 4000000 in
theorem FreightNoBetter_c (xs : List W5) (ax : Option Addr) (bx ox cx : Nat) (y : W5) (ls : List Int) (al : Option Addr) (bl ol cl : Nat) (w0 : World) (hx : Sl encW5 5 w0 ax bx ox xs) (hxl : xs.length ≤ 9223372036854775807) (hxs : ∀ x ∈ xs, okW5 x) (hy : (0 ≤ y.a ∧ y.a ≤ 255) ∧ (0 ≤ y.b ∧ y.b ≤ 255) ∧ (0 ≤ y.c ∧ y.c ≤ 255) ∧ (0 ≤ y.d ∧ y.d ≤ 255)) (hls : Sl encU8 1 w0 al bl ol ls) (hlsl : ls.length ≤ 9223372036854775807) (hlsr : ∀ x ∈ ls, 0 ≤ x ∧ x ≤ 255) :
    CallsV Tryz.prog 8 [.agg #[.slice ax xs.length cx, .int .u8 y.a, .int .u8 y.b, .int .u8 y.c, .int .u8 y.d, .slice al ls.length cl]] w0 (fun v w' => v = .bool true ∧ Ext w0 w') := by
 refine f_n func8 ?_
 refine go ?_
 refine x_b fun bk2 w3 ebk2 sbk2 B4 u5 => ?_
 refine go ?_
 refine x_l fun bk8 w9 ebk8 sbk8 B10 u11 => ?_
 refine go ?_
 refine x_l4 (fun i => bk8 ≤ i) [1] (fun (k : Nat) (ao : Option Addr) (gw : Nat) (co : Nat) => [(3, .slice ao (((xs.take k).map offU).length) co), (4, .int .i64 (k : Int))]) (fun k ao gw co w => (k ≤ xs.length ∧ k ≤ 12) ∧ (Acc encOff 5 41 bk8 w ao gw co ((xs.take k).map offU))) (fun k ao gw co => 12 - k) 0 (some ⟨bk8, 0, none⟩) bk8 0 ⟨(by omega), (Acc.ofBlk (xs := ([] : List Off)) encOff 5 (fun _ => rfl) B10 (Nat.le_refl _) (by decide))⟩ ?_
 rintro k ao gw co w16 ⟨hk, hout⟩ u17 zu17 K15 hK15
 have lt_gw := hout.lt
 have hol : ((xs.take k).map offU).length = k := by rw [List.length_map, List.length_take]; omega
 refine st1 ?_
 refine x_k1 (fun _ => False) [1, 3, 4] (fun (qa : Bool) => [(28, .bool qa)]) (fun qa w => (qa = true ↔ (k < xs.length ∧ k < 12))) (fun K24 hK24 => ?_) ?_
 ·
  refine go ?_
  refine t_splitp 25 rfl (fun g25 => ?_) (fun g25 => ?_)
  ·
   refine go ?_
   exact hK24 (decide ((k : Int) < 12)) (by rw [decide_eq_true_eq]; omega)
  refine go ?_
  exact hK24 false (⟨fun h => (by cases h), fun h => absurd h (by omega)⟩)
 rintro qa w25 hqa u26 zu26
 have E27 := Sc.mk (((((Upd.refl (fun _ => False) w0).nx u5).nx u11).next u17 (fun i hi (h : bk8 ≤ i) => show False by first | omega | assumption)).nx u26)
 refine q_b (fun g28 => ?_) fun g28 => ?_
 ·
  have hqa9 := hqa.1 g28
  have hx9 := hxs _ (nth_mem (xs := xs) (i := k) (by omega))
  unfold okW5 at hx9
  have hst9 : (xs.take (k + 1)).map offU = ((xs.take k).map offU) ++ [offU (nth xs k)] := by rw [take_nth (by omega), List.map_append]; rfl
  refine go ?_
  refine g_i k (hx.keep E27.u (fun _ h => h)) (fun _ => ?_)
  refine go ?_
  refine x_n fun bk31 w32 ebk31 sbk31 B33 u34 => ?_
  refine x_s fun w36 sw36 B38 u37 => ?_
  refine go ?_
  refine t_indexArr (j := 0) (0) underlying99 sizeOf5 rfl rfl rfl rfl rfl (by decide) rfl ?_
  refine go ?_
  refine t_conv underlying5 underlying3 rfl rfl rfl (IntWalk.i64_in _ (by omega)) (t_rem rfl rfl rfl rfl (by omega) (by omega) (t_indexArr (j := 1) (1) underlying99 sizeOf5 rfl rfl rfl rfl rfl (by decide) rfl ?_))
  refine go ?_
  refine t_conv underlying5 underlying3 rfl rfl rfl (IntWalk.i64_in _ (by omega)) (t_rem rfl rfl rfl rfl (by omega) (by omega) (t_indexArr (j := 2) (2) underlying99 sizeOf5 rfl rfl rfl rfl rfl (by decide) rfl ?_))
  refine go ?_
  refine t_conv underlying5 underlying3 rfl rfl rfl (IntWalk.i64_in _ (by omega)) ?_
  refine go ?_
  refine t_indexArr (j := 2) (2) underlying99 sizeOf5 rfl rfl rfl rfl rfl (by decide) rfl ?_
  refine go ?_
  refine t_conv underlying5 underlying3 rfl rfl rfl (IntWalk.i64_in _ (by omega)) ?_
  refine go ?_
  refine t_indexArr (j := 3) (3) underlying99 sizeOf5 rfl rfl rfl rfl rfl (by decide) rfl ?_
  refine go ?_
  refine t_conv underlying5 underlying3 rfl rfl rfl (IntWalk.i64_in _ (by omega)) ?_
  refine go ?_
  refine t_indexArr (j := 4) (4) underlying99 sizeOf5 rfl rfl rfl rfl rfl (by decide) rfl ?_
  refine go ?_
  refine t_conv underlying5 underlying3 rfl rfl rfl (IntWalk.i64_in _ (by omega)) ?_
  refine go ?_
  refine x_l fun bk40 w41 ebk40 sbk40 B42 u43 => ?_
  have D45 := ((((hout.keep u26 (fun _ h => h)).keep u34 (fun _ h => h)).keep u37 (fun hb => show ¬ (gw = bk31) by first | omega | assumption)).keep u43 (fun _ h => h))
  refine t_append (z := .agg #[.int .i64 0, .int .i64 0, .int .i64 0, .int .i64 0, .int .i64 0]) (bytes := 40) (k := 5) (base := bk8) (offU (nth xs k)) underlying34 (by kernel_rfl) rfl (by decide) (fun _ => rfl) (by intro x; simp [encOff, Value.oneCell']) rfl rfl rfl rfl D45 B42 (by omega) (by omega) (by decide) (fun ao46 gb47 cp48 w49 A50 u51 gegb47 lngb47 => ?_)
  have zu51 := u51.size
  have lt_gb47 := A50.lt
  refine go ?_
  exact hK15 (k + 1) ao46 gb47 cp48 ⟨(by omega), (by rw [hst9]; exact A50)⟩ (hs := by exact ⟨(by first | (rw [hst9]; rfl) | rfl), rfl, rfl, trivial⟩) (hu := (((((u17.nx u26).nx u34).next u37 (fun i hi (h : i = bk31) => show bk8 ≤ i by first | omega | assumption)).nx u43).next u51 (fun i hi (h : (i = gw ∧ bk8 ≤ i)) => show bk8 ≤ i by first | omega | assumption)))
 have hok := offs_ok (k := k) hxs
 have hhu : okHul (⟨y.a % 40, y.b, y.c % 8, y.d % 50⟩ : Hul) := by unfold okHul; dsimp only; omega
 obtain ⟨hg0, hz0, hfe0, hgn0⟩ := bst_gn (l := ((xs.take k).map offU)) (h := (⟨y.a % 40, y.b, y.c % 8, y.d % 50⟩ : Hul))
 have hbl := bestP_len (l := ((xs.take k).map offU)) (h := (⟨y.a % 40, y.b, y.c % 8, y.d % 50⟩ : Hul)) (by omega) hok hhu
 refine go ?_
 refine t_indexArr (j := 0) (1) underlying95 sizeOf5 rfl rfl rfl rfl rfl (by decide) rfl ?_
 refine go ?_
 refine t_conv underlying5 underlying3 rfl rfl rfl (IntWalk.i64_in _ (by omega)) (t_rem rfl rfl rfl rfl (by omega) (by omega) ?_)
 refine go ?_
 refine t_indexArr (j := 1) (2) underlying95 sizeOf5 rfl rfl rfl rfl rfl (by decide) rfl ?_
 refine go ?_
 refine t_conv underlying5 underlying3 rfl rfl rfl (IntWalk.i64_in _ (by omega)) ?_
 refine go ?_
 refine t_indexArr (j := 2) (3) underlying95 sizeOf5 rfl rfl rfl rfl rfl (by decide) rfl ?_
 refine go ?_
 refine t_conv underlying5 underlying3 rfl rfl rfl (IntWalk.i64_in _ (by omega)) (t_rem rfl rfl rfl rfl (by omega) (by omega) ?_)
 refine go ?_
 refine t_indexArr (j := 3) (4) underlying95 sizeOf5 rfl rfl rfl rfl rfl (by decide) rfl ?_
 refine go ?_
 refine t_conv underlying5 underlying3 rfl rfl rfl (IntWalk.i64_in _ (by omega)) (t_rem rfl rfl rfl rfl (by omega) (by omega) (t_build (ps := [(0, .int .i64 (y.a % 40)), (1, .int .i64 y.b), (2, .int .i64 (y.c % 8)), (3, .int .i64 (y.d % 50))]) (v := .agg #[.int .i64 (y.a % 40), .int .i64 y.b, .int .i64 (y.c % 8), .int .i64 (y.d % 50)]) rfl rfl ⟨rfl, rfl⟩ (fun w => by kernel_rfl) ?_))
 refine x_n fun bk54 w55 ebk54 sbk54 B56 u57 => ?_
 refine x_s fun w59 sw59 B61 u60 => ?_
 refine go ?_
 refine c_drawnM follows (fun _ => False) (OTl [0, 4, 6, 8, 10, 12, 14, 16, 18, 3, 21, 22, 24, 26, 28, 30, 32, 34]) (by kernel_rfl) fun w64 u65 => ?_
 have zu65 := u65.size
 refine go ?_
 refine y_indexArr (j := 0) (0) underlying35 sizeOf3 rfl rfl rfl rfl rfl (by decide) rfl ?_
 refine go ?_
 refine y_indexArr (j := 1) (1) underlying35 sizeOf3 rfl rfl rfl rfl rfl (by decide) rfl ?_
 refine go ?_
 refine y_indexArr (j := 2) (2) underlying35 sizeOf3 rfl rfl rfl rfl rfl (by decide) rfl ?_
 refine go ?_
 refine y_indexArr (j := 3) (3) underlying35 sizeOf3 rfl rfl rfl rfl rfl (by decide) rfl ?_
 refine go ?_
 have D67 := ((((hout.keep u26 (fun _ h => h)).keep u57 (fun _ h => h)).keep u60 (fun hb => show ¬ (gw = bk54) by first | omega | assumption)).keep u65 (fun _ h => h))
 refine x_c func15 rfl rfl (offers0_c ((xs.take k).map offU) ao gw 0 co _ (D67.sl (fun _ => rfl)) (by omega)) ?_
 rintro _ w70 ⟨⟨aoP68, gP68, cP68, rfl, hP68, hgP68, hzP68⟩, u71⟩ zu71
 have hlP68 := hP68.lt
 refine go ?_
 refine x_c func16 rfl rfl (Best_c ((xs.take k).map offU) aoP68 gP68 0 cP68 (⟨y.a % 40, y.b, y.c % 8, y.d % 50⟩ : Hul) _ hP68 (by omega) (by omega)) ?_
 rintro _ w75 ⟨⟨rB, eB, aB, gB, oB, cB, rfl, hAB, hEB, hRB⟩, u76⟩ zu76
 have heB : eB = 0 := hEB.trans (bestE_ok (by omega) hok hhu)
 obtain rfl : rB = bestP ((xs.take k).map offU) (⟨y.a % 40, y.b, y.c % 8, y.d % 50⟩ : Hul) := (hRB.resolve_left (fun h => h.1 heB)).2
 iterate 5 refine st1 ?_
 refine y_same 98 (v := .int .i64 0) rfl (congrArg (Value.int .i64) heB) ?_
 iterate 13 refine st1 ?_
 refine t_same 103 (v := .bool false) rfl (by rw [decide_eq_false (by omega)]) ?_
 refine go ?_
 have D83 := ((D67.keep u71 (fun _ h => h)).keep u76 (fun _ h => h))
 refine x_c func32 rfl rfl (carried_c ((xs.take k).map offU) ao gw 0 co (⟨(y.a % 40), y.b, (y.c % 8), (y.d % 50)⟩ : Hul) ((bestP ((xs.take k).map offU) (⟨y.a % 40, y.b, y.c % 8, y.d % 50⟩ : Hul)).s) aB gB oB cB _ (D83.sl (fun _ => rfl)) (by omega) hok hAB (by omega) hhu) ?_
 rintro _ w85 ⟨⟨gC82, kC82, rfl, hfC82, hgC82⟩, u86⟩ zu86
 have E88 := Sc.mk ((((((E27.u.nx u57).next u60 (fun i hi h => by omega)).nx u65).nx u71).nx u76).nx u86)
 have hk1 : kC82 = true := hfC82.2 hfe0
 have hn1 : gC82 = (bestP ((xs.take k).map offU) (⟨y.a % 40, y.b, y.c % 8, y.d % 50⟩ : Hul)).g := (hgC82 hk1).trans hgn0
 iterate 2 refine st1 ?_
 refine t_same 110 (v := .int .i64 ((bestP ((xs.take k).map offU) (⟨y.a % 40, y.b, y.c % 8, y.d % 50⟩ : Hul)).g)) rfl (congrArg (Value.int .i64) hn1) (st1 (t_same 111 (v := .bool true) rfl (congrArg Value.bool hk1) ?_))
 iterate 13 refine st1 ?_
 refine t_samehd (v := .bool false) (by simp) ?_
 refine go ?_
 refine t_splitp 123 rfl (fun g123 => ?_) (fun g123 => ?_)
 ·
  iterate 2 refine st1 ?_
  refine t_same 125 (v := .bool false) rfl (by rw [decide_eq_false (fun h => h (hz0 (by omega)))]) ?_
  refine go ?_
  refine x_l fun bk92 w93 ebk92 sbk92 B94 u95 => ?_
  refine go ?_
  refine x_l5 (fun i => bk92 ≤ i) [1, 3, 6, 7, 8] (fun (j : Nat) (cn : List Int) (a2 : Option Addr) (g2 : Nat) (c2 : Nat) => [(12, .slice a2 cn.length c2), (13, .int .i64 (j : Int))]) (fun j cn a2 g2 c2 w => (j ≤ ls.length) ∧ (cn.length ≤ 6) ∧ (Acc encI 1 3 bk92 w a2 g2 c2 cn)) (fun j cn a2 g2 c2 => ls.length - j) 0 ([]) (some ⟨bk92, 0, none⟩) bk92 0 ⟨(Nat.zero_le _), (by decide), (Acc.ofBlk (xs := ([] : List Int)) encI 1 (fun _ => rfl) B94 (Nat.le_refl _) (by decide))⟩ ?_
  rintro j cn a2 g2 c2 w100 ⟨hj, hcl, hcn⟩ u101 zu101 K99 hK99
  have lt_g2 := hcn.lt
  refine st1 ?_
  refine x_k1 (fun _ => False) [1, 3, 6, 7, 8, 12, 13] (fun (qb : Bool) => [(138, .bool qb)]) (fun qb w => (qb = true ↔ (j < ls.length ∧ 0 < ((xs.take k).map offU).length))) (fun K108 hK108 => ?_) ?_
  ·
   refine go ?_
   refine t_splitp 134 rfl (fun g134 => ?_) (fun g134 => ?_)
   ·
    refine go ?_
    exact hK108 (decide (0 < (((xs.take k).map offU).length : Int))) (by rw [decide_eq_true_eq]; omega)
   refine go ?_
   exact hK108 false (⟨fun h => (by cases h), fun h => absurd h (by omega)⟩)
  rintro qb w109 hqb u110 zu110
  refine q_b (fun g138 => ?_) fun g138 => ?_
  ·
   have hqb9 := hqb.1 g138
   have hl9 := hlsr _ (nth_mem (xs := ls) (i := j) (by omega))
   refine go ?_
   refine g_i j (hls.keep (((E88.u.nx u95).next u101 (fun i hi (h : bk92 ≤ i) => show False by first | omega | assumption)).nx u110) (fun _ h => h)) (fun _ => ?_)
   refine go ?_
   refine t_conv underlying5 underlying3 rfl rfl rfl (IntWalk.i64_in _ (by omega)) ?_
   refine go ?_
   refine t_rem rfl rfl rfl rfl (by omega) (by omega) ?_
   refine go ?_
   refine q_p (fun g152 => ?_) fun g152 => ?_
   ·
    refine go ?_
    refine x_l fun bk116 w117 ebk116 sbk116 B118 u119 => ?_
    have D121 := ((hcn.keep u110 (fun _ h => h)).keep u119 (fun _ h => h))
    refine t_append (z := .int .i64 0) (bytes := 8) (k := 1) (base := bk92) ((nth ls j) % (((xs.take k).map offU).length : Int)) underlying37 (by kernel_rfl) rfl (by decide) (fun _ => rfl) (by intro x; simp [encI, Value.oneCell']) rfl rfl rfl rfl D121 B118 (by omega) (by omega) (by decide) (fun ao122 gb123 cp124 w125 A126 u127 gegb123 lngb123 => ?_)
    have zu127 := u127.size
    have lt_gb123 := A126.lt
    refine go ?_
    exact hK99 (j + 1) (cn ++ [((nth ls j) % (((xs.take k).map offU).length : Int))]) ao122 gb123 cp124 ⟨(by omega), (by first | exact hcl | (rw [List.length_append]; show _ + 1 ≤ 6; omega)), A126⟩ (hu := (((u101.nx u110).nx u119).next u127 (fun i hi (h : (i = g2 ∧ bk92 ≤ i)) => show bk92 ≤ i by first | omega | assumption)))
   refine go ?_
   have D129 := (hcn.keep u110 (fun _ h => h))
   exact hK99 (j + 1) cn a2 g2 c2 ⟨(by omega), (by first | exact hcl | (rw [List.length_append]; show _ + 1 ≤ 6; omega)), D129⟩ (hu := (u101.nx u110))
  refine go ?_
  have D133 := ((((D83.keep u86 (fun _ h => h)).keep u95 (fun _ h => h)).keep u101 (fun hb => show ¬ (bk92 ≤ gw) by first | omega | assumption)).keep u110 (fun _ h => h))
  have D134 := (hcn.keep u110 (fun _ h => h))
  refine x_c func32 rfl rfl (carried_c ((xs.take k).map offU) ao gw 0 co (⟨(y.a % 40), y.b, (y.c % 8), (y.d % 50)⟩ : Hul) cn a2 g2 0 c2 _ (D133.sl (fun _ => rfl)) (by omega) hok (D134.sl (fun _ => rfl)) (by omega) hhu) ?_
  rintro _ w136 ⟨⟨gC132, kC132, rfl, hfC132, hgC132⟩, u137⟩ zu137
  have hno := bst_no hfC132 hgC132
  iterate 7 refine st1 ?_
  refine x_k1 (fun _ => False) [3, 6, 8] (fun (u9 : Unit) => [(181, .bool false)]) (fun u9 w => True) (fun K144 hK144 => ?_) ?_
  ·
   refine go ?_
   refine t_split 165 rfl (fun g165 => ?_) (fun g165 => ?_)
   ·
    iterate 3 refine st1 ?_
    refine t_same 168 (v := .bool false) rfl (by rw [decide_eq_false (hno (by assumption)).1]) ?_
    refine go ?_
    refine t_splitp 173 rfl (fun g173 => ?_) (fun g173 => ?_)
    ·
     iterate 5 refine st1 ?_
     refine t_same 178 (v := .bool false) rfl (by rw [decide_eq_false (fun h => (hno (by assumption)).2 ⟨by assumption, by omega⟩)]) ?_
     refine go ?_
     exact hK144 () trivial
    refine go ?_
    exact hK144 () trivial
   refine go ?_
   exact hK144 () trivial
  rintro u9 w145 _ u146 zu146
  refine go ?_
  refine q_p (fun g184 => ?_) fun g184 => ?_
  ·
   refine go ?_
   refine x_c func11 rfl rfl (known_c _ (by omega)) ?_
   rintro _ w152 ⟨rfl, u153⟩ zu153
   refine go ?_
   refine f_1 results8 ?_
   exact ⟨rfl, u_d⟩
  refine go ?_
  refine c_drawnM follows (fun _ => False) (OTl [0, 2, 4, 6, 8, 12, 14, 16, 18, 20, 22, 24, 26, 11, 29, 30, 32, 34, 36, 38, 40, 42]) (by kernel_rfl) fun w157 u158 => ?_
  have zu158 := u158.size
  refine go ?_
  refine y_sliceTo (ao := ao) (n := ((xs.take k).map offU).length) (cap := co) (((xs.take k).map offU).length - 1) underlying34 sizeOf41 rfl rfl rfl rfl (by omega) (by have := hout.cap_le; omega) (y_same 191 (v := .slice ao (List.length (((xs.take k).map offU).take (((xs.take k).map offU).length - 1))) co) rfl (by rw [hout.subTo0, List.length_take, Nat.min_eq_left (Nat.sub_le _ _)]) ?_)
  refine y_indexArr (j := 0) (0) underlying35 sizeOf3 rfl rfl rfl rfl rfl (by decide) rfl ?_
  refine go ?_
  refine y_indexArr (j := 1) (1) underlying35 sizeOf3 rfl rfl rfl rfl rfl (by decide) rfl ?_
  refine go ?_
  refine y_indexArr (j := 2) (2) underlying35 sizeOf3 rfl rfl rfl rfl rfl (by decide) rfl ?_
  refine go ?_
  refine y_indexArr (j := 3) (3) underlying35 sizeOf3 rfl rfl rfl rfl rfl (by decide) rfl ?_
  refine go ?_
  have D160 := (((D133.keep u137 (fun _ h => h)).keep u146 (fun _ h => h)).keep u158 (fun _ h => h))
  refine x_c func15 rfl rfl (offers0_c (((xs.take k).map offU).take (((xs.take k).map offU).length - 1)) ao gw 0 co _ ((Acc.takeN (enc := encOff) (k := 5) (fun _ => rfl) D160 (((xs.take k).map offU).length - 1)).sl (fun _ => rfl)) (by rw [List.length_take]; omega)) ?_
  rintro _ w163 ⟨⟨aoP161, gP161, cP161, rfl, hP161, hgP161, hzP161⟩, u164⟩ zu164
  have hlP161 := hP161.lt
  refine go ?_
  refine x_c func16 rfl rfl (Best_c (((xs.take k).map offU).take (((xs.take k).map offU).length - 1)) aoP161 gP161 0 cP161 (⟨y.a % 40, y.b, y.c % 8, y.d % 50⟩ : Hul) _ hP161 (by rw [List.length_take]; omega) (by omega)) ?_
  rintro _ w168 ⟨⟨rE, eE, aE, gE, oE, cE, rfl, hAE, hEE, hRE⟩, u169⟩ zu169
  have heE : eE = 0 := hEE.trans (bestE_ok (by rw [List.length_take]; omega) (fun x hx => hok x (List.mem_of_mem_take hx)) hhu)
  obtain rfl : rE = bestP (((xs.take k).map offU).take (((xs.take k).map offU).length - 1)) (⟨y.a % 40, y.b, y.c % 8, y.d % 50⟩ : Hul) := (hRE.resolve_left (fun h => h.1 heE)).2
  iterate 5 refine st1 ?_
  refine y_same 204 (v := .int .i64 0) rfl (congrArg (Value.int .i64) heE) ?_
  iterate 13 refine st1 ?_
  refine t_same 210 (v := .bool true) rfl (by rw [decide_eq_true (bst_less (Nat.sub_le _ _))]) ?_
  refine go ?_
  refine x_c func11 rfl rfl (known_c _ (by omega)) ?_
  rintro _ w174 ⟨rfl, u175⟩ zu175
  refine go ?_
  refine f_1 results8 ?_
  exact ⟨rfl, u_d⟩
 refine go ?_
 refine x_l fun bk179 w180 ebk179 sbk179 B181 u182 => ?_
 refine go ?_
 refine x_l5 (fun i => bk179 ≤ i) [1, 3, 6, 7, 8] (fun (j : Nat) (cn : List Int) (a2 : Option Addr) (g2 : Nat) (c2 : Nat) => [(12, .slice a2 cn.length c2), (13, .int .i64 (j : Int))]) (fun j cn a2 g2 c2 w => (j ≤ ls.length) ∧ (cn.length ≤ 6) ∧ (Acc encI 1 3 bk179 w a2 g2 c2 cn)) (fun j cn a2 g2 c2 => ls.length - j) 0 ([]) (some ⟨bk179, 0, none⟩) bk179 0 ⟨(Nat.zero_le _), (by decide), (Acc.ofBlk (xs := ([] : List Int)) encI 1 (fun _ => rfl) B181 (Nat.le_refl _) (by decide))⟩ ?_
 rintro j cn a2 g2 c2 w187 ⟨hj, hcl, hcn⟩ u188 zu188 K186 hK186
 have lt_g2 := hcn.lt
 refine st1 ?_
 refine x_k1 (fun _ => False) [1, 3, 6, 7, 8, 12, 13] (fun (qb : Bool) => [(138, .bool qb)]) (fun qb w => (qb = true ↔ (j < ls.length ∧ 0 < ((xs.take k).map offU).length))) (fun K195 hK195 => ?_) ?_
 ·
  refine go ?_
  refine t_splitp 134 rfl (fun g134 => ?_) (fun g134 => ?_)
  ·
   refine go ?_
   exact hK195 (decide (0 < (((xs.take k).map offU).length : Int))) (by rw [decide_eq_true_eq]; omega)
  refine go ?_
  exact hK195 false (⟨fun h => (by cases h), fun h => absurd h (by omega)⟩)
 rintro qb w196 hqb u197 zu197
 refine q_b (fun g138 => ?_) fun g138 => ?_
 ·
  have hqb9 := hqb.1 g138
  have hl9 := hlsr _ (nth_mem (xs := ls) (i := j) (by omega))
  refine go ?_
  refine g_i j (hls.keep (((E88.u.nx u182).next u188 (fun i hi (h : bk179 ≤ i) => show False by first | omega | assumption)).nx u197) (fun _ h => h)) (fun _ => ?_)
  refine go ?_
  refine t_conv underlying5 underlying3 rfl rfl rfl (IntWalk.i64_in _ (by omega)) ?_
  refine go ?_
  refine t_rem rfl rfl rfl rfl (by omega) (by omega) ?_
  refine go ?_
  refine q_p (fun g152 => ?_) fun g152 => ?_
  ·
   refine go ?_
   refine x_l fun bk203 w204 ebk203 sbk203 B205 u206 => ?_
   have D208 := ((hcn.keep u197 (fun _ h => h)).keep u206 (fun _ h => h))
   refine t_append (z := .int .i64 0) (bytes := 8) (k := 1) (base := bk179) ((nth ls j) % (((xs.take k).map offU).length : Int)) underlying37 (by kernel_rfl) rfl (by decide) (fun _ => rfl) (by intro x; simp [encI, Value.oneCell']) rfl rfl rfl rfl D208 B205 (by omega) (by omega) (by decide) (fun ao209 gb210 cp211 w212 A213 u214 gegb210 lngb210 => ?_)
   have zu214 := u214.size
   have lt_gb210 := A213.lt
   refine go ?_
   exact hK186 (j + 1) (cn ++ [((nth ls j) % (((xs.take k).map offU).length : Int))]) ao209 gb210 cp211 ⟨(by omega), (by first | exact hcl | (rw [List.length_append]; show _ + 1 ≤ 6; omega)), A213⟩ (hu := (((u188.nx u197).nx u206).next u214 (fun i hi (h : (i = g2 ∧ bk179 ≤ i)) => show bk179 ≤ i by first | omega | assumption)))
  refine go ?_
  have D216 := (hcn.keep u197 (fun _ h => h))
  exact hK186 (j + 1) cn a2 g2 c2 ⟨(by omega), (by first | exact hcl | (rw [List.length_append]; show _ + 1 ≤ 6; omega)), D216⟩ (hu := (u188.nx u197))
 refine go ?_
 have D220 := ((((D83.keep u86 (fun _ h => h)).keep u182 (fun _ h => h)).keep u188 (fun hb => show ¬ (bk179 ≤ gw) by first | omega | assumption)).keep u197 (fun _ h => h))
 have D221 := (hcn.keep u197 (fun _ h => h))
 refine x_c func32 rfl rfl (carried_c ((xs.take k).map offU) ao gw 0 co (⟨(y.a % 40), y.b, (y.c % 8), (y.d % 50)⟩ : Hul) cn a2 g2 0 c2 _ (D220.sl (fun _ => rfl)) (by omega) hok (D221.sl (fun _ => rfl)) (by omega) hhu) ?_
 rintro _ w223 ⟨⟨gC219, kC219, rfl, hfC219, hgC219⟩, u224⟩ zu224
 have hno := bst_no hfC219 hgC219
 iterate 7 refine st1 ?_
 refine x_k1 (fun _ => False) [3, 6, 8] (fun (u9 : Unit) => [(181, .bool false)]) (fun u9 w => True) (fun K231 hK231 => ?_) ?_
 ·
  refine go ?_
  refine t_split 165 rfl (fun g165 => ?_) (fun g165 => ?_)
  ·
   iterate 3 refine st1 ?_
   refine t_same 168 (v := .bool false) rfl (by rw [decide_eq_false (hno (by assumption)).1]) ?_
   refine go ?_
   refine t_splitp 173 rfl (fun g173 => ?_) (fun g173 => ?_)
   ·
    iterate 5 refine st1 ?_
    refine t_same 178 (v := .bool false) rfl (by rw [decide_eq_false (fun h => (hno (by assumption)).2 ⟨by assumption, by omega⟩)]) ?_
    refine go ?_
    exact hK231 () trivial
   refine go ?_
   exact hK231 () trivial
  refine go ?_
  exact hK231 () trivial
 rintro u9 w232 _ u233 zu233
 refine go ?_
 refine q_p (fun g184 => ?_) fun g184 => ?_
 ·
  refine go ?_
  refine x_c func11 rfl rfl (known_c _ (by omega)) ?_
  rintro _ w239 ⟨rfl, u240⟩ zu240
  refine go ?_
  refine f_1 results8 ?_
  exact ⟨rfl, u_d⟩
 refine go ?_
 refine c_drawnM follows (fun _ => False) (OTl [0, 2, 4, 6, 8, 12, 14, 16, 18, 20, 22, 24, 26, 11, 29, 30, 32, 34, 36, 38, 40, 42]) (by kernel_rfl) fun w244 u245 => ?_
 have zu245 := u245.size
 refine go ?_
 refine y_sliceTo (ao := ao) (n := ((xs.take k).map offU).length) (cap := co) (((xs.take k).map offU).length - 1) underlying34 sizeOf41 rfl rfl rfl rfl (by omega) (by have := hout.cap_le; omega) (y_same 191 (v := .slice ao (List.length (((xs.take k).map offU).take (((xs.take k).map offU).length - 1))) co) rfl (by rw [hout.subTo0, List.length_take, Nat.min_eq_left (Nat.sub_le _ _)]) ?_)
 refine y_indexArr (j := 0) (0) underlying35 sizeOf3 rfl rfl rfl rfl rfl (by decide) rfl ?_
 refine go ?_
 refine y_indexArr (j := 1) (1) underlying35 sizeOf3 rfl rfl rfl rfl rfl (by decide) rfl ?_
 refine go ?_
 refine y_indexArr (j := 2) (2) underlying35 sizeOf3 rfl rfl rfl rfl rfl (by decide) rfl ?_
 refine go ?_
 refine y_indexArr (j := 3) (3) underlying35 sizeOf3 rfl rfl rfl rfl rfl (by decide) rfl ?_
 refine go ?_
 have D247 := (((D220.keep u224 (fun _ h => h)).keep u233 (fun _ h => h)).keep u245 (fun _ h => h))
 refine x_c func15 rfl rfl (offers0_c (((xs.take k).map offU).take (((xs.take k).map offU).length - 1)) ao gw 0 co _ ((Acc.takeN (enc := encOff) (k := 5) (fun _ => rfl) D247 (((xs.take k).map offU).length - 1)).sl (fun _ => rfl)) (by rw [List.length_take]; omega)) ?_
 rintro _ w250 ⟨⟨aoP248, gP248, cP248, rfl, hP248, hgP248, hzP248⟩, u251⟩ zu251
 have hlP248 := hP248.lt
 refine go ?_
 refine x_c func16 rfl rfl (Best_c (((xs.take k).map offU).take (((xs.take k).map offU).length - 1)) aoP248 gP248 0 cP248 (⟨y.a % 40, y.b, y.c % 8, y.d % 50⟩ : Hul) _ hP248 (by rw [List.length_take]; omega) (by omega)) ?_
 rintro _ w255 ⟨⟨rE, eE, aE, gE, oE, cE, rfl, hAE, hEE, hRE⟩, u256⟩ zu256
 have heE : eE = 0 := hEE.trans (bestE_ok (by rw [List.length_take]; omega) (fun x hx => hok x (List.mem_of_mem_take hx)) hhu)
 obtain rfl : rE = bestP (((xs.take k).map offU).take (((xs.take k).map offU).length - 1)) (⟨y.a % 40, y.b, y.c % 8, y.d % 50⟩ : Hul) := (hRE.resolve_left (fun h => h.1 heE)).2
 iterate 5 refine st1 ?_
 refine y_same 204 (v := .int .i64 0) rfl (congrArg (Value.int .i64) heE) ?_
 iterate 13 refine st1 ?_
 refine t_same 210 (v := .bool true) rfl (by rw [decide_eq_true (bst_less (Nat.sub_le _ _))]) ?_
 refine go ?_
 refine x_c func11 rfl rfl (known_c _ (by omega)) ?_
 rintro _ w261 ⟨rfl, u262⟩ zu262
 refine go ?_
 refine f_1 results8 ?_
 exact ⟨rfl, u_d⟩

end Go.Proofs.YtgoajalaomakpaaGreat
