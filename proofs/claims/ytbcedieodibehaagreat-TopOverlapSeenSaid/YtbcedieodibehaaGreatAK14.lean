/-
  Part 14 of the proof: contracts and plain laws. Conditions: none.
-/
import Derived.Test.YtbcedieodibehaaGreatAK13
namespace Go.Proofs.YtbcedieodibehaaGreat
open Go Go.RowKit Go.Proofs.Tryz
set_option maxRecDepth 10000

theorem tm4_eq {a b : Dty} (ha : okDty a = true) (hb : okDty b = true) : (List.range 4).map (tmV 4 1 (lst4 a b)) = [⟨a.bl, a.bh⟩, ⟨a.el, a.eh⟩, ⟨b.bl, b.bh⟩, ⟨b.el, b.eh⟩] := by
  obtain ⟨h1, h2, h3, h4⟩ := hi9 ha hb
  have e0 : tmV 4 1 (lst4 a b) 0 = ⟨a.bl, a.bh⟩ := by
    show (⟨-nth (rchW 6 (lst4 a b) 1).m 0, nth (rchW 6 (lst4 a b) 0).m 1⟩ : Bcl) = _
    rw [(lo1 ha hb).1, h1, Int.neg_neg]
  have e1 : tmV 4 1 (lst4 a b) 1 = ⟨a.el, a.eh⟩ := by
    show (⟨-nth (rchW 6 (lst4 a b) 2).m 0, nth (rchW 6 (lst4 a b) 0).m 2⟩ : Bcl) = _
    rw [(lo2 ha hb).1, h2, Int.neg_neg]
  have e2 : tmV 4 1 (lst4 a b) 2 = ⟨b.bl, b.bh⟩ := by
    show (⟨-nth (rchW 6 (lst4 a b) 3).m 0, nth (rchW 6 (lst4 a b) 0).m 3⟩ : Bcl) = _
    rw [lo3 ha hb, h3, Int.neg_neg]
  have e3 : tmV 4 1 (lst4 a b) 3 = ⟨b.el, b.eh⟩ := by
    show (⟨-nth (rchW 6 (lst4 a b) 4).m 0, nth (rchW 6 (lst4 a b) 0).m 4⟩ : Bcl) = _
    rw [lo4 ha hb, h4, Int.neg_neg]
  show [tmV 4 1 (lst4 a b) 0, tmV 4 1 (lst4 a b) 1, tmV 4 1 (lst4 a b) 2, tmV 4 1 (lst4 a b) 3] = _
  rw [e0, e1, e2, e3]
theorem bq1 {p q : Prop} [Decidable p] [Decidable q] (h : p ↔ q) : decide (decide p = decide q) = true := by rw [decide_eq_true_eq]; exact decide_eq_decide.2 h
theorem bq2 {p q : Prop} [Decidable p] [Decidable q] (h : p ↔ q) : (decide p == decide q) = true := by rw [beq_iff_eq]; exact decide_eq_decide.2 h
theorem CaM.keep {w w' : World} {n : Nat} {cs : List Bcl} {ac : Option Addr} {bc oc : Nat} {rows : List HC} {ar : Option Addr} {br or_ : Nat} (h : CaM w n cs ac bc oc rows ar br or_) (u : Ext w w') (_hn : bc = bc → False → False) : CaM w' n cs ac bc oc rows ar br or_ := h.ext u
theorem osR_app (l : List HC) (h : HC) : osR (l ++ [h]) = osR l ++ [optH h] := List.map_append
theorem osR_app2 (l : List HC) (h g : HC) : osR (l ++ [h, g]) = osR l ++ [optH h, optH g] := List.map_append
theorem os4_all {a b : Dty} (ha : okDty a = true) (hb : okDty b = true) {l : List HC} (h : osR l = os4 a b) : ∀ x ∈ l, okOptP 4 1 (optH x) := fun x hx => by
  have h1 := ok_of ha; have h2 := ok_of hb
  have h3 : optH x ∈ os4 a b := by rw [← h]; exact List.mem_map.2 ⟨x, hx, rfl⟩
  unfold os4 seen9 at h3
  simp only [List.mem_cons, List.not_mem_nil, or_false] at h3
  rcases h3 with e | e | e | e <;> rw [e] <;> exact oks (by omega)
theorem memA {α : Type} {P : α → Prop} {l : List α} {x y : α} (h : ∀ z ∈ l, P z) (hx : P x) (hy : P y) : ∀ z ∈ l ++ [x, y], P z := fun z hz => by
  rcases List.mem_append.1 hz with q | q
  · exact h z q
  · rcases List.mem_cons.1 q with q | q
    · rw [q]; exact hx
    · rw [List.mem_singleton.1 q]; exact hy

set_option maxHeartbeats 4000000 in
theorem TopOverlapSeen_c (a b : Dty) (w0 : World) :
    CallsV Tryz.prog 3 [.agg #[.int .i64 a.bl, .int .i64 a.bh, .int .i64 a.el, .int .i64 a.eh], .agg #[.int .i64 b.bl, .int .i64 b.bh, .int .i64 b.el, .int .i64 b.eh]] w0 (fun v w' => v = .bool true ∧ Ext w0 w') := by
 refine f_n func3 ?_
 refine go ?_
 refine x_b fun bk2 w3 ebk2 sbk2 B4 u5 => ?_
 refine x_b fun bk7 w8 ebk7 sbk7 B9 u10 => ?_
 refine go ?_
 refine x_n fun bk13 w14 ebk13 sbk13 B15 u16 => ?_
 refine x_s fun w18 sw18 B20 u19 => ?_
 refine go ?_
 refine x_l fun bk23 w24 ebk23 sbk23 B25 u26 => ?_
 refine x_c func4 rfl rfl (Rested_c rlO [a, b] (some ⟨bk23, 0, none⟩) bk23 0 2 _ (Sl.ofBlk (enc := encDty) (xs := [a, b]) (fun _ => rfl) B25) (by show 2 ≤ 1000000; decide) (by omega)) ?_
 rintro _ w29 ⟨⟨at9, ru9, po9, er9, rfl, hR9⟩, u30⟩ zu30
 have hro := restO hR9
 refine go ?_
 refine q_p (fun g30 => ?_) fun g30 => ?_
 ·
  obtain ⟨e1, e2, e3, e4⟩ := hro.resolve_right (fun h => g30 h.1)
  iterate 4 refine st1 ?_
  refine t_same 32 (v := .bool true) rfl (congrArg Value.bool (decide_eq_true (e1))) ?_
  iterate 3 refine st1 ?_
  refine t_same 35 (v := .bool true) rfl (congrArg Value.bool (decide_eq_true (e2))) ?_
  iterate 4 refine st1 ?_
  refine t_same 39 (v := .bool true) rfl (congrArg Value.bool (decide_eq_true (e3))) ?_
  iterate 4 refine st1 ?_
  refine t_same 43 (v := .bool true) rfl (congrArg Value.bool (by rw [e4]; rfl)) ?_
  refine go ?_
  refine x_c func5 rfl rfl (knownSeen_c _) ?_
  rintro _ w37 ⟨rfl, u38⟩ zu38
  refine go ?_
  refine x_c func6 rfl rfl (knownCrew_c _) ?_
  rintro _ w42 ⟨rfl, u43⟩ zu43
  refine go ?_
  refine f_1 results3 ?_
  exact ⟨rfl, u_d⟩
 obtain ⟨e1, hA, hB, hov⟩ := hro.resolve_left (fun h => by have := h.1; omega)
 have hA1 := ok_of hA
 have hB1 := ok_of hB
 iterate 2 refine st1 ?_
 refine x_k3 (fun _ => False) [2, 3, 6, 7] (fun (q10 : Nat) (q11 : Nat) (q52 : Nat) => [(10, .pointer (some ⟨q10, 0, none⟩)), (11, .pointer (some ⟨q11, 0, none⟩))]) (fun q10 q11 q52 w => (Blk w q10 36 [.int .i64 4, .slice (some ⟨q52, 0, none⟩) 1 1, .slice none 0 0]) ∧ (Blk w q11 37 [.int .i64 a.bl, .int .i64 a.bh, .int .i64 a.el, .int .i64 a.eh, .int .i64 b.bl, .int .i64 b.bh, .int .i64 b.el, .int .i64 b.eh]) ∧ (Blk w q52 23 [.int .i64 0, .int .i64 0]) ∧ ((q10 ≠ q11 ∧ q10 ≠ q52 ∧ q11 ≠ q52) ∧ w29.heap.size ≤ q10 ∧ w29.heap.size ≤ q11 ∧ w29.heap.size ≤ q52)) (fun K50 hK50 => ?_) ?_
 ·
  refine c_drawnM follows (fun _ => False) (.look 0 (.look 3 (.look 4 (.look 5 (.look 6 (.look 7 (.look 8 (.look 9 (.look 10 (.look 11 (.act 1 (.look 2 (.act 12 (.act 13 (.act 14 (.act 15 .done .stop) .stop) .stop) (.act 13 (.act 12 (.act 14 (.act 15 .done .stop) .stop) .stop) .stop))) (.act 12 (.act 1 (.look 2 (.act 13 (.act 14 (.act 15 .done .stop) .stop) .stop)) (.act 13 (.act 1 (.look 2 (.act 14 (.act 15 .done .stop) .stop)) .stop) .stop)) (.act 13 (.act 1 (.look 2 (.act 12 (.act 14 (.act 15 .done .stop) .stop) .stop)) (.act 12 (.act 1 (.look 2 (.act 14 (.act 15 .done .stop) .stop)) .stop) .stop)) .stop))))))))))))) (by kernel_rfl) fun w53 u54 => ?_
  have zu54 := u54.size
  refine go ?_
  refine y_build (ps := [(0, .agg #[.int .i64 a.bl, .int .i64 a.bh]), (1, .agg #[.int .i64 a.el, .int .i64 a.eh]), (2, .agg #[.int .i64 b.bl, .int .i64 b.bh]), (3, .agg #[.int .i64 b.el, .int .i64 b.eh])]) (v := .agg #[.int .i64 a.bl, .int .i64 a.bh, .int .i64 a.el, .int .i64 a.eh, .int .i64 b.bl, .int .i64 b.bh, .int .i64 b.el, .int .i64 b.eh]) rfl rfl ⟨rfl, rfl⟩ (fun w => by kernel_rfl) (s_or ?_ ?_)
  ·
   refine go ?_
   refine x_l fun bk56 w57 ebk56 sbk56 B58 u59 => ?_
   refine go ?_
   refine s_or ?_ ?_
   ·
    refine go ?_
    refine x_n fun bk61 w62 ebk61 sbk61 B63 u64 => ?_
    refine go ?_
    refine x_n fun bk66 w67 ebk66 sbk66 B68 u69 => ?_
    refine go ?_
    refine x_s fun w71 sw71 B73 u72 => ?_
    refine go ?_
    refine x_s fun w75 sw75 B77 u76 => ?_
    refine go ?_
    have B79 := (B73.keep u76 (by omega))
    have B80 := ((((B58.kx u64).kx u69).keep u72 (by omega)).keep u76 (by omega))
    exact hK50 bk61 bk66 bk56 ⟨B79, B77, B80, (by omega)⟩
   refine go ?_
   refine x_n fun bk81 w82 ebk81 sbk81 B83 u84 => ?_
   refine go ?_
   refine x_n fun bk86 w87 ebk86 sbk86 B88 u89 => ?_
   refine go ?_
   refine x_s fun w91 sw91 B93 u92 => ?_
   refine go ?_
   refine x_s fun w95 sw95 B97 u96 => ?_
   refine go ?_
   have B99 := (B93.keep u96 (by omega))
   have B100 := ((((B58.kx u84).kx u89).keep u92 (by omega)).keep u96 (by omega))
   exact hK50 bk86 bk81 bk56 ⟨B99, B97, B100, (by omega)⟩
  refine s_or ?_ ?_
  ·
   refine go ?_
   refine x_n fun bk101 w102 ebk101 sbk101 B103 u104 => ?_
   refine go ?_
   refine s_or ?_ ?_
   ·
    refine go ?_
    refine x_l fun bk106 w107 ebk106 sbk106 B108 u109 => ?_
    refine go ?_
    refine x_n fun bk111 w112 ebk111 sbk111 B113 u114 => ?_
    refine go ?_
    refine x_s fun w116 sw116 B118 u117 => ?_
    refine go ?_
    refine x_s fun w120 sw120 B122 u121 => ?_
    refine go ?_
    have B124 := (B118.keep u121 (by omega))
    have B125 := (((B108.kx u114).keep u117 (by omega)).keep u121 (by omega))
    exact hK50 bk101 bk111 bk106 ⟨B124, B122, B125, (by omega)⟩
   refine go ?_
   refine x_n fun bk126 w127 ebk126 sbk126 B128 u129 => ?_
   refine go ?_
   refine x_l fun bk131 w132 ebk131 sbk131 B133 u134 => ?_
   refine go ?_
   refine x_s fun w136 sw136 B138 u137 => ?_
   refine go ?_
   refine x_s fun w140 sw140 B142 u141 => ?_
   refine go ?_
   have B144 := (B138.keep u141 (by omega))
   have B145 := ((B133.keep u137 (by omega)).keep u141 (by omega))
   exact hK50 bk101 bk126 bk131 ⟨B144, B142, B145, (by omega)⟩
  refine go ?_
  refine x_n fun bk146 w147 ebk146 sbk146 B148 u149 => ?_
  refine go ?_
  refine s_or ?_ ?_
  ·
   refine go ?_
   refine x_l fun bk151 w152 ebk151 sbk151 B153 u154 => ?_
   refine go ?_
   refine x_n fun bk156 w157 ebk156 sbk156 B158 u159 => ?_
   refine go ?_
   refine x_s fun w161 sw161 B163 u162 => ?_
   refine go ?_
   refine x_s fun w165 sw165 B167 u166 => ?_
   refine go ?_
   have B169 := (B163.keep u166 (by omega))
   have B170 := (((B153.kx u159).keep u162 (by omega)).keep u166 (by omega))
   exact hK50 bk156 bk146 bk151 ⟨B169, B167, B170, (by omega)⟩
  refine go ?_
  refine x_n fun bk171 w172 ebk171 sbk171 B173 u174 => ?_
  refine go ?_
  refine x_l fun bk176 w177 ebk176 sbk176 B178 u179 => ?_
  refine go ?_
  refine x_s fun w181 sw181 B183 u182 => ?_
  refine go ?_
  refine x_s fun w185 sw185 B187 u186 => ?_
  refine go ?_
  have B189 := (B183.keep u186 (by omega))
  have B190 := ((B178.keep u182 (by omega)).keep u186 (by omega))
  exact hK50 bk171 bk146 bk176 ⟨B189, B187, B190, (by omega)⟩
 rintro q10 q11 q52 w51 ⟨hq10, hq11, hq52, hqq⟩ u52 zu52
 have l52 := hq52.lt
 have l10 := hq10.lt
 have l11 := hq11.lt
 refine go ?_
 refine x_l5 (fun i => i = q10 ∨ w51.heap.size ≤ i) [2, 3, 6, 7, 10, 11] (fun (k : Nat) (ao : Option Addr) (gx : Nat) (co : Nat) (out : List HC) => [(12, .int .i64 (k : Int))]) (fun k ao gx co out w => Blk w q10 36 [.int .i64 4, .slice (some ⟨q52, 0, none⟩) 1 1, .slice ao out.length co] ∧ (k ≤ 4) ∧ (Acc encHC 1 43 w51.heap.size w ao gx co out) ∧ (osR out = (os4 a b).take k) ∧ (out.length = k) ∧ (∀ h ∈ out, OptC w51.heap.size w h ∧ h.xs.length = 1)) (fun k ao gx co out => 4 - k) 0 none 0 0 ([]) ⟨hq10, (Nat.zero_le _), (Acc.nil encHC 1 43 w51.heap.size _ (by omega) (Nat.le_refl _)), rfl, rfl, (fun h hh => by cases hh)⟩ ?_
 rintro k ao gx co out w195 ⟨I197, hk, hout, hos9, hol, hoc⟩ u196 zu196 K194 hK194
 have lt_gx := hout.lt
 have hout0 := hout
 refine go ?_
 refine q_p (fun g64 => ?_) fun g64 => ?_
 ·
  refine go ?_
  rcases (show k = 0 ∨ k = 1 ∨ k = 2 ∨ k = 3 by omega) with rfl | rfl | rfl | rfl
  ·
   refine c_drawnM follows (fun i => (i = gx ∧ w51.heap.size ≤ i) ∨ i = q10) (.look 0 (.look 2 (.look 3 (.look 4 (.look 5 (.look 6 (.act 1 (.act 7 (.look 8 (.act 9 (.act 10 (.look 11 (.act 12 .done .stop)) .stop) .stop)) .stop) (.act 7 (.look 8 (.act 1 (.act 9 (.act 10 (.look 11 (.act 12 .done .stop)) .stop) .stop) (.act 9 (.act 1 (.act 10 (.look 11 (.act 12 .done .stop)) .stop) .stop) .stop))) .stop)))))))) (by kernel_rfl) fun w202 u203 => ?_
   have zu203 := u203.size
   refine go ?_
   refine y_indexArr (j := 0) (0) underlying37 sizeOf23 rfl rfl rfl rfl rfl (by decide) rfl ?_
   refine go ?_
   refine s_or ?_ ?_
   ·
    refine go ?_
    refine x_l fun bk205 w206 ebk205 sbk205 B207 u208 => ?_
    refine go ?_
    refine x_l fun bk210 w211 ebk210 sbk210 B212 u213 => ?_
    refine go ?_
    have D215 := (((hout.keep u203 (fun _ h => h)).keep u208 (fun _ h => h)).keep u213 (fun _ h => h))
    refine t_append (z := .agg #[.slice none 0 0]) (bytes := 24) (k := 1) (base := w51.heap.size) (⟨[seen9 0 a.bl a.bh], some ⟨bk205, 0, none⟩, bk205, 0, 1⟩ : HC) underlying34 (by kernel_rfl) rfl (by decide) (fun _ => rfl) (by intro x; simp [encHC, Value.oneCell']) rfl rfl rfl rfl D215 B212 (by omega) (by omega) (by decide) (fun ao216 gb217 cp218 w219 A220 u221 gegb217 lngb217 => ?_)
    have zu221 := u221.size
    have lt_gb217 := A220.lt
    refine go ?_
    refine x_s fun w223 sw223 B225 u224 => ?_
    refine go ?_
    have D227 := (A220.keep u224 (fun hb => show ¬ (gb217 = q10) by first | omega | assumption))
    have B228 := (((B207.kx u213).keep u221 (by omega)).keep u224 (by omega))
    have uR := ((((((Upd.refl (fun i => (i = gx ∧ w51.heap.size ≤ i) ∨ i = q10) w195).nx u203).nx u208).nx u213).next u221 (fun i hi (h : (i = gx ∧ w51.heap.size ≤ i)) => show (i = gx ∧ w51.heap.size ≤ i) ∨ i = q10 by omega)).next u224 (fun i hi (h : i = q10) => show (i = gx ∧ w51.heap.size ≤ i) ∨ i = q10 by omega))
    exact hK194 (0 + 1) ao216 gb217 cp218 (out ++ [(⟨[seen9 0 a.bl a.bh], some ⟨bk205, 0, none⟩, bk205, 0, 1⟩ : HC)]) ⟨B225, (by decide), D227, (by rw [osR_app, hos9]; rfl), (by rw [List.length_append, hol]; rfl), (fun h hh => by
      rcases List.mem_append.1 hh with q | q
      · exact ⟨(hoc h q).1.upd uR (fun hb cs hB h9 => h9.elim (hout0.notBlk hB (by decide)) (fun e9 => by omega)), (hoc h q).2⟩
      · rw [List.mem_singleton.1 q]; exact ⟨⟨⟨_, by omega, Acc.ofRaw (cs := [.int .i64 1, .int .i64 0, .int .i64 0, .int .i64 0, .int .i64 a.bl, .int .i64 a.bh]) B228 (Nat.le_refl _) (Nat.le_refl _) (by show 1 ≤ maxLen; decide) rfl rfl⟩, rfl⟩, rfl⟩)⟩ (hu := (((((u196.nx u203).nx u208).nx u213).next u221 (fun i hi (h : (i = gx ∧ w51.heap.size ≤ i)) => show i = q10 ∨ w51.heap.size ≤ i by first | omega | assumption)).next u224 (fun i hi (h : i = q10) => show i = q10 ∨ w51.heap.size ≤ i by first | omega | assumption)))
   refine go ?_
   refine x_l fun bk229 w230 ebk229 sbk229 B231 u232 => ?_
   refine go ?_
   refine s_or ?_ ?_
   ·
    refine go ?_
    refine x_l fun bk234 w235 ebk234 sbk234 B236 u237 => ?_
    refine go ?_
    have D239 := (((hout.keep u203 (fun _ h => h)).keep u232 (fun _ h => h)).keep u237 (fun _ h => h))
    refine t_append (z := .agg #[.slice none 0 0]) (bytes := 24) (k := 1) (base := w51.heap.size) (⟨[seen9 0 a.bl a.bh], some ⟨bk229, 0, none⟩, bk229, 0, 1⟩ : HC) underlying34 (by kernel_rfl) rfl (by decide) (fun _ => rfl) (by intro x; simp [encHC, Value.oneCell']) rfl rfl rfl rfl D239 B236 (by omega) (by omega) (by decide) (fun ao240 gb241 cp242 w243 A244 u245 gegb241 lngb241 => ?_)
    have zu245 := u245.size
    have lt_gb241 := A244.lt
    refine go ?_
    refine x_s fun w247 sw247 B249 u248 => ?_
    refine go ?_
    have D251 := (A244.keep u248 (fun hb => show ¬ (gb241 = q10) by first | omega | assumption))
    have B252 := (((B231.kx u237).keep u245 (by omega)).keep u248 (by omega))
    have uR := ((((((Upd.refl (fun i => (i = gx ∧ w51.heap.size ≤ i) ∨ i = q10) w195).nx u203).nx u232).nx u237).next u245 (fun i hi (h : (i = gx ∧ w51.heap.size ≤ i)) => show (i = gx ∧ w51.heap.size ≤ i) ∨ i = q10 by omega)).next u248 (fun i hi (h : i = q10) => show (i = gx ∧ w51.heap.size ≤ i) ∨ i = q10 by omega))
    exact hK194 (0 + 1) ao240 gb241 cp242 (out ++ [(⟨[seen9 0 a.bl a.bh], some ⟨bk229, 0, none⟩, bk229, 0, 1⟩ : HC)]) ⟨B249, (by decide), D251, (by rw [osR_app, hos9]; rfl), (by rw [List.length_append, hol]; rfl), (fun h hh => by
      rcases List.mem_append.1 hh with q | q
      · exact ⟨(hoc h q).1.upd uR (fun hb cs hB h9 => h9.elim (hout0.notBlk hB (by decide)) (fun e9 => by omega)), (hoc h q).2⟩
      · rw [List.mem_singleton.1 q]; exact ⟨⟨⟨_, by omega, Acc.ofRaw (cs := [.int .i64 1, .int .i64 0, .int .i64 0, .int .i64 0, .int .i64 a.bl, .int .i64 a.bh]) B252 (Nat.le_refl _) (Nat.le_refl _) (by show 1 ≤ maxLen; decide) rfl rfl⟩, rfl⟩, rfl⟩)⟩ (hu := (((((u196.nx u203).nx u232).nx u237).next u245 (fun i hi (h : (i = gx ∧ w51.heap.size ≤ i)) => show i = q10 ∨ w51.heap.size ≤ i by first | omega | assumption)).next u248 (fun i hi (h : i = q10) => show i = q10 ∨ w51.heap.size ≤ i by first | omega | assumption)))
   refine go ?_
   refine x_l fun bk253 w254 ebk253 sbk253 B255 u256 => ?_
   refine go ?_
   have D258 := (((hout.keep u203 (fun _ h => h)).keep u232 (fun _ h => h)).keep u256 (fun _ h => h))
   refine t_append (z := .agg #[.slice none 0 0]) (bytes := 24) (k := 1) (base := w51.heap.size) (⟨[seen9 0 a.bl a.bh], some ⟨bk229, 0, none⟩, bk229, 0, 1⟩ : HC) underlying34 (by kernel_rfl) rfl (by decide) (fun _ => rfl) (by intro x; simp [encHC, Value.oneCell']) rfl rfl rfl rfl D258 B255 (by omega) (by omega) (by decide) (fun ao259 gb260 cp261 w262 A263 u264 gegb260 lngb260 => ?_)
   have zu264 := u264.size
   have lt_gb260 := A263.lt
   refine go ?_
   refine x_s fun w266 sw266 B268 u267 => ?_
   refine go ?_
   have D270 := (A263.keep u267 (fun hb => show ¬ (gb260 = q10) by first | omega | assumption))
   have B271 := (((B231.kx u256).keep u264 (by omega)).keep u267 (by omega))
   have uR := ((((((Upd.refl (fun i => (i = gx ∧ w51.heap.size ≤ i) ∨ i = q10) w195).nx u203).nx u232).nx u256).next u264 (fun i hi (h : (i = gx ∧ w51.heap.size ≤ i)) => show (i = gx ∧ w51.heap.size ≤ i) ∨ i = q10 by omega)).next u267 (fun i hi (h : i = q10) => show (i = gx ∧ w51.heap.size ≤ i) ∨ i = q10 by omega))
   exact hK194 (0 + 1) ao259 gb260 cp261 (out ++ [(⟨[seen9 0 a.bl a.bh], some ⟨bk229, 0, none⟩, bk229, 0, 1⟩ : HC)]) ⟨B268, (by decide), D270, (by rw [osR_app, hos9]; rfl), (by rw [List.length_append, hol]; rfl), (fun h hh => by
     rcases List.mem_append.1 hh with q | q
     · exact ⟨(hoc h q).1.upd uR (fun hb cs hB h9 => h9.elim (hout0.notBlk hB (by decide)) (fun e9 => by omega)), (hoc h q).2⟩
     · rw [List.mem_singleton.1 q]; exact ⟨⟨⟨_, by omega, Acc.ofRaw (cs := [.int .i64 1, .int .i64 0, .int .i64 0, .int .i64 0, .int .i64 a.bl, .int .i64 a.bh]) B271 (Nat.le_refl _) (Nat.le_refl _) (by show 1 ≤ maxLen; decide) rfl rfl⟩, rfl⟩, rfl⟩)⟩ (hu := (((((u196.nx u203).nx u232).nx u256).next u264 (fun i hi (h : (i = gx ∧ w51.heap.size ≤ i)) => show i = q10 ∨ w51.heap.size ≤ i by first | omega | assumption)).next u267 (fun i hi (h : i = q10) => show i = q10 ∨ w51.heap.size ≤ i by first | omega | assumption)))
  ·
   refine c_drawnM follows (fun i => (i = gx ∧ w51.heap.size ≤ i) ∨ i = q10) (.look 0 (.look 2 (.look 3 (.look 4 (.look 5 (.look 6 (.act 1 (.act 7 (.look 8 (.act 9 (.act 10 (.look 11 (.act 12 .done .stop)) .stop) .stop)) .stop) (.act 7 (.look 8 (.act 1 (.act 9 (.act 10 (.look 11 (.act 12 .done .stop)) .stop) .stop) (.act 9 (.act 1 (.act 10 (.look 11 (.act 12 .done .stop)) .stop) .stop) .stop))) .stop)))))))) (by kernel_rfl) fun w272 u273 => ?_
   have zu273 := u273.size
   refine go ?_
   refine y_indexArr (j := 1) (2) underlying37 sizeOf23 rfl rfl rfl rfl rfl (by decide) rfl ?_
   refine go ?_
   refine s_or ?_ ?_
   ·
    refine go ?_
    refine x_l fun bk275 w276 ebk275 sbk275 B277 u278 => ?_
    refine go ?_
    refine x_l fun bk280 w281 ebk280 sbk280 B282 u283 => ?_
    refine go ?_
    have D285 := (((hout.keep u273 (fun _ h => h)).keep u278 (fun _ h => h)).keep u283 (fun _ h => h))
    refine t_append (z := .agg #[.slice none 0 0]) (bytes := 24) (k := 1) (base := w51.heap.size) (⟨[seen9 1 a.el a.eh], some ⟨bk275, 0, none⟩, bk275, 0, 1⟩ : HC) underlying34 (by kernel_rfl) rfl (by decide) (fun _ => rfl) (by intro x; simp [encHC, Value.oneCell']) rfl rfl rfl rfl D285 B282 (by omega) (by omega) (by decide) (fun ao286 gb287 cp288 w289 A290 u291 gegb287 lngb287 => ?_)
    have zu291 := u291.size
    have lt_gb287 := A290.lt
    refine go ?_
    refine x_s fun w293 sw293 B295 u294 => ?_
    refine go ?_
    have D297 := (A290.keep u294 (fun hb => show ¬ (gb287 = q10) by first | omega | assumption))
    have B298 := (((B277.kx u283).keep u291 (by omega)).keep u294 (by omega))
    have uR := ((((((Upd.refl (fun i => (i = gx ∧ w51.heap.size ≤ i) ∨ i = q10) w195).nx u273).nx u278).nx u283).next u291 (fun i hi (h : (i = gx ∧ w51.heap.size ≤ i)) => show (i = gx ∧ w51.heap.size ≤ i) ∨ i = q10 by omega)).next u294 (fun i hi (h : i = q10) => show (i = gx ∧ w51.heap.size ≤ i) ∨ i = q10 by omega))
    exact hK194 (1 + 1) ao286 gb287 cp288 (out ++ [(⟨[seen9 1 a.el a.eh], some ⟨bk275, 0, none⟩, bk275, 0, 1⟩ : HC)]) ⟨B295, (by decide), D297, (by rw [osR_app, hos9]; rfl), (by rw [List.length_append, hol]; rfl), (fun h hh => by
      rcases List.mem_append.1 hh with q | q
      · exact ⟨(hoc h q).1.upd uR (fun hb cs hB h9 => h9.elim (hout0.notBlk hB (by decide)) (fun e9 => by omega)), (hoc h q).2⟩
      · rw [List.mem_singleton.1 q]; exact ⟨⟨⟨_, by omega, Acc.ofRaw (cs := [.int .i64 1, .int .i64 1, .int .i64 0, .int .i64 0, .int .i64 a.el, .int .i64 a.eh]) B298 (Nat.le_refl _) (Nat.le_refl _) (by show 1 ≤ maxLen; decide) rfl rfl⟩, rfl⟩, rfl⟩)⟩ (hu := (((((u196.nx u273).nx u278).nx u283).next u291 (fun i hi (h : (i = gx ∧ w51.heap.size ≤ i)) => show i = q10 ∨ w51.heap.size ≤ i by first | omega | assumption)).next u294 (fun i hi (h : i = q10) => show i = q10 ∨ w51.heap.size ≤ i by first | omega | assumption)))
   refine go ?_
   refine x_l fun bk299 w300 ebk299 sbk299 B301 u302 => ?_
   refine go ?_
   refine s_or ?_ ?_
   ·
    refine go ?_
    refine x_l fun bk304 w305 ebk304 sbk304 B306 u307 => ?_
    refine go ?_
    have D309 := (((hout.keep u273 (fun _ h => h)).keep u302 (fun _ h => h)).keep u307 (fun _ h => h))
    refine t_append (z := .agg #[.slice none 0 0]) (bytes := 24) (k := 1) (base := w51.heap.size) (⟨[seen9 1 a.el a.eh], some ⟨bk299, 0, none⟩, bk299, 0, 1⟩ : HC) underlying34 (by kernel_rfl) rfl (by decide) (fun _ => rfl) (by intro x; simp [encHC, Value.oneCell']) rfl rfl rfl rfl D309 B306 (by omega) (by omega) (by decide) (fun ao310 gb311 cp312 w313 A314 u315 gegb311 lngb311 => ?_)
    have zu315 := u315.size
    have lt_gb311 := A314.lt
    refine go ?_
    refine x_s fun w317 sw317 B319 u318 => ?_
    refine go ?_
    have D321 := (A314.keep u318 (fun hb => show ¬ (gb311 = q10) by first | omega | assumption))
    have B322 := (((B301.kx u307).keep u315 (by omega)).keep u318 (by omega))
    have uR := ((((((Upd.refl (fun i => (i = gx ∧ w51.heap.size ≤ i) ∨ i = q10) w195).nx u273).nx u302).nx u307).next u315 (fun i hi (h : (i = gx ∧ w51.heap.size ≤ i)) => show (i = gx ∧ w51.heap.size ≤ i) ∨ i = q10 by omega)).next u318 (fun i hi (h : i = q10) => show (i = gx ∧ w51.heap.size ≤ i) ∨ i = q10 by omega))
    exact hK194 (1 + 1) ao310 gb311 cp312 (out ++ [(⟨[seen9 1 a.el a.eh], some ⟨bk299, 0, none⟩, bk299, 0, 1⟩ : HC)]) ⟨B319, (by decide), D321, (by rw [osR_app, hos9]; rfl), (by rw [List.length_append, hol]; rfl), (fun h hh => by
      rcases List.mem_append.1 hh with q | q
      · exact ⟨(hoc h q).1.upd uR (fun hb cs hB h9 => h9.elim (hout0.notBlk hB (by decide)) (fun e9 => by omega)), (hoc h q).2⟩
      · rw [List.mem_singleton.1 q]; exact ⟨⟨⟨_, by omega, Acc.ofRaw (cs := [.int .i64 1, .int .i64 1, .int .i64 0, .int .i64 0, .int .i64 a.el, .int .i64 a.eh]) B322 (Nat.le_refl _) (Nat.le_refl _) (by show 1 ≤ maxLen; decide) rfl rfl⟩, rfl⟩, rfl⟩)⟩ (hu := (((((u196.nx u273).nx u302).nx u307).next u315 (fun i hi (h : (i = gx ∧ w51.heap.size ≤ i)) => show i = q10 ∨ w51.heap.size ≤ i by first | omega | assumption)).next u318 (fun i hi (h : i = q10) => show i = q10 ∨ w51.heap.size ≤ i by first | omega | assumption)))
   refine go ?_
   refine x_l fun bk323 w324 ebk323 sbk323 B325 u326 => ?_
   refine go ?_
   have D328 := (((hout.keep u273 (fun _ h => h)).keep u302 (fun _ h => h)).keep u326 (fun _ h => h))
   refine t_append (z := .agg #[.slice none 0 0]) (bytes := 24) (k := 1) (base := w51.heap.size) (⟨[seen9 1 a.el a.eh], some ⟨bk299, 0, none⟩, bk299, 0, 1⟩ : HC) underlying34 (by kernel_rfl) rfl (by decide) (fun _ => rfl) (by intro x; simp [encHC, Value.oneCell']) rfl rfl rfl rfl D328 B325 (by omega) (by omega) (by decide) (fun ao329 gb330 cp331 w332 A333 u334 gegb330 lngb330 => ?_)
   have zu334 := u334.size
   have lt_gb330 := A333.lt
   refine go ?_
   refine x_s fun w336 sw336 B338 u337 => ?_
   refine go ?_
   have D340 := (A333.keep u337 (fun hb => show ¬ (gb330 = q10) by first | omega | assumption))
   have B341 := (((B301.kx u326).keep u334 (by omega)).keep u337 (by omega))
   have uR := ((((((Upd.refl (fun i => (i = gx ∧ w51.heap.size ≤ i) ∨ i = q10) w195).nx u273).nx u302).nx u326).next u334 (fun i hi (h : (i = gx ∧ w51.heap.size ≤ i)) => show (i = gx ∧ w51.heap.size ≤ i) ∨ i = q10 by omega)).next u337 (fun i hi (h : i = q10) => show (i = gx ∧ w51.heap.size ≤ i) ∨ i = q10 by omega))
   exact hK194 (1 + 1) ao329 gb330 cp331 (out ++ [(⟨[seen9 1 a.el a.eh], some ⟨bk299, 0, none⟩, bk299, 0, 1⟩ : HC)]) ⟨B338, (by decide), D340, (by rw [osR_app, hos9]; rfl), (by rw [List.length_append, hol]; rfl), (fun h hh => by
     rcases List.mem_append.1 hh with q | q
     · exact ⟨(hoc h q).1.upd uR (fun hb cs hB h9 => h9.elim (hout0.notBlk hB (by decide)) (fun e9 => by omega)), (hoc h q).2⟩
     · rw [List.mem_singleton.1 q]; exact ⟨⟨⟨_, by omega, Acc.ofRaw (cs := [.int .i64 1, .int .i64 1, .int .i64 0, .int .i64 0, .int .i64 a.el, .int .i64 a.eh]) B341 (Nat.le_refl _) (Nat.le_refl _) (by show 1 ≤ maxLen; decide) rfl rfl⟩, rfl⟩, rfl⟩)⟩ (hu := (((((u196.nx u273).nx u302).nx u326).next u334 (fun i hi (h : (i = gx ∧ w51.heap.size ≤ i)) => show i = q10 ∨ w51.heap.size ≤ i by first | omega | assumption)).next u337 (fun i hi (h : i = q10) => show i = q10 ∨ w51.heap.size ≤ i by first | omega | assumption)))
  ·
   refine c_drawnM follows (fun i => (i = gx ∧ w51.heap.size ≤ i) ∨ i = q10) (.look 0 (.look 2 (.look 3 (.look 4 (.look 5 (.look 6 (.act 1 (.act 7 (.look 8 (.act 9 (.act 10 (.look 11 (.act 12 .done .stop)) .stop) .stop)) .stop) (.act 7 (.look 8 (.act 1 (.act 9 (.act 10 (.look 11 (.act 12 .done .stop)) .stop) .stop) (.act 9 (.act 1 (.act 10 (.look 11 (.act 12 .done .stop)) .stop) .stop) .stop))) .stop)))))))) (by kernel_rfl) fun w342 u343 => ?_
   have zu343 := u343.size
   refine go ?_
   refine y_indexArr (j := 2) (4) underlying37 sizeOf23 rfl rfl rfl rfl rfl (by decide) rfl ?_
   refine go ?_
   refine s_or ?_ ?_
   ·
    refine go ?_
    refine x_l fun bk345 w346 ebk345 sbk345 B347 u348 => ?_
    refine go ?_
    refine x_l fun bk350 w351 ebk350 sbk350 B352 u353 => ?_
    refine go ?_
    have D355 := (((hout.keep u343 (fun _ h => h)).keep u348 (fun _ h => h)).keep u353 (fun _ h => h))
    refine t_append (z := .agg #[.slice none 0 0]) (bytes := 24) (k := 1) (base := w51.heap.size) (⟨[seen9 2 b.bl b.bh], some ⟨bk345, 0, none⟩, bk345, 0, 1⟩ : HC) underlying34 (by kernel_rfl) rfl (by decide) (fun _ => rfl) (by intro x; simp [encHC, Value.oneCell']) rfl rfl rfl rfl D355 B352 (by omega) (by omega) (by decide) (fun ao356 gb357 cp358 w359 A360 u361 gegb357 lngb357 => ?_)
    have zu361 := u361.size
    have lt_gb357 := A360.lt
    refine go ?_
    refine x_s fun w363 sw363 B365 u364 => ?_
    refine go ?_
    have D367 := (A360.keep u364 (fun hb => show ¬ (gb357 = q10) by first | omega | assumption))
    have B368 := (((B347.kx u353).keep u361 (by omega)).keep u364 (by omega))
    have uR := ((((((Upd.refl (fun i => (i = gx ∧ w51.heap.size ≤ i) ∨ i = q10) w195).nx u343).nx u348).nx u353).next u361 (fun i hi (h : (i = gx ∧ w51.heap.size ≤ i)) => show (i = gx ∧ w51.heap.size ≤ i) ∨ i = q10 by omega)).next u364 (fun i hi (h : i = q10) => show (i = gx ∧ w51.heap.size ≤ i) ∨ i = q10 by omega))
    exact hK194 (2 + 1) ao356 gb357 cp358 (out ++ [(⟨[seen9 2 b.bl b.bh], some ⟨bk345, 0, none⟩, bk345, 0, 1⟩ : HC)]) ⟨B365, (by decide), D367, (by rw [osR_app, hos9]; rfl), (by rw [List.length_append, hol]; rfl), (fun h hh => by
      rcases List.mem_append.1 hh with q | q
      · exact ⟨(hoc h q).1.upd uR (fun hb cs hB h9 => h9.elim (hout0.notBlk hB (by decide)) (fun e9 => by omega)), (hoc h q).2⟩
      · rw [List.mem_singleton.1 q]; exact ⟨⟨⟨_, by omega, Acc.ofRaw (cs := [.int .i64 1, .int .i64 2, .int .i64 0, .int .i64 0, .int .i64 b.bl, .int .i64 b.bh]) B368 (Nat.le_refl _) (Nat.le_refl _) (by show 1 ≤ maxLen; decide) rfl rfl⟩, rfl⟩, rfl⟩)⟩ (hu := (((((u196.nx u343).nx u348).nx u353).next u361 (fun i hi (h : (i = gx ∧ w51.heap.size ≤ i)) => show i = q10 ∨ w51.heap.size ≤ i by first | omega | assumption)).next u364 (fun i hi (h : i = q10) => show i = q10 ∨ w51.heap.size ≤ i by first | omega | assumption)))
   refine go ?_
   refine x_l fun bk369 w370 ebk369 sbk369 B371 u372 => ?_
   refine go ?_
   refine s_or ?_ ?_
   ·
    refine go ?_
    refine x_l fun bk374 w375 ebk374 sbk374 B376 u377 => ?_
    refine go ?_
    have D379 := (((hout.keep u343 (fun _ h => h)).keep u372 (fun _ h => h)).keep u377 (fun _ h => h))
    refine t_append (z := .agg #[.slice none 0 0]) (bytes := 24) (k := 1) (base := w51.heap.size) (⟨[seen9 2 b.bl b.bh], some ⟨bk369, 0, none⟩, bk369, 0, 1⟩ : HC) underlying34 (by kernel_rfl) rfl (by decide) (fun _ => rfl) (by intro x; simp [encHC, Value.oneCell']) rfl rfl rfl rfl D379 B376 (by omega) (by omega) (by decide) (fun ao380 gb381 cp382 w383 A384 u385 gegb381 lngb381 => ?_)
    have zu385 := u385.size
    have lt_gb381 := A384.lt
    refine go ?_
    refine x_s fun w387 sw387 B389 u388 => ?_
    refine go ?_
    have D391 := (A384.keep u388 (fun hb => show ¬ (gb381 = q10) by first | omega | assumption))
    have B392 := (((B371.kx u377).keep u385 (by omega)).keep u388 (by omega))
    have uR := ((((((Upd.refl (fun i => (i = gx ∧ w51.heap.size ≤ i) ∨ i = q10) w195).nx u343).nx u372).nx u377).next u385 (fun i hi (h : (i = gx ∧ w51.heap.size ≤ i)) => show (i = gx ∧ w51.heap.size ≤ i) ∨ i = q10 by omega)).next u388 (fun i hi (h : i = q10) => show (i = gx ∧ w51.heap.size ≤ i) ∨ i = q10 by omega))
    exact hK194 (2 + 1) ao380 gb381 cp382 (out ++ [(⟨[seen9 2 b.bl b.bh], some ⟨bk369, 0, none⟩, bk369, 0, 1⟩ : HC)]) ⟨B389, (by decide), D391, (by rw [osR_app, hos9]; rfl), (by rw [List.length_append, hol]; rfl), (fun h hh => by
      rcases List.mem_append.1 hh with q | q
      · exact ⟨(hoc h q).1.upd uR (fun hb cs hB h9 => h9.elim (hout0.notBlk hB (by decide)) (fun e9 => by omega)), (hoc h q).2⟩
      · rw [List.mem_singleton.1 q]; exact ⟨⟨⟨_, by omega, Acc.ofRaw (cs := [.int .i64 1, .int .i64 2, .int .i64 0, .int .i64 0, .int .i64 b.bl, .int .i64 b.bh]) B392 (Nat.le_refl _) (Nat.le_refl _) (by show 1 ≤ maxLen; decide) rfl rfl⟩, rfl⟩, rfl⟩)⟩ (hu := (((((u196.nx u343).nx u372).nx u377).next u385 (fun i hi (h : (i = gx ∧ w51.heap.size ≤ i)) => show i = q10 ∨ w51.heap.size ≤ i by first | omega | assumption)).next u388 (fun i hi (h : i = q10) => show i = q10 ∨ w51.heap.size ≤ i by first | omega | assumption)))
   refine go ?_
   refine x_l fun bk393 w394 ebk393 sbk393 B395 u396 => ?_
   refine go ?_
   have D398 := (((hout.keep u343 (fun _ h => h)).keep u372 (fun _ h => h)).keep u396 (fun _ h => h))
   refine t_append (z := .agg #[.slice none 0 0]) (bytes := 24) (k := 1) (base := w51.heap.size) (⟨[seen9 2 b.bl b.bh], some ⟨bk369, 0, none⟩, bk369, 0, 1⟩ : HC) underlying34 (by kernel_rfl) rfl (by decide) (fun _ => rfl) (by intro x; simp [encHC, Value.oneCell']) rfl rfl rfl rfl D398 B395 (by omega) (by omega) (by decide) (fun ao399 gb400 cp401 w402 A403 u404 gegb400 lngb400 => ?_)
   have zu404 := u404.size
   have lt_gb400 := A403.lt
   refine go ?_
   refine x_s fun w406 sw406 B408 u407 => ?_
   refine go ?_
   have D410 := (A403.keep u407 (fun hb => show ¬ (gb400 = q10) by first | omega | assumption))
   have B411 := (((B371.kx u396).keep u404 (by omega)).keep u407 (by omega))
   have uR := ((((((Upd.refl (fun i => (i = gx ∧ w51.heap.size ≤ i) ∨ i = q10) w195).nx u343).nx u372).nx u396).next u404 (fun i hi (h : (i = gx ∧ w51.heap.size ≤ i)) => show (i = gx ∧ w51.heap.size ≤ i) ∨ i = q10 by omega)).next u407 (fun i hi (h : i = q10) => show (i = gx ∧ w51.heap.size ≤ i) ∨ i = q10 by omega))
   exact hK194 (2 + 1) ao399 gb400 cp401 (out ++ [(⟨[seen9 2 b.bl b.bh], some ⟨bk369, 0, none⟩, bk369, 0, 1⟩ : HC)]) ⟨B408, (by decide), D410, (by rw [osR_app, hos9]; rfl), (by rw [List.length_append, hol]; rfl), (fun h hh => by
     rcases List.mem_append.1 hh with q | q
     · exact ⟨(hoc h q).1.upd uR (fun hb cs hB h9 => h9.elim (hout0.notBlk hB (by decide)) (fun e9 => by omega)), (hoc h q).2⟩
     · rw [List.mem_singleton.1 q]; exact ⟨⟨⟨_, by omega, Acc.ofRaw (cs := [.int .i64 1, .int .i64 2, .int .i64 0, .int .i64 0, .int .i64 b.bl, .int .i64 b.bh]) B411 (Nat.le_refl _) (Nat.le_refl _) (by show 1 ≤ maxLen; decide) rfl rfl⟩, rfl⟩, rfl⟩)⟩ (hu := (((((u196.nx u343).nx u372).nx u396).next u404 (fun i hi (h : (i = gx ∧ w51.heap.size ≤ i)) => show i = q10 ∨ w51.heap.size ≤ i by first | omega | assumption)).next u407 (fun i hi (h : i = q10) => show i = q10 ∨ w51.heap.size ≤ i by first | omega | assumption)))
  refine c_drawnM follows (fun i => (i = gx ∧ w51.heap.size ≤ i) ∨ i = q10) (.look 0 (.look 2 (.look 3 (.look 4 (.look 5 (.look 6 (.act 1 (.act 7 (.look 8 (.act 9 (.act 10 (.look 11 (.act 12 .done .stop)) .stop) .stop)) .stop) (.act 7 (.look 8 (.act 1 (.act 9 (.act 10 (.look 11 (.act 12 .done .stop)) .stop) .stop) (.act 9 (.act 1 (.act 10 (.look 11 (.act 12 .done .stop)) .stop) .stop) .stop))) .stop)))))))) (by kernel_rfl) fun w412 u413 => ?_
  have zu413 := u413.size
  refine go ?_
  refine y_indexArr (j := 3) (6) underlying37 sizeOf23 rfl rfl rfl rfl rfl (by decide) rfl ?_
  refine go ?_
  refine s_or ?_ ?_
  ·
   refine go ?_
   refine x_l fun bk415 w416 ebk415 sbk415 B417 u418 => ?_
   refine go ?_
   refine x_l fun bk420 w421 ebk420 sbk420 B422 u423 => ?_
   refine go ?_
   have D425 := (((hout.keep u413 (fun _ h => h)).keep u418 (fun _ h => h)).keep u423 (fun _ h => h))
   refine t_append (z := .agg #[.slice none 0 0]) (bytes := 24) (k := 1) (base := w51.heap.size) (⟨[seen9 3 b.el b.eh], some ⟨bk415, 0, none⟩, bk415, 0, 1⟩ : HC) underlying34 (by kernel_rfl) rfl (by decide) (fun _ => rfl) (by intro x; simp [encHC, Value.oneCell']) rfl rfl rfl rfl D425 B422 (by omega) (by omega) (by decide) (fun ao426 gb427 cp428 w429 A430 u431 gegb427 lngb427 => ?_)
   have zu431 := u431.size
   have lt_gb427 := A430.lt
   refine go ?_
   refine x_s fun w433 sw433 B435 u434 => ?_
   refine go ?_
   have D437 := (A430.keep u434 (fun hb => show ¬ (gb427 = q10) by first | omega | assumption))
   have B438 := (((B417.kx u423).keep u431 (by omega)).keep u434 (by omega))
   have uR := ((((((Upd.refl (fun i => (i = gx ∧ w51.heap.size ≤ i) ∨ i = q10) w195).nx u413).nx u418).nx u423).next u431 (fun i hi (h : (i = gx ∧ w51.heap.size ≤ i)) => show (i = gx ∧ w51.heap.size ≤ i) ∨ i = q10 by omega)).next u434 (fun i hi (h : i = q10) => show (i = gx ∧ w51.heap.size ≤ i) ∨ i = q10 by omega))
   exact hK194 (3 + 1) ao426 gb427 cp428 (out ++ [(⟨[seen9 3 b.el b.eh], some ⟨bk415, 0, none⟩, bk415, 0, 1⟩ : HC)]) ⟨B435, (by decide), D437, (by rw [osR_app, hos9]; rfl), (by rw [List.length_append, hol]; rfl), (fun h hh => by
     rcases List.mem_append.1 hh with q | q
     · exact ⟨(hoc h q).1.upd uR (fun hb cs hB h9 => h9.elim (hout0.notBlk hB (by decide)) (fun e9 => by omega)), (hoc h q).2⟩
     · rw [List.mem_singleton.1 q]; exact ⟨⟨⟨_, by omega, Acc.ofRaw (cs := [.int .i64 1, .int .i64 3, .int .i64 0, .int .i64 0, .int .i64 b.el, .int .i64 b.eh]) B438 (Nat.le_refl _) (Nat.le_refl _) (by show 1 ≤ maxLen; decide) rfl rfl⟩, rfl⟩, rfl⟩)⟩ (hu := (((((u196.nx u413).nx u418).nx u423).next u431 (fun i hi (h : (i = gx ∧ w51.heap.size ≤ i)) => show i = q10 ∨ w51.heap.size ≤ i by first | omega | assumption)).next u434 (fun i hi (h : i = q10) => show i = q10 ∨ w51.heap.size ≤ i by first | omega | assumption)))
  refine go ?_
  refine x_l fun bk439 w440 ebk439 sbk439 B441 u442 => ?_
  refine go ?_
  refine s_or ?_ ?_
  ·
   refine go ?_
   refine x_l fun bk444 w445 ebk444 sbk444 B446 u447 => ?_
   refine go ?_
   have D449 := (((hout.keep u413 (fun _ h => h)).keep u442 (fun _ h => h)).keep u447 (fun _ h => h))
   refine t_append (z := .agg #[.slice none 0 0]) (bytes := 24) (k := 1) (base := w51.heap.size) (⟨[seen9 3 b.el b.eh], some ⟨bk439, 0, none⟩, bk439, 0, 1⟩ : HC) underlying34 (by kernel_rfl) rfl (by decide) (fun _ => rfl) (by intro x; simp [encHC, Value.oneCell']) rfl rfl rfl rfl D449 B446 (by omega) (by omega) (by decide) (fun ao450 gb451 cp452 w453 A454 u455 gegb451 lngb451 => ?_)
   have zu455 := u455.size
   have lt_gb451 := A454.lt
   refine go ?_
   refine x_s fun w457 sw457 B459 u458 => ?_
   refine go ?_
   have D461 := (A454.keep u458 (fun hb => show ¬ (gb451 = q10) by first | omega | assumption))
   have B462 := (((B441.kx u447).keep u455 (by omega)).keep u458 (by omega))
   have uR := ((((((Upd.refl (fun i => (i = gx ∧ w51.heap.size ≤ i) ∨ i = q10) w195).nx u413).nx u442).nx u447).next u455 (fun i hi (h : (i = gx ∧ w51.heap.size ≤ i)) => show (i = gx ∧ w51.heap.size ≤ i) ∨ i = q10 by omega)).next u458 (fun i hi (h : i = q10) => show (i = gx ∧ w51.heap.size ≤ i) ∨ i = q10 by omega))
   exact hK194 (3 + 1) ao450 gb451 cp452 (out ++ [(⟨[seen9 3 b.el b.eh], some ⟨bk439, 0, none⟩, bk439, 0, 1⟩ : HC)]) ⟨B459, (by decide), D461, (by rw [osR_app, hos9]; rfl), (by rw [List.length_append, hol]; rfl), (fun h hh => by
     rcases List.mem_append.1 hh with q | q
     · exact ⟨(hoc h q).1.upd uR (fun hb cs hB h9 => h9.elim (hout0.notBlk hB (by decide)) (fun e9 => by omega)), (hoc h q).2⟩
     · rw [List.mem_singleton.1 q]; exact ⟨⟨⟨_, by omega, Acc.ofRaw (cs := [.int .i64 1, .int .i64 3, .int .i64 0, .int .i64 0, .int .i64 b.el, .int .i64 b.eh]) B462 (Nat.le_refl _) (Nat.le_refl _) (by show 1 ≤ maxLen; decide) rfl rfl⟩, rfl⟩, rfl⟩)⟩ (hu := (((((u196.nx u413).nx u442).nx u447).next u455 (fun i hi (h : (i = gx ∧ w51.heap.size ≤ i)) => show i = q10 ∨ w51.heap.size ≤ i by first | omega | assumption)).next u458 (fun i hi (h : i = q10) => show i = q10 ∨ w51.heap.size ≤ i by first | omega | assumption)))
  refine go ?_
  refine x_l fun bk463 w464 ebk463 sbk463 B465 u466 => ?_
  refine go ?_
  have D468 := (((hout.keep u413 (fun _ h => h)).keep u442 (fun _ h => h)).keep u466 (fun _ h => h))
  refine t_append (z := .agg #[.slice none 0 0]) (bytes := 24) (k := 1) (base := w51.heap.size) (⟨[seen9 3 b.el b.eh], some ⟨bk439, 0, none⟩, bk439, 0, 1⟩ : HC) underlying34 (by kernel_rfl) rfl (by decide) (fun _ => rfl) (by intro x; simp [encHC, Value.oneCell']) rfl rfl rfl rfl D468 B465 (by omega) (by omega) (by decide) (fun ao469 gb470 cp471 w472 A473 u474 gegb470 lngb470 => ?_)
  have zu474 := u474.size
  have lt_gb470 := A473.lt
  refine go ?_
  refine x_s fun w476 sw476 B478 u477 => ?_
  refine go ?_
  have D480 := (A473.keep u477 (fun hb => show ¬ (gb470 = q10) by first | omega | assumption))
  have B481 := (((B441.kx u466).keep u474 (by omega)).keep u477 (by omega))
  have uR := ((((((Upd.refl (fun i => (i = gx ∧ w51.heap.size ≤ i) ∨ i = q10) w195).nx u413).nx u442).nx u466).next u474 (fun i hi (h : (i = gx ∧ w51.heap.size ≤ i)) => show (i = gx ∧ w51.heap.size ≤ i) ∨ i = q10 by omega)).next u477 (fun i hi (h : i = q10) => show (i = gx ∧ w51.heap.size ≤ i) ∨ i = q10 by omega))
  exact hK194 (3 + 1) ao469 gb470 cp471 (out ++ [(⟨[seen9 3 b.el b.eh], some ⟨bk439, 0, none⟩, bk439, 0, 1⟩ : HC)]) ⟨B478, (by decide), D480, (by rw [osR_app, hos9]; rfl), (by rw [List.length_append, hol]; rfl), (fun h hh => by
    rcases List.mem_append.1 hh with q | q
    · exact ⟨(hoc h q).1.upd uR (fun hb cs hB h9 => h9.elim (hout0.notBlk hB (by decide)) (fun e9 => by omega)), (hoc h q).2⟩
    · rw [List.mem_singleton.1 q]; exact ⟨⟨⟨_, by omega, Acc.ofRaw (cs := [.int .i64 1, .int .i64 3, .int .i64 0, .int .i64 0, .int .i64 b.el, .int .i64 b.eh]) B481 (Nat.le_refl _) (Nat.le_refl _) (by show 1 ≤ maxLen; decide) rfl rfl⟩, rfl⟩, rfl⟩)⟩ (hu := (((((u196.nx u413).nx u442).nx u466).next u474 (fun i hi (h : (i = gx ∧ w51.heap.size ≤ i)) => show i = q10 ∨ w51.heap.size ≤ i by first | omega | assumption)).next u477 (fun i hi (h : i = q10) => show i = q10 ∨ w51.heap.size ≤ i by first | omega | assumption)))
 have hk4 : k = 4 := by omega
 have hol4 : out.length = 4 := by omega
 have hos4 : osR out = os4 a b := by rw [hos9, hk4]; rfl
 refine go ?_
 have hxh483 := (fun h hh => ⟨(hoc h hh).1.upd (Upd.refl (fun i => (i = gx ∧ w51.heap.size ≤ i) ∨ i = q10) w195) (fun hb cs hB h9 => h9.elim (hout.notBlk hB (by decide)) (fun e9 => by omega)), (hoc h hh).2⟩ : ∀ h ∈ out, OptC w51.heap.size w195 h ∧ h.xs.length = 1)
 have B484 := (hq52.keep u196 (show ¬ (q52 = q10 ∨ w51.heap.size ≤ q52) by first | omega | assumption))
 have cah483 : CaM w195 4 ([⟨0, 0⟩] : List Bcl) (some ⟨q52, 0, none⟩) q52 0 out ao gx 0 := ⟨Sl.ofBlk (enc := encBcl) (xs := ([⟨0, 0⟩] : List Bcl)) (fun _ => rfl) B484, (hout.sl (fun _ => rfl)), fun h hh => ⟨(hxh483 h hh).1.sl, (hxh483 h hh).2⟩, ⟨by decide, by decide⟩, (by show 1 ≤ 8; decide), (by omega), (fun b hb => by rw [List.mem_singleton.1 hb]; decide), os4_all hA hB hos4⟩
 refine x_c func8 rfl rfl (haulCase_c 4 ([⟨0, 0⟩] : List Bcl) (some ⟨q52, 0, none⟩) q52 0 1 out ao gx 0 co _ cah483 (by omega)) ?_
 rintro _ w486 ⟨⟨a1h483, g1h483, c1h483, a2h483, g2h483, c2h483, outh483, rfl, x1h483, x2h483, hmh483, hsh483⟩, u487⟩ zu487
 have cbh483 := cah483.cpy (x1h483.sl (fun _ => rfl)) (x2h483.sl (fun _ => rfl)) hmh483 hsh483
 have olh483 : outh483.length = 4 := by have := congrArg List.length hmh483; simp only [List.length_map] at this; omega
 have osh483 : osR outh483 = os4 a b := (osR_xs hmh483).trans hos4
 refine x_l fun bk490 w491 ebk490 sbk490 B492 u493 => ?_
 have D495 := (cbh483.keep u493 (fun _ h => h))
 have tm9 : (List.range 4).map (tmV 4 (List.length ([⟨0, 0⟩] : List Bcl)) (opnW 4 ([⟨0, 0⟩] : List Bcl) (osR outh483))) = ([⟨a.bl, a.bh⟩, ⟨a.el, a.eh⟩, ⟨b.bl, b.bh⟩, ⟨b.el, b.eh⟩] : List Bcl) := by rw [osh483]; exact tm4_eq hA hB
 refine x_c func7 rfl rfl ((Times_c 4 ([⟨0, 0⟩] : List Bcl) a1h483 g1h483 0 c1h483 outh483 a2h483 g2h483 0 c2h483 [0, 0, 0, 0] (some ⟨bk490, 0, none⟩) bk490 0 4 _ D495 (SlI.own (xs := [0, 0, 0, 0]) B492) (by simp) (by rw [olh483]; rfl) (by rw [osh483]; exact lst4_ok hA hB) (by omega) (by rw [osh483]; exact fit4 hA hB)).mono fun v w h => by rw [tm9] at h; exact h) ?_
 rintro _ w497 ⟨⟨aT, gT, cT, rfl, hT⟩, u498⟩ zu498
 have lt_gT := hT.lt
 refine go ?_
 have hxh502 := (fun h hh => ⟨(hoc h hh).1.upd ((((Upd.refl (fun i => (i = gx ∧ w51.heap.size ≤ i) ∨ i = q10) w195).nx u487).nx u493).nx u498) (fun hb cs hB h9 => h9.elim (hout.notBlk hB (by decide)) (fun e9 => by omega)), (hoc h hh).2⟩ : ∀ h ∈ out, OptC w51.heap.size w497 h ∧ h.xs.length = 1)
 have B503 := (((B484.kx u487).kx u493).kx u498)
 have D504 := (((hout.keep u487 (fun _ h => h)).keep u493 (fun _ h => h)).keep u498 (fun _ h => h))
 have cah502 : CaM w497 4 ([⟨0, 0⟩] : List Bcl) (some ⟨q52, 0, none⟩) q52 0 out ao gx 0 := ⟨Sl.ofBlk (enc := encBcl) (xs := ([⟨0, 0⟩] : List Bcl)) (fun _ => rfl) B503, (D504.sl (fun _ => rfl)), fun h hh => ⟨(hxh502 h hh).1.sl, (hxh502 h hh).2⟩, ⟨by decide, by decide⟩, (by show 1 ≤ 8; decide), (by omega), (fun b hb => by rw [List.mem_singleton.1 hb]; decide), os4_all hA hB hos4⟩
 refine x_c func8 rfl rfl (haulCase_c 4 ([⟨0, 0⟩] : List Bcl) (some ⟨q52, 0, none⟩) q52 0 1 out ao gx 0 co _ cah502 (by omega)) ?_
 rintro _ w506 ⟨⟨a1h502, g1h502, c1h502, a2h502, g2h502, c2h502, outh502, rfl, x1h502, x2h502, hmh502, hsh502⟩, u507⟩ zu507
 have cbh502 := cah502.cpy (x1h502.sl (fun _ => rfl)) (x2h502.sl (fun _ => rfl)) hmh502 hsh502
 have olh502 : outh502.length = 4 := by have := congrArg List.length hmh502; simp only [List.length_map] at this; omega
 have osh502 : osR outh502 = os4 a b := (osR_xs hmh502).trans hos4
 refine x_l fun bk510 w511 ebk510 sbk510 B512 u513 => ?_
 have D515 := (cbh502.keep u513 (fun _ h => h))
 have bt1 : -nth (rchW (1 + 4 + List.length ([⟨0, 0⟩] : List Bcl)) (opnW 4 ([⟨0, 0⟩] : List Bcl) (osR outh502)) (1 + 1)).m (1 + 0 : Int).toNat = a.el - a.bh := by
   rw [osh502]
   have h9 : nth (rchW 6 (lst4 a b) 2).m 1 = -a.el + a.bh := (lo2 hA hB).2
   show -nth (rchW 6 (lst4 a b) 2).m 1 = _
   omega
 have bt2 : nth (rchW (1 + 4 + List.length ([⟨0, 0⟩] : List Bcl)) (opnW 4 ([⟨0, 0⟩] : List Bcl) (osR outh502)) (1 + 0)).m (1 + 1 : Int).toNat = a.eh - a.bl := by
   rw [osh502]
   have h9 : nth (rchW 6 (lst4 a b) 1).m 2 = -a.bl + a.eh := (lo1 hA hB).2
   show nth (rchW 6 (lst4 a b) 1).m 2 = _
   omega
 refine x_c func9 rfl rfl ((Between_c 4 ([⟨0, 0⟩] : List Bcl) a1h502 g1h502 0 c1h502 outh502 a2h502 g2h502 0 c2h502 [0, 0, 0, 0] (some ⟨bk510, 0, none⟩) bk510 0 4 0 1 _ D515 (SlI.own (xs := [0, 0, 0, 0]) B512) (by simp) (by rw [olh502]; rfl) (by rw [osh502]; exact lst4_ok hA hB) (by omega) (by rw [osh502]; exact fit4 hA hB) (by decide) (by decide)).mono fun v w h => by rw [bt1, bt2] at h; exact h) ?_
 rintro _ w517 ⟨rfl, u518⟩ zu518
 clear bt1 bt2 tm9
 refine go ?_
 refine x_n fun bk521 w522 ebk521 sbk521 B523 u524 => ?_
 refine x_s fun w526 sw526 B528 u527 => ?_
 refine go ?_
 refine c_drawnM follows (fun _ => False) (OTl [0, 2, 4, 6, 8, 10, 12, 14, 16, 18, 20, 22, 24, 26, 28, 30, 32, 34, 36, 38, 40, 42, 44, 46, 48, 50, 52, 54, 56, 58, 60, 62, 64, 66, 68, 70, 72, 74, 76, 78, 80, 82, 84, 86, 88, 90, 92, 94, 96, 98, 100, 102, 104, 106, 108, 110, 112, 114, 116, 118, 120, 122]) (by kernel_rfl) fun w532 u533 => ?_
 have zu533 := u533.size
 iterate 12 refine st1 ?_
 refine y_same 104 (v := .bool false) rfl (congrArg Value.bool (decide_eq_false (fun h => h rfl))) ?_
 refine go ?_
 have D535 := ((((((hT.keep u507 (fun _ h => h)).keep u513 (fun _ h => h)).keep u518 (fun _ h => h)).keep u524 (fun _ h => h)).keep u527 (fun hb => show ¬ (gT = bk521) by first | omega | assumption)).keep u533 (fun _ h => h))
 have i536 : 0 < ([⟨a.bl, a.bh⟩, ⟨a.el, a.eh⟩, ⟨b.bl, b.bh⟩, ⟨b.el, b.eh⟩] : List Bcl).length := (by show (0 : Nat) < 4; decide)
 refine y_i 0 (D535.sl (fun _ => rfl)) (fun _ => ?_) (hl := i536) (hm := i536)
 refine st1 ?_
 refine y_same 107 (v := .agg #[.int .i64 a.bl, .int .i64 a.bh]) rfl rfl ?_
 refine go ?_
 refine y_neS (xs := [.int .i64 a.bl, .int .i64 a.bh]) (ys := [.int .i64 a.bl, .int .i64 a.bh]) (by kernel_rfl) (eqIn23 9998 a.bl a.bh a.bl a.bh) rfl rfl rfl rfl (y_samehd (v := .bool false) (by simp) ?_)
 refine go ?_
 have i537 : 1 < ([⟨a.bl, a.bh⟩, ⟨a.el, a.eh⟩, ⟨b.bl, b.bh⟩, ⟨b.el, b.eh⟩] : List Bcl).length := (by show (1 : Nat) < 4; decide)
 refine y_i 1 (D535.sl (fun _ => rfl)) (fun _ => ?_) (hl := i537) (hm := i537)
 refine st1 ?_
 refine y_same 115 (v := .agg #[.int .i64 a.el, .int .i64 a.eh]) rfl rfl ?_
 refine go ?_
 refine y_neS (xs := [.int .i64 a.el, .int .i64 a.eh]) (ys := [.int .i64 a.el, .int .i64 a.eh]) (by kernel_rfl) (eqIn23 9998 a.el a.eh a.el a.eh) rfl rfl rfl rfl (y_samehd (v := .bool false) (by simp) ?_)
 refine go ?_
 have i538 : 2 < ([⟨a.bl, a.bh⟩, ⟨a.el, a.eh⟩, ⟨b.bl, b.bh⟩, ⟨b.el, b.eh⟩] : List Bcl).length := (by show (2 : Nat) < 4; decide)
 refine y_i 2 (D535.sl (fun _ => rfl)) (fun _ => ?_) (hl := i538) (hm := i538)
 refine st1 ?_
 refine y_same 123 (v := .agg #[.int .i64 b.bl, .int .i64 b.bh]) rfl rfl ?_
 refine go ?_
 refine y_neS (xs := [.int .i64 b.bl, .int .i64 b.bh]) (ys := [.int .i64 b.bl, .int .i64 b.bh]) (by kernel_rfl) (eqIn23 9998 b.bl b.bh b.bl b.bh) rfl rfl rfl rfl (y_samehd (v := .bool false) (by simp) ?_)
 refine go ?_
 have i539 : 3 < ([⟨a.bl, a.bh⟩, ⟨a.el, a.eh⟩, ⟨b.bl, b.bh⟩, ⟨b.el, b.eh⟩] : List Bcl).length := (by show (3 : Nat) < 4; decide)
 refine y_i 3 (D535.sl (fun _ => rfl)) (fun _ => ?_) (hl := i539) (hm := i539)
 refine st1 ?_
 refine y_same 131 (v := .agg #[.int .i64 b.el, .int .i64 b.eh]) rfl rfl ?_
 refine go ?_
 refine y_neS (xs := [.int .i64 b.el, .int .i64 b.eh]) (ys := [.int .i64 b.el, .int .i64 b.eh]) (by kernel_rfl) (eqIn23 9998 b.el b.eh b.el b.eh) rfl rfl rfl rfl (y_samehd (v := .bool false) (by simp) ?_)
 refine go ?_
 refine y_neS (xs := [.int .i64 (a.el - a.bh), .int .i64 (a.eh - a.bl)]) (ys := [.int .i64 (a.el - a.bh), .int .i64 (a.eh - a.bl)]) (by kernel_rfl) (eqIn23 9998 (a.el - a.bh) (a.eh - a.bl) (a.el - a.bh) (a.eh - a.bl)) rfl rfl rfl rfl (y_samehd (v := .bool false) (by simp) ?_)
 refine go ?_
 refine x_n fun bk541 w542 ebk541 sbk541 B543 u544 => ?_
 refine x_s fun w546 sw546 B548 u547 => ?_
 refine go ?_
 refine x_l fun bk551 w552 ebk551 sbk551 B553 u554 => ?_
 refine go ?_
 refine x_l fun bk556 w557 ebk556 sbk556 B558 u559 => ?_
 refine go ?_
 refine x_l fun bk561 w562 ebk561 sbk561 B563 u564 => ?_
 refine t_same 166 (v := .slice (some ⟨bk561, 0, none⟩) (([(⟨[gap9 2 1], some ⟨bk551, 0, none⟩, bk551, 0, 1⟩ : HC), (⟨[gap9 0 3], some ⟨bk556, 0, none⟩, bk556, 0, 1⟩ : HC)] : List HC).length) 2) rfl rfl ?_
 have D566 := (((((((((((D504.keep u507 (fun _ h => h)).keep u513 (fun _ h => h)).keep u518 (fun _ h => h)).keep u524 (fun _ h => h)).keep u527 (fun hb => show ¬ (gx = bk521) by first | omega | assumption)).keep u533 (fun _ h => h)).keep u544 (fun _ h => h)).keep u547 (fun hb => show ¬ (gx = bk541) by first | omega | assumption)).keep u554 (fun _ h => h)).keep u559 (fun _ h => h)).keep u564 (fun _ h => h))
 refine t_appendAll (enc := encHC) (z := .agg #[.slice none 0 0]) (bytes := 24) (k := 1) (base := w51.heap.size) (xs := out) (ys := ([(⟨[gap9 2 1], some ⟨bk551, 0, none⟩, bk551, 0, 1⟩ : HC), (⟨[gap9 0 3], some ⟨bk556, 0, none⟩, bk556, 0, 1⟩ : HC)] : List HC)) underlying34 (by kernel_rfl) rfl (by decide) (fun _ => rfl) (by intro x; simp [encHC, Value.oneCell']) rfl rfl rfl rfl D566 (Sl.ofBlk (enc := encHC) (xs := ([(⟨[gap9 2 1], some ⟨bk551, 0, none⟩, bk551, 0, 1⟩ : HC), (⟨[gap9 0 3], some ⟨bk556, 0, none⟩, bk556, 0, 1⟩ : HC)] : List HC)) (fun _ => rfl) B563) (by omega) (by omega) (by show (2 : Nat) ≤ 1000000; decide) (by decide) (fun ao567 gb568 cp569 w570 A571 u572 gegb568 lngb568 => ?_)
 have zu572 := u572.size
 have lt_gb568 := A571.lt
 refine go ?_
 refine x_s fun w574 sw574 B576 u575 => ?_
 refine go ?_
 refine x_l fun bk579 w580 ebk579 sbk579 B581 u582 => ?_
 have hx6 := (fun h hh => ⟨(hoc h hh).1.upd ((((((((((((((((((Upd.refl (fun i => (i = gx ∧ w51.heap.size ≤ i) ∨ i = q10) w195).nx u487).nx u493).nx u498).nx u507).nx u513).nx u518).nx u524).next u527 (fun i hi (h : i = bk521) => show (i = gx ∧ w51.heap.size ≤ i) ∨ i = q10 by omega)).nx u533).nx u544).next u547 (fun i hi (h : i = bk541) => show (i = gx ∧ w51.heap.size ≤ i) ∨ i = q10 by omega)).nx u554).nx u559).nx u564).next u572 (fun i hi (h : (i = gx ∧ w51.heap.size ≤ i)) => show (i = gx ∧ w51.heap.size ≤ i) ∨ i = q10 by omega)).next u575 (fun i hi (h : i = q10) => show (i = gx ∧ w51.heap.size ≤ i) ∨ i = q10 by omega)).nx u582) (fun hb cs hB h9 => h9.elim (hout.notBlk hB (by decide)) (fun e9 => by omega)), (hoc h hh).2⟩ : ∀ h ∈ out, OptC w51.heap.size w580 h ∧ h.xs.length = 1)
 have B584 := (((((B553.kx u559).kx u564).keep u572 (by omega)).keep u575 (by omega)).kx u582)
 have B585 := ((((B558.kx u564).keep u572 (by omega)).keep u575 (by omega)).kx u582)
 have B586 := ((((((((((((((B503.kx u507).kx u513).kx u518).kx u524).keep u527 (by omega)).kx u533).kx u544).keep u547 (by omega)).kx u554).kx u559).kx u564).keep u572 (by omega)).keep u575 (by omega)).kx u582)
 have D587 := ((A571.keep u575 (fun hb => show ¬ (gb568 = q10) by first | omega | assumption)).keep u582 (fun _ h => h))
 have ca6 : CaM w580 4 ([⟨0, 0⟩] : List Bcl) (some ⟨q52, 0, none⟩) q52 0 (out ++ ([(⟨[gap9 2 1], some ⟨bk551, 0, none⟩, bk551, 0, 1⟩ : HC), (⟨[gap9 0 3], some ⟨bk556, 0, none⟩, bk556, 0, 1⟩ : HC)] : List HC)) ao567 gb568 0 := ⟨Sl.ofBlk (enc := encBcl) (xs := ([⟨0, 0⟩] : List Bcl)) (fun _ => rfl) B586, (D587.sl (fun _ => rfl)), (memA (x := (⟨[gap9 2 1], some ⟨bk551, 0, none⟩, bk551, 0, 1⟩ : HC)) (y := (⟨[gap9 0 3], some ⟨bk556, 0, none⟩, bk556, 0, 1⟩ : HC)) (fun h hh => ⟨(hx6 h hh).1.sl, (hx6 h hh).2⟩) ⟨Sl.ofBlk (enc := encOpt) (xs := [gap9 2 1]) (fun _ => rfl) B584, rfl⟩ ⟨Sl.ofBlk (enc := encOpt) (xs := [gap9 0 3]) (fun _ => rfl) B585, rfl⟩), ⟨by decide, by decide⟩, (by show 1 ≤ 8; decide), (by rw [List.length_append]; show _ + 2 ≤ 20; omega), (fun b hb => by rw [List.mem_singleton.1 hb]; decide), (memA (x := (⟨[gap9 2 1], some ⟨bk551, 0, none⟩, bk551, 0, 1⟩ : HC)) (y := (⟨[gap9 0 3], some ⟨bk556, 0, none⟩, bk556, 0, 1⟩ : HC)) (os4_all hA hB hos4) (okg (n := 4) (by omega)) (okg (n := 4) (by omega)))⟩
 have os6 : opnW 4 ([⟨0, 0⟩] : List Bcl) (osR (out ++ ([(⟨[gap9 2 1], some ⟨bk551, 0, none⟩, bk551, 0, 1⟩ : HC), (⟨[gap9 0 3], some ⟨bk556, 0, none⟩, bk556, 0, 1⟩ : HC)] : List HC))) = lst6 a b := by rw [osR_app2, hos4]; rfl
 have fin6 : (rchW (1 + 4 + List.length ([⟨0, 0⟩] : List Bcl)) (opnW 4 ([⟨0, 0⟩] : List Bcl) (osR (out ++ ([(⟨[gap9 2 1], some ⟨bk551, 0, none⟩, bk551, 0, 1⟩ : HC), (⟨[gap9 0 3], some ⟨bk556, 0, none⟩, bk556, 0, 1⟩ : HC)] : List HC)))) (-1)).ring < 0 ↔ (b.bl < a.eh ∧ a.bl < b.eh) := by rw [os6]; exact ⟨fun h => no6 hA hB h, fun h => fit6 hA hB h.1 h.2⟩
 have k1 : ru9 = 1 ↔ (rchW (1 + 4 + List.length ([⟨0, 0⟩] : List Bcl)) (opnW 4 ([⟨0, 0⟩] : List Bcl) (osR (out ++ ([(⟨[gap9 2 1], some ⟨bk551, 0, none⟩, bk551, 0, 1⟩ : HC), (⟨[gap9 0 3], some ⟨bk556, 0, none⟩, bk556, 0, 1⟩ : HC)] : List HC)))) (-1)).ring < 0 := by
   rw [fin6]
   rcases hov with ⟨q1, q2, q3, q4⟩ | ⟨q1, q2, q3⟩
   · exact ⟨fun _ => ⟨q3, q4⟩, fun _ => by omega⟩
   · exact ⟨fun h => by omega, fun h => absurd h q3⟩
 have k2 : at9 = 1 ↔ (rchW (1 + 4 + List.length ([⟨0, 0⟩] : List Bcl)) (opnW 4 ([⟨0, 0⟩] : List Bcl) (osR (out ++ ([(⟨[gap9 2 1], some ⟨bk551, 0, none⟩, bk551, 0, 1⟩ : HC), (⟨[gap9 0 3], some ⟨bk556, 0, none⟩, bk556, 0, 1⟩ : HC)] : List HC)))) (-1)).ring < 0 := by
   rw [fin6]
   rcases hov with ⟨q1, q2, q3, q4⟩ | ⟨q1, q2, q3⟩
   · exact ⟨fun _ => ⟨q3, q4⟩, fun _ => by omega⟩
   · exact ⟨fun h => by omega, fun h => absurd h q3⟩
 refine x_c func10 rfl rfl (Possible_c 4 ([⟨0, 0⟩] : List Bcl) (some ⟨q52, 0, none⟩) q52 0 1 (out ++ ([(⟨[gap9 2 1], some ⟨bk551, 0, none⟩, bk551, 0, 1⟩ : HC), (⟨[gap9 0 3], some ⟨bk556, 0, none⟩, bk556, 0, 1⟩ : HC)] : List HC)) ao567 gb568 0 cp569 [0, 0, 0, 0, 0, 0] (some ⟨bk579, 0, none⟩) bk579 0 6 _ ca6 (SlI.own (xs := [0, 0, 0, 0, 0, 0]) B581) (by simp) (by rw [List.length_append, hol4]; rfl) (by rw [os6]; exact lst6_ok hA hB) (by omega)) ?_
 rintro _ w589 ⟨rfl, u590⟩ zu590
 clear os6 fin6
 refine go ?_
 refine t_eqB underlying4 rfl rfl rfl rfl (t_same 181 (v := .bool true) rfl (congrArg Value.bool (by first | exact bq1 k1 | exact bq2 k1)) ?_)
 refine go ?_
 refine t_splitp 186 rfl (fun g186 => ?_) (fun g186 => ?_)
 ·
  refine go ?_
  refine t_eqB underlying4 rfl rfl rfl rfl (t_same 195 (v := .bool true) rfl (congrArg Value.bool (by first | exact bq1 k2 | exact bq2 k2)) ?_)
  refine go ?_
  refine x_c func5 rfl rfl (knownSeen_c _) ?_
  rintro _ w595 ⟨rfl, u596⟩ zu596
  refine go ?_
  refine x_c func6 rfl rfl (knownCrew_c _) ?_
  rintro _ w600 ⟨rfl, u601⟩ zu601
  refine go ?_
  refine f_1 results3 ?_
  exact ⟨rfl, u_d⟩
 iterate 2 refine st1 ?_
 refine t_same 188 (v := .bool true) rfl (congrArg Value.bool (decide_eq_true (by omega))) ?_
 refine go ?_
 refine t_eqB underlying4 rfl rfl rfl rfl (t_same 195 (v := .bool true) rfl (congrArg Value.bool (by first | exact bq1 k2 | exact bq2 k2)) ?_)
 refine go ?_
 refine x_c func5 rfl rfl (knownSeen_c _) ?_
 rintro _ w605 ⟨rfl, u606⟩ zu606
 refine go ?_
 refine x_c func6 rfl rfl (knownCrew_c _) ?_
 rintro _ w610 ⟨rfl, u611⟩ zu611
 refine go ?_
 refine f_1 results3 ?_
 exact ⟨rfl, u_d⟩

end Go.Proofs.YtbcedieodibehaaGreat
