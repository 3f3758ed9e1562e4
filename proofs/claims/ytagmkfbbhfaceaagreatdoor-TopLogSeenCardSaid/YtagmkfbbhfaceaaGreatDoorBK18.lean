/-
  Part 18 of the proof: contracts and plain laws. Conditions: none.
-/
import Derived.Test.YtagmkfbbhfaceaaGreatDoorBK17
namespace Go.Proofs.YtagmkfbbhfaceaaGreatDoor
open Go Go.RowKit Go.Proofs.Tryz
set_option maxRecDepth 10000

/-! The document's example -/
def lstK : List Lnk := [⟨0, 1, 1000000⟩, ⟨1, 0, 0⟩, ⟨0, 2, 1000000⟩, ⟨2, 0, 0⟩, ⟨1, 2, 30⟩, ⟨2, 1, -20⟩, ⟨1, 2, 12⟩, ⟨2, 1, -10⟩]
def gapK (lo hi : Int) : Opt := ⟨2, 1, 0, 0, lo, hi⟩
theorem webK : opnW 2 [] [gapK 20 30, gapK 10 12] = lstK := rfl
theorem rchK : rchW 3 lstK (-1) = ⟨[-28, -36, -24], [1, 5, 6], 2⟩ := by kernel_rfl
theorem lstK_ok : ∀ l ∈ lstK, okLnk 3 l := by
  intro l hl
  unfold lstK at hl
  simp only [List.mem_cons, List.not_mem_nil, or_false] at hl
  unfold okLnk
  rcases hl with rfl | rfl | rfl | rfl | rfl | rfl | rfl | rfl <;> dsimp only <;> omega
theorem okg {n m : Nat} {e a lo hi : Int} (h : (0 ≤ e ∧ e ≤ (n : Int) - 1) ∧ (lo ≤ hi ∧ -2000000 ≤ lo ∧ hi ≤ 2000000) ∧ (0 ≤ a ∧ a ≤ (n : Int) - 1) ∧ a ≠ e) : okOptP n m ⟨2, e, 0, a, lo, hi⟩ := by
  unfold okOptP; dsimp only; omega
theorem memS {α : Type} {P : α → Prop} {l : List α} {x : α} (h : ∀ y ∈ l, P y) (hx : P x) : ∀ y ∈ l ++ [x], P y := fun y hy => (List.mem_append.1 hy).elim (h y) fun q => by rw [List.mem_singleton.1 q]; exact hx
theorem memN {α : Type} {P : α → Prop} : ∀ y ∈ ([] : List α), P y := fun y hy => by cases hy
theorem reachK_c (pg : Nat) (ac : Option Addr) (cc : Nat) (ar : Option Addr) (q cr : Nat) (ao : Option Addr) (ga oa ca : Nat) (w0 : World) (hgb : Blk w0 pg 188 [.int .i64 2, .slice ac 0 cc, .slice ar q cr, .slice ao 8 ca]) (hxs : Sl encLnk 3 w0 ao ga oa lstK) : CallsV Tryz.prog 81 [.pointer (some ⟨pg, 0, none⟩), .int .i64 (-1)] w0 (fun v w' => (∃ al gl cl ab gb cb, v = .tuple #[.slice al 3 cl, .slice ab 3 cb, .int .i64 2] ∧ Acc encI 1 3 w0.heap.size w' al gl cl [-28, -36, -24] ∧ Acc encI 1 3 w0.heap.size w' ab gb cb [1, 5, 6]) ∧ Ext w0 w') :=
  (reach_c pg 2 ac 0 cc ar q cr ao ga oa ca lstK (-1) w0 hgb hxs lstK_ok (by decide) (by decide) (by decide)).mono fun v w' h => by
    have e : rchW (1 + 2 + 0) lstK (-1) = ⟨[-28, -36, -24], [1, 5, 6], 2⟩ := rchK
    rw [e] at h; exact h
set_option maxHeartbeats 4000000 in
theorem ringK_c (pg : Nat) (ac : Option Addr) (cc : Nat) (ar : Option Addr) (q cr : Nat) (ao : Option Addr) (ga oa ca : Nat) (w0 : World) (hgb : Blk w0 pg 188 [.int .i64 2, .slice ac 0 cc, .slice ar q cr, .slice ao 8 ca]) (hxs : Sl encLnk 3 w0 ao ga oa lstK) (hpos : 0 < w0.heap.size) :
    CallsV Tryz.prog 69 [.pointer (some ⟨pg, 0, none⟩)] w0 (fun v w' => (∃ al gl cl, v = .slice al 2 cl ∧ Acc encLnk 3 102 w0.heap.size w' al gl cl [⟨1, 2, 12⟩, ⟨2, 1, -20⟩]) ∧ Ext w0 w') := by
 have hpgl := hgb.lt
 refine f_n func69 ?_
 refine go ?_
 refine x_c func81 rfl rfl (reachK_c pg ac cc ar q cr ao ga oa ca _ hgb hxs) ?_
 rintro _ w4 ⟨⟨al, gl, cl, ab, gb, cb, rfl, hAl, hAb⟩, u5⟩ zu5
 have lt_gl := hAl.lt
 have lt_gb := hAb.lt
 refine go ?_
 have B12 := (hgb.kx u5)
 refine x_c func120 rfl rfl (many_c pg 2 ac 0 cc ar q cr ao 8 ca _ B12 (by decide)) ?_
 rintro _ w14 ⟨rfl, u15⟩ zu15
 refine go ?_
 refine c_rounds 4 (WR.weak [(0, .pointer (some ⟨pg, 0, none⟩)), (2, .slice none 0 0), (4, .slice ab 3 cb), (5, .int .i64 2), (17, .int .i64 3), (18, .int .i64 0)] ⟨rfl, rfl, rfl, rfl, rfl, rfl, trivial⟩ (r_round fun K18 hK18 => (q_of ?_)))
 refine go ?_
 refine c_drawnM follows (fun _ => False) (OTl [0, 2, 4, 6, 8, 10, 12, 14, 16, 18, 20, 22]) (by kernel_rfl) fun w22 u23 => ?_
 have zu23 := u23.size
 have E24 := Sc.mk ((((Upd.refl (fun _ => False) w0).nx u5).nx u15).nx u23)
 refine go ?_
 have D25 := ((hAb.keep u15 (fun _ h => h)).keep u23 (fun _ h => h))
 have i26 : 2 < ([1, 5, 6] : List Int).length := (by decide)
 refine y_i 2 (D25.sl (fun _ => rfl)) (fun _ => ?_)
 refine st1 ?_
 refine y_same 27 (v := .int .i64 6) rfl rfl ?_
 have i27 : 6 < lstK.length := (by decide)
 refine y_i 6 (hxs.keep E24.u (fun _ h => h)) (fun _ => ?_)
 iterate 2 refine st1 ?_
 refine y_same 30 (v := .int .i64 1) rfl rfl ?_
 refine go ?_
 refine hK18 _ _ (WR.weak [(0, .pointer (some ⟨pg, 0, none⟩)), (2, .slice none 0 0), (4, .slice ab 3 cb), (5, .int .i64 1), (17, .int .i64 3), (18, .int .i64 1)] ⟨rfl, rfl, rfl, rfl, rfl, rfl, trivial⟩ (r_round fun K28 hK28 => (q_of ?_)))
 refine go ?_
 refine c_drawnM follows (fun _ => False) (OTl [0, 2, 4, 6, 8, 10, 12, 14, 16, 18, 20, 22]) (by kernel_rfl) fun w32 u33 => ?_
 have zu33 := u33.size
 have E34 := Sc.mk (E24.u.nx u33)
 refine go ?_
 have D35 := (D25.keep u33 (fun _ h => h))
 have i36 : 1 < ([1, 5, 6] : List Int).length := (by decide)
 refine y_i 1 (D35.sl (fun _ => rfl)) (fun _ => ?_)
 refine st1 ?_
 refine y_same 27 (v := .int .i64 5) rfl rfl ?_
 have i37 : 5 < lstK.length := (by decide)
 refine y_i 5 (hxs.keep E34.u (fun _ h => h)) (fun _ => ?_)
 iterate 2 refine st1 ?_
 refine y_same 30 (v := .int .i64 2) rfl rfl ?_
 refine go ?_
 refine hK28 _ _ (WR.weak [(0, .pointer (some ⟨pg, 0, none⟩)), (2, .slice none 0 0), (4, .slice ab 3 cb), (5, .int .i64 2), (17, .int .i64 3), (18, .int .i64 2)] ⟨rfl, rfl, rfl, rfl, rfl, rfl, trivial⟩ (r_round fun K38 hK38 => (q_of ?_)))
 refine go ?_
 refine c_drawnM follows (fun _ => False) (OTl [0, 2, 4, 6, 8, 10, 12, 14, 16, 18, 20, 22]) (by kernel_rfl) fun w42 u43 => ?_
 have zu43 := u43.size
 have E44 := Sc.mk (E34.u.nx u43)
 refine go ?_
 have D45 := (D35.keep u43 (fun _ h => h))
 have i46 : 2 < ([1, 5, 6] : List Int).length := (by decide)
 refine y_i 2 (D45.sl (fun _ => rfl)) (fun _ => ?_)
 refine st1 ?_
 refine y_same 27 (v := .int .i64 6) rfl rfl ?_
 have i47 : 6 < lstK.length := (by decide)
 refine y_i 6 (hxs.keep E44.u (fun _ h => h)) (fun _ => ?_)
 iterate 2 refine st1 ?_
 refine y_same 30 (v := .int .i64 1) rfl rfl ?_
 refine go ?_
 refine hK38 _ _ (WR.weak [(0, .pointer (some ⟨pg, 0, none⟩)), (2, .slice none 0 0), (4, .slice ab 3 cb), (5, .int .i64 1), (17, .int .i64 3), (18, .int .i64 3)] ⟨rfl, rfl, rfl, rfl, rfl, rfl, trivial⟩ (r_round fun K48 hK48 => (q_of ?_)))
 refine go ?_
 refine c_rounds 3 (WR.weak [(0, .pointer (some ⟨pg, 0, none⟩)), (2, .slice none 0 0), (4, .slice ab 3 cb), (5, .int .i64 1), (6, .int .i64 1)] ⟨rfl, rfl, rfl, rfl, rfl, trivial⟩ (r_round fun K53 hK53 => (q_of ?_)))
 iterate 5 refine st1 ?_
 refine t_same 34 (v := .int .i64 0) rfl rfl ?_
 refine st1 ?_
 refine t_same 35 (v := .bool true) rfl rfl ?_
 refine go ?_
 refine c_drawnM follows (fun _ => False) (OTl [0, 2, 4, 6, 8, 10, 12, 14, 16, 18, 21, 23]) (by kernel_rfl) fun w57 u58 => ?_
 have zu58 := u58.size
 have E59 := Sc.mk (E44.u.nx u58)
 refine go ?_
 have D60 := (D45.keep u58 (fun _ h => h))
 have i61 : 1 < ([1, 5, 6] : List Int).length := (by decide)
 refine y_i 1 (D60.sl (fun _ => rfl)) (fun _ => ?_)
 refine st1 ?_
 refine y_same 48 (v := .int .i64 5) rfl rfl ?_
 have i62 : 5 < lstK.length := (by decide)
 refine y_i 5 (hxs.keep E59.u (fun _ h => h)) (fun _ => ?_)
 refine st1 ?_
 refine y_same 50 (v := .agg #[.int .i64 2, .int .i64 1, .int .i64 (-20)]) rfl rfl ?_
 refine go ?_
 refine x_n fun bk63 w64 ebk63 sbk63 B65 u66 => ?_
 refine go ?_
 refine x_s fun w68 sw68 B70 u69 => ?_
 refine go ?_
 refine c_drawnM follows (fun _ => False) (OTl [0, 4, 8, 10, 3, 7, 12, 14]) (by kernel_rfl) fun w72 u73 => ?_
 have zu73 := u73.size
 iterate 2 refine st1 ?_
 refine y_same 53 (v := .slice none 0 0) rfl rfl ?_
 refine go ?_
 refine x_l fun bk75 w76 ebk75 sbk75 B77 u78 => ?_
 refine go ?_
 refine t_appLit (enc := encLnk) (z := .agg #[.int .i64 0, .int .i64 0, .int .i64 0]) (bytes := 24) (k := 3) (xs := ([⟨2, 1, (-20)⟩] : List Lnk)) (ys := ([] : List Lnk)) underlying98 (by kernel_rfl) rfl (by decide) (fun _ => rfl) (by intro x; simp [encLnk, Value.oneCell']) rfl rfl rfl rfl B77 (Sl.nil _ _ _ _ 0 0) (by first | decide | simp) (by show _ ≤ 1000000; decide) (by decide) (fun ao80 gb81 cp82 w83 A84 u85 gegb81 => ?_)
 have zu85 := u85.size
 have lt_gb81 := A84.lt
 refine go ?_
 refine hK53 _ _ (WR.weak [(0, .pointer (some ⟨pg, 0, none⟩)), (2, .slice ao80 (((([⟨2, 1, (-20)⟩] : List Lnk) ++ ([] : List Lnk))).length) cp82), (4, .slice ab 3 cb), (5, .int .i64 1), (6, .int .i64 2)] ⟨rfl, rfl, rfl, rfl, rfl, trivial⟩ (r_round fun K87 hK87 => (q_of ?_)))
 iterate 5 refine st1 ?_
 refine t_same 34 (v := .int .i64 1) rfl rfl ?_
 refine st1 ?_
 refine t_same 35 (v := .bool false) rfl rfl ?_
 iterate 4 refine st1 ?_
 refine t_same 39 (v := .bool true) rfl rfl ?_
 refine go ?_
 refine c_drawnM follows (fun _ => False) (OTl [0, 2, 4, 6, 8, 10, 12, 14, 16, 18, 21, 23]) (by kernel_rfl) fun w91 u92 => ?_
 have zu92 := u92.size
 refine go ?_
 have D94 := ((((((D60.keep u66 (fun _ h => h)).keep u69 (fun hb => show ¬ (gb = bk63) by first | omega | assumption)).keep u73 (fun _ h => h)).keep u78 (fun _ h => h)).keep u85 (fun hb => show ¬ ((gb = bk75 ∧ bk75 ≤ gb)) by first | omega | assumption)).keep u92 (fun _ h => h))
 have i95 : 2 < ([1, 5, 6] : List Int).length := (by decide)
 refine y_i 2 (D94.sl (fun _ => rfl)) (fun _ => ?_)
 refine st1 ?_
 refine y_same 48 (v := .int .i64 6) rfl rfl ?_
 have i96 : 6 < lstK.length := (by decide)
 refine y_i 6 (hxs.keep ((((((E59.u.nx u66).next u69 (fun i hi h => by omega)).nx u73).nx u78).next u85 (fun i hi h => by omega)).nx u92) (fun _ h => h)) (fun _ => ?_)
 refine st1 ?_
 refine y_same 50 (v := .agg #[.int .i64 1, .int .i64 2, .int .i64 12]) rfl rfl ?_
 refine go ?_
 refine x_n fun bk97 w98 ebk97 sbk97 B99 u100 => ?_
 refine go ?_
 refine x_s fun w102 sw102 B104 u103 => ?_
 refine go ?_
 refine c_drawnM follows (fun _ => False) (OTl [0, 4, 8, 10, 3, 7, 12, 14]) (by kernel_rfl) fun w106 u107 => ?_
 have zu107 := u107.size
 iterate 2 refine st1 ?_
 refine y_same 53 (v := .slice ao80 (((([⟨2, 1, (-20)⟩] : List Lnk) ++ ([] : List Lnk))).length) cp82) rfl rfl ?_
 refine go ?_
 refine x_l fun bk109 w110 ebk109 sbk109 B111 u112 => ?_
 refine go ?_
 have D114 := (((((A84.keep u92 (fun _ h => h)).keep u100 (fun _ h => h)).keep u103 (fun hb => show ¬ (gb81 = bk97) by first | omega | assumption)).keep u107 (fun _ h => h)).keep u112 (fun _ h => h))
 refine t_appLit (enc := encLnk) (z := .agg #[.int .i64 0, .int .i64 0, .int .i64 0]) (bytes := 24) (k := 3) (xs := ([⟨1, 2, 12⟩] : List Lnk)) (ys := (([⟨2, 1, (-20)⟩] : List Lnk) ++ ([] : List Lnk))) underlying98 (by kernel_rfl) rfl (by decide) (fun _ => rfl) (by intro x; simp [encLnk, Value.oneCell']) rfl rfl rfl rfl B111 (D114.sl (fun _ => rfl)) (by first | decide | simp) (by show _ ≤ 1000000; decide) (by decide) (fun ao115 gb116 cp117 w118 A119 u120 gegb116 => ?_)
 have zu120 := u120.size
 have lt_gb116 := A119.lt
 refine go ?_
 refine hK87 _ _ (WR.weak [(0, .pointer (some ⟨pg, 0, none⟩)), (2, .slice ao115 (((([⟨1, 2, 12⟩] : List Lnk) ++ (([⟨2, 1, (-20)⟩] : List Lnk) ++ ([] : List Lnk)))).length) cp117), (4, .slice ab 3 cb), (5, .int .i64 1), (6, .int .i64 1)] ⟨rfl, rfl, rfl, rfl, rfl, trivial⟩ (r_round fun K122 hK122 => (q_of ?_)))
 iterate 5 refine st1 ?_
 refine t_same 34 (v := .int .i64 2) rfl rfl ?_
 refine st1 ?_
 refine t_same 35 (v := .bool false) rfl rfl ?_
 iterate 4 refine st1 ?_
 refine t_same 39 (v := .bool false) rfl rfl ?_
 refine go ?_
 refine f_1 results69 ?_
 obtain ⟨g9, ha9⟩ := Acc.lower (base' := w0.heap.size) A119 (by omega) hpos
 exact ⟨⟨ao115, g9, cp117, rfl, ha9⟩, u_d⟩
theorem ProofK_c (ac : Option Addr) (bc oc cc : Nat) (rows : List HC) (ar : Option Addr) (br or_ cr : Nat) (co : List Int) (aco : Option Addr) (bco oco cco : Nat) (w0 : World) (hc : CaM w0 0 2 [] ac bc oc rows ar br or_) (hco : Sl encI 1 w0 aco bco oco co) (hcz : ∀ x ∈ co, x = ((0 : Nat) : Int)) (hck : co.length = rows.length) (hos : osR 0 rows = [gapK 20 30, gapK 10 12]) (hpos : 0 < w0.heap.size) :
    CallsV Tryz.prog 28 [.agg #[.int .i64 2, .slice ac 0 cc, .slice ar rows.length cr], .slice aco co.length cco] w0 (fun v w' => (∃ al gl cl, v = .tuple #[.slice al 2 cl, .int .i64 0] ∧ Acc encLnk 3 102 w0.heap.size w' al gl cl [⟨1, 2, 12⟩, ⟨2, 1, -20⟩]) ∧ Ext w0 w') := by
 have hrl := hc.hr
 refine f_n func28 ?_
 refine go ?_
 refine x_b fun bk2 w3 ebk2 sbk2 B4 u5 => ?_
 have E6 := Sc.mk ((Upd.refl (fun _ => False) w0).nx u5)
 refine go ?_
 refine x_c func41 rfl rfl (wCourse_c 0 2 [] ac bc oc cc rows ar br or_ cr co aco bco oco cco _ (hc.ext E6.u) (hco.keep E6.u (fun _ h => h)) hcz hck) ?_
 rintro _ w10 ⟨rfl, u11⟩ zu11
 have E13 := Sc.mk (E6.u.nx u11)
 refine go ?_
 refine x_c func42 rfl rfl (wopen_c 0 2 [] ac bc oc cc rows ar br or_ cr co aco bco oco cco _ (hc.ext E13.u) (hco.keep E13.u (fun _ h => h)) hcz hck (by omega)) ?_
 rintro _ w18 ⟨⟨gbo16, aoo16, gao16, cao16, bso16, rfl, hio16, hjo16, hko16, hgo16, hao16⟩, u19⟩ zu19
 rw [hos, webK] at hgo16 hao16
 have lwo16 := hgo16.lt
 have lt_gao16 := hao16.lt
 refine x_c func69 rfl rfl (ringK_c gbo16 ac cc ar rows.length cr aoo16 gao16 0 cao16 _ hgo16 (hao16.sl (fun _ => rfl)) (by omega)) ?_
 rintro _ w23 ⟨⟨aR, gR, cR, rfl, hAR⟩, u24⟩ zu24
 have lt_gR := hAR.lt
 refine go ?_
 refine f_ret2 (v1 := .slice aR 2 cR) (v2 := .int .i64 0) results28 rfl rfl ?_
 obtain ⟨g9, ha9⟩ := Acc.lower (base' := w0.heap.size) hAR (by omega) hpos
 exact ⟨⟨aR, g9, cR, rfl, ha9⟩, u_d⟩
set_option maxHeartbeats 4000000 in
theorem knownSeen_c  (w0 : World) :
    CallsV Tryz.prog 7 [] w0 (fun v w' => v = .bool true ∧ Ext w0 w') := by
 refine f_n func7 ?_
 refine go ?_
 refine x_l fun bk3 w4 ebk3 sbk3 B5 u6 => ?_
 refine go ?_
 refine x_l fun bk8 w9 ebk8 sbk8 B10 u11 => ?_
 refine go ?_
 refine x_l fun bk13 w14 ebk13 sbk13 B15 u16 => ?_
 refine go ?_
 refine x_n fun bk18 w19 ebk18 sbk18 B20 u21 => ?_
 refine x_s fun w23 sw23 B25 u24 => ?_
 refine go ?_
 refine x_l fun bk28 w29 ebk28 sbk28 B30 u31 => ?_
 have B33 := (((((B5.kx u11).kx u16).kx u21).keep u24 (by omega)).kx u31)
 have B34 := ((((B10.kx u16).kx u21).keep u24 (by omega)).kx u31)
 have B35 := (((B15.kx u21).keep u24 (by omega)).kx u31)
 have hca : CaM w29 0 2 [] none 0 0 [(⟨[gapK 20 30], some ⟨bk3, 0, none⟩, bk3, 0, 1⟩ : HC), (⟨[gapK 10 12], some ⟨bk8, 0, none⟩, bk8, 0, 1⟩ : HC)] (some ⟨bk13, 0, none⟩) bk13 0 := ⟨Sl.nil _ _ _ _ _ _, Sl.ofBlkS (enc := encHC) (xs := [(⟨[gapK 20 30], some ⟨bk3, 0, none⟩, bk3, 0, 1⟩ : HC), (⟨[gapK 10 12], some ⟨bk8, 0, none⟩, bk8, 0, 1⟩ : HC)]) (fun _ => rfl) B35, memS (l := [(⟨[gapK 20 30], some ⟨bk3, 0, none⟩, bk3, 0, 1⟩ : HC)]) (memS (l := []) memN ⟨Sl.ofBlkS (enc := encOpt) (xs := [gapK 20 30]) (fun _ => rfl) B33, (by show 0 < 1 ∧ 1 ≤ 3; decide)⟩) ⟨Sl.ofBlkS (enc := encOpt) (xs := [gapK 10 12]) (fun _ => rfl) B34, (by show 0 < 1 ∧ 1 ≤ 3; decide)⟩, ⟨by decide, by decide⟩, by decide, (by show 2 ≤ 20; decide), (fun b hb => by cases hb), memS (l := [(⟨[gapK 20 30], some ⟨bk3, 0, none⟩, bk3, 0, 1⟩ : HC)]) (memS (l := []) memN (fun x hx => by rw [List.mem_singleton.1 hx]; exact okg (n := 2) (by omega))) (fun x hx => by rw [List.mem_singleton.1 hx]; exact okg (n := 2) (by omega))⟩
 refine x_c func28 rfl rfl (ProofK_c none 0 0 0 [(⟨[gapK 20 30], some ⟨bk3, 0, none⟩, bk3, 0, 1⟩ : HC), (⟨[gapK 10 12], some ⟨bk8, 0, none⟩, bk8, 0, 1⟩ : HC)] (some ⟨bk13, 0, none⟩) bk13 0 2 [0, 0] (some ⟨bk28, 0, none⟩) bk28 0 2 _ hca (SlI.own (xs := [0, 0]) B30) (by simp) rfl rfl (by omega)) ?_
 rintro _ w37 ⟨⟨aR, gR, cR, rfl, hAR⟩, u38⟩ zu38
 have lt_gR := hAR.lt
 refine go ?_
 refine c_drawnM follows (fun _ => False) (OTl [0, 2, 4, 6, 8, 10, 12, 14, 16, 18, 20, 22, 24, 26, 28, 30, 32, 34, 36, 38, 41, 42, 44]) (by kernel_rfl) fun w42 u43 => ?_
 have zu43 := u43.size
 refine go ?_
 have D45 := (hAR.keep u43 (fun _ h => h))
 have i46 : 0 < ([⟨1, 2, 12⟩, ⟨2, 1, -20⟩] : List Lnk).length := (by decide)
 refine y_i 0 (D45.sl (fun _ => rfl)) (fun _ => ?_)
 iterate 2 refine st1 ?_
 refine y_same 31 (v := .int .i64 12) rfl rfl ?_
 refine go ?_
 have i47 : 1 < ([⟨1, 2, 12⟩, ⟨2, 1, -20⟩] : List Lnk).length := (by decide)
 refine y_i 1 (D45.sl (fun _ => rfl)) (fun _ => ?_)
 iterate 2 refine st1 ?_
 refine y_same 35 (v := .int .i64 (-20)) rfl rfl ?_
 iterate 2 refine st1 ?_
 refine y_same 37 (v := .bool true) rfl rfl ?_
 refine go ?_
 refine x_c func17 rfl rfl (knownRiver_c _) ?_
 rintro _ w49 ⟨rfl, u50⟩ zu50
 refine go ?_
 refine f_1 results7 ?_
 exact ⟨rfl, u_d⟩

end Go.Proofs.YtagmkfbbhfaceaaGreatDoor
namespace Go.Proofs.YtagmkfbbhfaceaaGreatDoor
open Go Go.RowKit Go.Proofs.Tryz
set_option maxRecDepth 10000
/-! ### a hull that sails as a voyage arrives -/
/-! ### when a voyage is at the ends of its runs -/
/-! ### a voyage's log -/
theorem ReadLogE_c (xs : List UInt8) (ab : Option Addr) (bb ob cb : Nat) (w0 : World) (hs : Sl encY 1 w0 ab bb ob xs) (hcb : xs.length ≤ cb) (hxl : xs.length ≤ 1000000) (hpos : 0 < w0.heap.size) (r1 : List Ent) (r2 r3 : Int) (hr : readR xs = (r1, r2, r3)) :
    CallsV Tryz.prog 11 [.slice ab xs.length cb] w0 fun v w' => (∃ a9 g9 c9, v = .tuple #[.slice a9 (List.length r1) c9, .int .i64 r2, .int .i64 r3] ∧ Acc encEnt 6 41 w0.heap.size w' a9 g9 c9 r1) ∧ Ext w0 w' := by
  have h := ReadLog_c xs ab bb ob cb w0 hs hcb hxl hpos
  rw [hr] at h; exact h

end Go.Proofs.YtagmkfbbhfaceaaGreatDoor
namespace Go.Proofs.YtagmkfbbhfaceaaGreatDoor
open Go Go.RowKit
set_option maxRecDepth 10000
/-! ### a log with one changed byte is repaired -/
theorem log_harm {v : List Bk} (hv : GoodV v) (h13 : v.length ≤ 1300) {i : Nat} (hi : i < 32 * v.length) {x : UInt8} (hx : x ≠ nth (bytesP v) i) : repR ((bytesP v).set i x) = (bytesP v, [((i / 32 : Nat) : Int)], 0) := by
  have e : i = 32 * (i / 32) + i % 32 := by omega
  have hk : i / 32 < v.length := by omega
  have hj : i % 32 < 32 := by omega
  have h1 := bytesP_put x v (i / 32) (i % 32) hk hj
  have h2 := bytesP_nth v (i / 32) (i % 32) hk hj
  rw [← e] at h1 h2
  rw [h2] at hx
  rw [h1]
  exact ((Dmg.nil v).mono (m' := i / 32 / 5 * 5) (Nat.zero_le _)).step (by omega) (by omega) (by omega) (m' := i / 32 + 1) (by omega) hk (bad_put (hv.ok _ hk) hj hx) |>.rep hv h13
theorem harm_byte (z : UInt8) : ∃ d : UInt8, d ≠ 0 ∧ (d.toNat : Int) = 1 + (z.toNat : Int) / 2 := by
  have hz := z.toNat_lt
  refine ⟨UInt8.ofNat (1 + z.toNat / 2), fun e => ?_, ?_⟩
  · have := congrArg UInt8.toNat e
    rw [UInt8.toNat_ofNat'] at this
    have h0 : (0 : UInt8).toNat = 0 := rfl
    omega
  · rw [UInt8.toNat_ofNat']; omega
/-- minutes of a log -/
theorem chk_ms {l : List Ent} (h : chkE l = 0) : okMs (l.map fun x => x.m) := by
  unfold chkE at h
  by_cases h1 : l.length = 0
  · rw [if_pos h1] at h; simp at h
  rw [if_neg h1] at h
  by_cases h2 : 2000 < l.length
  · rw [if_pos h2] at h; simp at h
  rw [if_neg h2] at h
  have key : ∀ (l : List Ent) (m : Int), chkG m l = 0 → (∀ x ∈ l, m ≤ x.m ∧ 0 ≤ x.m ∧ x.m ≤ 1000000) ∧ ∀ i j, i ≤ j → j < l.length → (nth l i).m ≤ (nth l j).m := by
    intro l
    induction l with
    | nil => intro m _; exact ⟨fun x hx => (by cases hx), fun i j _ hj => absurd hj (Nat.not_lt_zero _)⟩
    | cons x r ih =>
      intro m h
      unfold chkG at h
      by_cases h1 : okEnt x = true
      · rw [if_pos h1] at h
        have hx := okEnt_iff h1
        by_cases h2 : x.m < m
        · rw [if_pos h2] at h; simp at h
        rw [if_neg h2] at h
        obtain ⟨i1, i2⟩ := ih x.m h
        refine ⟨fun y hy => ?_, fun i j hij hj => ?_⟩
        · rcases List.mem_cons.1 hy with rfl | hy
          · omega
          · have := i1 y hy; omega
        · cases j with
          | zero => rw [show i = 0 by omega]; exact Int.le_refl _
          | succ j =>
            have hj : j < r.length := by simpa using hj
            cases i with
            | zero => exact (i1 _ (nth_mem hj)).1
            | succ i => exact i2 i j (by omega) hj
      · rw [if_neg h1] at h; simp at h
  obtain ⟨k1, k2⟩ := key l 0 h
  refine ⟨fun m hm => ?_, fun i j hij hj => ?_, by rw [List.length_map]; omega⟩
  · obtain ⟨x, hx, rfl⟩ := List.mem_map.1 hm
    exact (k1 x hx).2
  · rw [List.length_map] at hj
    have e : ∀ q, q < l.length → nth (l.map fun x => x.m) q = (nth l q).m := fun q hq => by rw [nth_eq (by rw [List.length_map]; exact hq), List.getElem_map, nth_eq hq]
    rw [e i (by omega), e j hj]; exact k2 i j hij hj
/-! ### the case of a log's minutes -/
theorem seenL_nth {z : Nat} : ∀ {ms : List Int} {i k : Nat}, k < ms.length → nth (seenL z i ms) k = ⟨1, ((i + k : Nat) : Int), (z : Int), 0, nth ms k, nth ms k⟩
  | [], _, _, h => absurd h (Nat.not_lt_zero _)
  | m :: r, i, 0, _ => rfl
  | m :: r, i, k + 1, h => by
    have := seenL_nth (z := z) (ms := r) (i := i + 1) (k := k) (by simpa using h)
    rw [show i + 1 + k = i + (k + 1) by omega] at this
    exact this
theorem seen_take {z : Nat} {ms : List Int} {k : Nat} (h : k < ms.length) : (seenL z 0 ms).take (k + 1) = (seenL z 0 ms).take k ++ [⟨1, (k : Int), (z : Int), 0, nth ms k, nth ms k⟩] := by
  rw [take_nth (by rw [seenL_len]; exact h), seenL_nth h, Nat.zero_add]
theorem seen_all {z : Nat} {ms : List Int} {k : Nat} (h : k = ms.length) : (seenL z 0 ms).take k = seenL z 0 ms := List.take_of_length_le (by rw [seenL_len]; omega)
/-- when each event can have happened -/
def tmsS (z : Nat) (fast : Int) (ms : List Int) (n : Nat) : List Bcl := (List.range n).map fun i => ⟨nth ms i - (if z = 0 then 0 else mostS fast ms), nth ms i⟩
theorem tmsS_len {z : Nat} {fast : Int} {ms : List Int} {n : Nat} : (tmsS z fast ms n).length = n := by unfold tmsS; rw [List.length_map, List.length_range]
theorem tmsS_nth {z : Nat} {fast : Int} {ms : List Int} {n i : Nat} (h : i < n) : nth (tmsS z fast ms n) i = ⟨nth ms i - (if z = 0 then 0 else mostS fast ms), nth ms i⟩ := by
  rw [nth_eq (by rw [tmsS_len]; exact h)]
  unfold tmsS
  simp
section
variable {fast : Int} {z n : Nat} {ms : List Int} (h : okMs ms) (hf : 0 ≤ fast ∧ fast ≤ 255) (hz : z < 2) (hn : n = ms.length)
include h hf hz hn
theorem ok_L : ∀ l ∈ opnW n (clk2 fast) (seenL z 0 ms), okLnk (1 + n + 2) l := by subst hn; exact webS_ok h hf hz
theorem fit_L : (rchW (1 + n + 2) (opnW n (clk2 fast) (seenL z 0 ms)) (-1)).ring < 0 := by subst hn; exact fit_S h hf hz
theorem tmS_eq : (List.range n).map (tmV n 2 (opnW n (clk2 fast) (seenL z 0 ms))) = tmsS z fast ms n := by
  subst hn
  unfold tmsS
  refine List.map_congr_left fun i hi => ?_
  have hi : i < ms.length := List.mem_range.1 hi
  unfold tmV
  have h1 := low_S h hf hz hi
  have h2 := high_S h hf hz hi
  unfold webS at h1 h2
  rw [h1, h2]
  unfold tS
  split
  · rw [Int.neg_neg, Int.sub_zero]
  · congr 1; omega
theorem gap_L : -nth (rchW (1 + n + 2) (opnW n (clk2 fast) (seenL z 0 ms)) (1 + ((n : Int) - 1))).m (1 + (0 : Int)).toNat = nth ms (n - 1) - nth ms 0 ∧ nth (rchW (1 + n + 2) (opnW n (clk2 fast) (seenL z 0 ms)) (1 + 0)).m (1 + ((n : Int) - 1)).toNat = nth ms (n - 1) - nth ms 0 := by
  subst hn
  have hp := h.2.2
  have e : ((ms.length : Int) - 1) = ((ms.length - 1 : Nat) : Int) := by omega
  have h1 := gap_S h hf hz (i := ms.length - 1) (k := 0) (by omega) (by omega)
  have h2 := gap_S h hf hz (i := 0) (k := ms.length - 1) (by omega) (by omega)
  unfold webS at h1 h2
  rw [e]
  refine ⟨?_, h2⟩
  have h3 : nth (rchW (1 + ms.length + 2) (opnW ms.length (clk2 fast) (seenL z 0 ms)) (1 + ((ms.length - 1 : Nat) : Int))).m (1 + (0 : Int)).toNat = nth ms 0 - nth ms (ms.length - 1) := h1
  rw [h3]; omega
end
/-- a course, its first j steps turned to 1 -/
def crs (n j : Nat) : List Int := List.replicate j 1 ++ List.replicate (n - j) 0
theorem crs_len {n j : Nat} (h : j ≤ n) : (crs n j).length = n := by unfold crs; rw [List.length_append, List.length_replicate, List.length_replicate]; omega
theorem crs_set {n j : Nat} (h : j < n) : (crs n j).set j 1 = crs n (j + 1) := by
  unfold crs
  rw [List.set_append_right _ _ (by rw [List.length_replicate]; exact Nat.le_refl _), List.length_replicate, Nat.sub_self]
  obtain ⟨m, hm⟩ : ∃ m, n - j = m + 1 := ⟨n - j - 1, by omega⟩
  rw [hm, List.replicate_succ, List.set_cons_zero, show n - (j + 1) = m by omega, List.replicate_succ', List.append_assoc]; rfl
theorem crs_zero {n : Nat} : crs n 0 = List.replicate n 0 := by unfold crs; rw [List.replicate_zero, List.nil_append, Nat.sub_zero]
theorem crs_all {n j : Nat} (h : j = n) : crs n j = List.replicate n 1 := by subst h; unfold crs; rw [Nat.sub_self, List.replicate_zero, List.append_nil]
theorem rep_mem {n : Nat} {a : Int} : ∀ x ∈ List.replicate n a, x = a := fun _ hx => List.eq_of_mem_replicate hx
theorem oks2 {n m : Nat} {e c lo hi : Int} (h : (0 ≤ e ∧ e ≤ (n : Int) - 1) ∧ (lo ≤ hi ∧ -2000000 ≤ lo ∧ hi ≤ 2000000) ∧ 0 ≤ c ∧ c ≤ (m : Int) - 1) : okOptP n m ⟨1, e, c, 0, lo, hi⟩ := by
  unfold okOptP; dsimp only; omega
theorem osR_snoc {z : Nat} {a : List HC} {h : HC} : osR z (a ++ [h]) = osR z a ++ [nth h.xs z] := by unfold osR; rw [List.map_append]; rfl
theorem clk_ok {fast : Int} (h : 0 ≤ fast ∧ fast ≤ 255) : ∀ b ∈ clk2 fast, b.lo ≤ b.hi ∧ -100000 ≤ b.lo ∧ b.hi ≤ 100000 := by
  intro b hb
  rcases List.mem_cons.1 hb with rfl | hb
  · decide
  · rw [List.mem_singleton.1 hb]; dsimp only; omega
theorem okL_snoc {n m : Nat} {out : List HC} {h : HC} (h0 : ∀ h ∈ out, ∀ x ∈ h.xs, okOptP n m x) (h1 : ∀ x ∈ h.xs, okOptP n m x) : ∀ g ∈ out ++ [h], ∀ x ∈ g.xs, okOptP n m x := fun g hg => by
  rcases List.mem_append.1 hg with q | q
  · exact h0 g q
  · rw [List.mem_singleton.1 q]; exact h1
theorem CaM.keepN {w w' : World} {zz n : Nat} {cs : List Bcl} {ac : Option Addr} {bc oc : Nat} {rows : List HC} {ar : Option Addr} {br or_ : Nat} (h : CaM w zz n cs ac bc oc rows ar br or_) (u : Upd (fun i => w.heap.size ≤ i) w w') : CaM w' zz n cs ac bc oc rows ar br or_ :=
  ⟨h.c.keep u (fun hp hs => by have := h.c.lt hp; omega), h.r.keep u (fun hp hs => by have := h.r.lt hp; omega), fun x hx => ⟨(h.m x hx).1.keep u (fun hp hs => by have := (h.m x hx).1.lt hp; omega), (h.m x hx).2⟩, h.hn, h.hc, h.hr, h.hb, h.ho⟩

end Go.Proofs.YtagmkfbbhfaceaaGreatDoor
