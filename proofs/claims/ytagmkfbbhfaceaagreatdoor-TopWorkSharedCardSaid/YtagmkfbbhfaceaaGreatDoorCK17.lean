/-
  Part 17 of the proof: contracts and plain laws. Conditions: none.
-/
import Derived.Shelf.SlSortCmp.WholeK
import Derived.Shelf.SlSortCmp.NoneTotal
import Derived.Ground.SlsfProg
import Derived.Test.YtagmkfbbhfaceaaGreatDoorProg
import Derived.Test.YtagmkfbbhfaceaaGreatDoorCK16
namespace Go.Proofs.YtagmkfbbhfaceaaGreatDoor
open Go Go.RowKit Go.Proofs.Tryz
set_option maxRecDepth 10000

def cd1 : Cod Int Msg := ⟨.int .i64, fun m => .agg (encMsg m).toArray⟩
/-- What happened but stops, by kinds. -/
def onS (l : List Msg) : Nat → List (Int × Msg)
  | 0 => []
  | k + 1 => if (nth l k).k = 2 ∨ (nth l k).k = 3 then onS l k else upG (onS l k) (nth l k).k (nth l k)
def onErr (l : List Msg) (k : Nat) : Prop := ¬ ((nth l k).k = 2 ∨ (nth l k).k = 3) ∧ ∃ o, gtG (onS l k) (nth l k).k = some o
/-- The last fact, and the times that are excepted. -/
structure OpS where
  la : Int
  ex : List Fre
def opEx (en : Int) (ex : List Fre) (m : Msg) : List Fre := if m.k = 2 then ex ++ [⟨m.m, max en m.m⟩] else if m.k = 3 then ex.set (ex.length - 1) ⟨(nth ex (ex.length - 1)).f, m.m⟩ else ex
def opS (en : Int) (fr : List Fre) (l : List Msg) : Nat → OpS
  | 0 => ⟨0, fr⟩
  | k + 1 => if 4 < (nth l k).k then opS en fr l k else ⟨(nth l k).k, opEx en (opS en fr l k).ex (nth l k)⟩
def opGo (la k : Int) : Prop := (k = 1 ∧ la = 0) ∨ (k = 2 ∧ (la = 1 ∨ la = 3)) ∨ (k = 3 ∧ la = 2) ∨ (k = 4 ∧ la ≠ 0)
def opBad (en : Int) (fr : List Fre) (l : List Msg) (k : Nat) : Prop := ¬ 4 < (nth l k).k ∧ (¬ opGo (opS en fr l k).la (nth l k).k ∨ (opS en fr l k).la = 4)
theorem Acc.neMap {α β γ : Type} {enc : α → List Value} {k : Nat} {e : TypeId} {base : Nat} {w : World} {ao : Option Addr} {g cap : Nat} {xs : List α} (h : Acc enc k e base w ao g cap xs) {cd : Cod β γ} {m : List (β × γ)} {r : Nat} (hm : MapG cd m w r) (hb : base ≤ g) : g ≠ r := by
  rcases h.at_ with ⟨_, _, _, h4⟩ | ⟨_, _, cur, h1, _⟩
  · omega
  · exact fun e => hm.ne h1 e.symm
theorem Acc.neBlk {α : Type} {enc : α → List Value} {k : Nat} {e t : TypeId} {base : Nat} {w : World} {ao : Option Addr} {g cap b : Nat} {xs : List α} {cs : List Value} (h : Acc enc k e base w ao g cap xs) (hB : Blk w b t cs) (hne : t ≠ e) (hb : base ≤ g) : g ≠ b := by
  rcases h.at_ with ⟨_, _, _, h4⟩ | ⟨_, _, cur, h1, _⟩
  · omega
  · intro q
    subst q
    unfold Blk at hB
    rw [h1] at hB
    simp only [Option.some.injEq, Obj.cells.injEq] at hB
    exact hne hB.2.1.symm
def OpE (fr : List Fre) (l : List Msg) (e : Int) : Prop := (e = 6 ∧ ∃ k, k < l.length ∧ onErr l k) ∨ (e = 7 ∧ (∀ k, k < l.length → ¬ onErr l k) ∧ (gtG (onS l l.length) 1 = none ∨ gtG (onS l l.length) 4 = none)) ∨
  (e = 9 ∧ (∀ k, k < l.length → ¬ onErr l k) ∧ ∃ n1 en, gtG (onS l l.length) 1 = some n1 ∧ gtG (onS l l.length) 4 = some en ∧ ∃ k, k < l.length ∧ opBad en.m fr l k)
def OpOk (fr : List Fre) (l : List Msg) (ex : List Fre) : Prop := (∀ k, k < l.length → ¬ onErr l k) ∧ ∃ n1 en, gtG (onS l l.length) 1 = some n1 ∧ gtG (onS l l.length) 4 = some en ∧ (∀ k, k < l.length → ¬ opBad en.m fr l k) ∧ ex = (opS en.m fr l l.length).ex
theorem key1_ok : KeyOK Tryz.prog 233 cd1 := KeyOK.int underlying233 _
theorem okMsg_k {m : Msg} (h : okMsg m = true) : (1 ≤ m.k ∧ m.k ≤ 7) ∧ (0 ≤ m.m ∧ m.m ≤ 100000) := by
  unfold okMsg at h; rw [decide_eq_true_eq] at h; omega
set_option maxHeartbeats 4000000 in
theorem open_cF (c : Chr) (ws : List Low) (aw : Option Addr) (_bw _ow cw : Nat) (fr : List Fre) (af : Option Addr) (bf of_ cf : Nat) (l : List Msg) (al : Option Addr) (bl ol cl : Nat) (w0 : World) (hfr : Sl encFre 2 w0 af bf of_ fr) (hfl : fr.length ≤ 1000) (hl : Sl encMsg 6 w0 al bl ol l) (hll : l.length ≤ 1000) (hok : ∀ x ∈ l, okMsg x = true) (hpos : 0 < w0.heap.size) :
    CallsV Tryz.prog 168 [.agg #[.int .i64 c.s, .int .i64 c.c, .int .i64 c.k, .int .i64 c.r, .int .i64 c.n, .int .i64 c.l, .int .i64 c.o, .int .i64 c.d, .int .i64 c.e, .int .i64 c.m, .slice aw ws.length cw], .slice af fr.length cf, .slice al l.length cl] w0 (fun v w' => (∃ p e, v = .tuple #[.pointer p, .int .i64 e] ∧ ((p = none ∧ OpE fr l e) ∨ (e = 0 ∧ ∃ px r aE gE cE ex, p = some ⟨px, 0, none⟩ ∧ Blk w' px 280 [.int .i64 c.s, .int .i64 c.c, .int .i64 c.k, .int .i64 c.r, .int .i64 c.n, .int .i64 c.l, .int .i64 c.o, .int .i64 c.d, .int .i64 c.e, .int .i64 c.m, .slice aw ws.length cw, .map (some r), .slice aE (List.length ex) cE] ∧ MapG cd1 (onS l l.length) w' r ∧ Acc encFre 2 283 w0.heap.size w' aE gE cE ex ∧ OpOk fr l ex))) ∧ Ext w0 w') := by
 refine f_n func168 ?_
 refine go ?_
 refine x_b fun bk2 w3 ebk2 sbk2 B4 u5 => ?_
 have E6 := Sc.mk ((Upd.refl (fun _ => False) w0).nx u5)
 iterate 4 refine st1 ?_
 refine x_k5 (fun _ => False) [2] (fun (px : Nat) (bM : Nat) (ae : Option Addr) (ge : Nat) (ce : Nat) => [(8, .pointer (some ⟨px, 0, none⟩))]) (fun px bM ae ge ce w => (Blk w px 280 [.int .i64 c.s, .int .i64 c.c, .int .i64 c.k, .int .i64 c.r, .int .i64 c.n, .int .i64 c.l, .int .i64 c.o, .int .i64 c.d, .int .i64 c.e, .int .i64 c.m, .slice aw ws.length cw, .map (some bM), .slice ae fr.length ce]) ∧ (MapG cd1 [] w bM) ∧ (Acc encFre 2 283 w0.heap.size w ae ge ce fr) ∧ (w0.heap.size ≤ bM ∧ bM < px)) (fun K11 hK11 => ?_) ?_
 ·
  refine c_drawnM follows (fun _ => False) (.look 0 (.look 2 (.act 1 (.act 3 (.look 4 (.act 5 (.look 6 .done) .stop)) .stop) (.act 3 (.act 1 (.look 4 (.act 5 (.look 6 .done) .stop)) .stop) .stop)))) (by kernel_rfl) fun w14 u15 => ?_
  have zu15 := u15.size
  have E16 := Sc.mk (E6.u.nx u15)
  refine go ?_
  refine s_or ?_ ?_
  ·
   refine go ?_
   refine t_makemap rfl rfl (fun bk17 w18 ebk17 sbk17 M19 u20 => ?_)
   have zu20 := u20.size
   refine go ?_
   refine x_c func211 rfl rfl (cloneF_c fr af bf of_ cf _ (hfr.keep (E16.u.nx u20) (fun _ h => h)) (by have := hfl; omega) (by omega)) ?_
   rintro _ w24 ⟨⟨aoQ22, gQ22, cQ22, rfl, haQ22⟩, u25⟩ zu25
   have lt_gQ22 := haQ22.lt
   refine go ?_
   refine x_b fun bk28 w29 ebk28 sbk28 B30 u31 => ?_
   refine go ?_
   have D33 := (haQ22.keep u31 (fun _ h => h))
   obtain ⟨g9, hg9⟩ := Acc.lower (base' := w0.heap.size) D33 (by omega) hpos
   exact hK11 bk28 bk17 aoQ22 g9 cQ22 ⟨B30, (((MapG.ofMemo M19).keep u25 (fun h => h)).keep u31 (fun h => h)), hg9, (by first | omega | (show w0.heap.size ≤ bk17 ∧ bk17 < bk28; omega))⟩
  refine go ?_
  refine x_c func211 rfl rfl (cloneF_c fr af bf of_ cf _ (hfr.keep E16.u (fun _ h => h)) (by have := hfl; omega) (by omega)) ?_
  rintro _ w36 ⟨⟨aoQ34, gQ34, cQ34, rfl, haQ34⟩, u37⟩ zu37
  have lt_gQ34 := haQ34.lt
  refine go ?_
  refine t_makemap rfl rfl (fun bk40 w41 ebk40 sbk40 M42 u43 => ?_)
  have zu43 := u43.size
  refine go ?_
  refine x_b fun bk45 w46 ebk45 sbk45 B47 u48 => ?_
  refine go ?_
  have D50 := ((haQ34.keep u43 (fun _ h => h)).keep u48 (fun _ h => h))
  obtain ⟨g9, hg9⟩ := Acc.lower (base' := w0.heap.size) D50 (by omega) hpos
  exact hK11 bk45 bk40 aoQ34 g9 cQ34 ⟨B47, ((MapG.ofMemo M42).keep u48 (fun h => h)), hg9, (by first | omega | (show w0.heap.size ≤ bk40 ∧ bk40 < bk45; omega))⟩
 rintro px bM ae ge ce w12 ⟨hpx, hm1, hae, hpm⟩ u13 zu13
 have lt_ge := hae.lt
 have hpxl := hpx.lt
 have hm1l := hm1.lt
 have hgbM : ge < w0.heap.size ∨ ge ≠ bM := (Nat.lt_or_ge _ _).imp_right (fun h => hae.neMap hm1 h)
 have hgpx : ge < w0.heap.size ∨ ge ≠ px := (Nat.lt_or_ge _ _).imp_right (fun h => hae.neBlk hpx (by decide) h)
 refine go ?_
 refine x_l1 (fun i => i = bM) [2, 8, 27, 28] (fun (k : Nat) => [(29, .int .i64 (k : Int))]) (fun k w => (k ≤ l.length) ∧ (MapG cd1 (onS l k) w bM) ∧ (∀ j, j < k → ¬ onErr l j)) (fun k => l.length - k) 0 ⟨(Nat.zero_le _), hm1, (fun j h => absurd h (Nat.not_lt_zero j))⟩ ?_
 rintro k w55 ⟨hk, hmk, hne⟩ u56 zu56 K54 hK54
 have E57 := Sc.mk ((E6.u.nx u13).next u56 (fun i hi h => by omega))
 have hmkl := hmk.lt
 refine go ?_
 refine q_p (fun g30 => ?_) fun g30 => ?_
 ·
  refine go ?_
  refine g_i k (hl.keep E57.u (fun _ h => h)) (fun _ => ?_)
  refine go ?_
  refine x_n fun bk63 w64 ebk63 sbk63 B65 u66 => ?_
  refine x_s fun w68 sw68 B70 u69 => ?_
  refine go ?_
  refine q_p (fun g35 => ?_) fun g35 => ?_
  ·
   refine c_same 35 (v := .bool true) rfl (by rw [decide_eq_true g35]) ?_
   refine go ?_
   have D76 := ((hmk.keep u66 (fun h => h)).keep u69 (show ¬ (bM = bk63) by omega))
   exact hK54 (k + 1) ⟨(by omega), (by rw [onS, if_pos (by omega)]; exact D76), (fun j h => (Nat.lt_succ_iff_lt_or_eq.1 h).elim (hne j) (fun e => e ▸ (show ¬ onErr l k from (fun ⟨h1, _⟩ => h1 (by omega)))))⟩
  refine go ?_
  refine q_p (fun g35 => ?_) fun g35 => ?_
  ·
   refine go ?_
   have D77 := ((hmk.keep u66 (fun h => h)).keep u69 (show ¬ (bM = bk63) by omega))
   exact hK54 (k + 1) ⟨(by omega), (by rw [onS, if_pos (by omega)]; exact D77), (fun j h => (Nat.lt_succ_iff_lt_or_eq.1 h).elim (hne j) (fun e => e ▸ (show ¬ onErr l k from (fun ⟨h1, _⟩ => h1 (by omega)))))⟩
  refine go ?_
  refine c_drawnM follows (fun _ => False) (.look 0 (.look 1 (.look 2 (.look 3 (.look 4 (.look 5 (.act 6 (.look 7 (.look 8 (.look 9 (.act 10 (.act 11 (.look 12 .done) .stop) .stop)))) (.act 10 (.act 6 (.look 7 (.look 8 (.look 9 (.act 11 (.look 12 .done) .stop)))) .stop) .stop)))))))) (by kernel_rfl) fun w80 u81 => ?_
  have zu81 := u81.size
  refine go ?_
  refine s_or ?_ ?_
  ·
   refine go ?_
   have D83 := (((hmk.keep u66 (fun h => h)).keep u69 (show ¬ (bM = bk63) by omega)).keep u81 (fun h => h))
   refine t_lookG (cd := cd1) (a := (nth l k).k) (m := onS l k) (z := .agg #[.int .i64 0, .int .i64 0, .int .i64 0, .int .i64 0, .int .i64 0, .int .i64 0]) key1_ok underlying278 zeroValue235 rfl rfl rfl rfl D83 (fun hq45 => ?_) (fun o3 hq45 => ?_)
   ·
    iterate 3 refine st1 ?_
    refine y_same 46 (v := .agg #[.int .i64 0, .int .i64 0, .int .i64 0, .int .i64 0, .int .i64 0, .int .i64 0]) rfl rfl ?_
    refine go ?_
    refine x_n fun bk84 w85 ebk84 sbk84 B86 u87 => ?_
    refine go ?_
    refine x_s fun w89 sw89 B91 u90 => ?_
    refine go ?_
    refine c_drawnM follows (fun i => i = bM) (OTl [0, 2, 4, 6, 8, 10, 12, 15]) (by kernel_rfl) fun w94 u95 => ?_
    have zu95 := u95.size
    refine go ?_
    have D100 := (((D83.keep u87 (fun h => h)).keep u90 (show ¬ (bM = bk84) by omega)).keep u95 (fun h => h))
    refine t_mapG (cd := cd1) (a := (nth l k).k) (v := nth l k) (m := onS l k) key1_ok underlying278 rfl rfl rfl rfl D100 (fun w97 sw97 M98 u99 => ?_)
    refine go ?_
    exact hK54 (k + 1) ⟨(by omega), (by rw [onS, if_neg (by omega)]; exact M98), (fun j h => (Nat.lt_succ_iff_lt_or_eq.1 h).elim (hne j) (fun e => e ▸ (show ¬ onErr l k from (fun ⟨_, o, h1⟩ => by rw [hq45] at h1; cases h1))))⟩
   iterate 3 refine st1 ?_
   refine y_same 46 (v := .agg #[.int .i64 o3.c, .int .i64 o3.n, .int .i64 o3.r, .int .i64 o3.k, .int .i64 o3.m, .int .i64 o3.v]) rfl rfl ?_
   refine go ?_
   refine x_n fun bk102 w103 ebk102 sbk102 B104 u105 => ?_
   refine go ?_
   refine x_s fun w107 sw107 B109 u108 => ?_
   refine go ?_
   refine f_ret2 (v1 := .pointer none) (v2 := .int .i64 6) results168 rfl rfl ?_
   exact ⟨⟨none, 6, rfl, .inl ⟨rfl, .inl ⟨rfl, k, by omega, by omega, o3, hq45⟩⟩⟩, u_d⟩
  refine go ?_
  refine x_n fun bk113 w114 ebk113 sbk113 B115 u116 => ?_
  refine go ?_
  have D118 := ((((hmk.keep u66 (fun h => h)).keep u69 (show ¬ (bM = bk63) by omega)).keep u81 (fun h => h)).keep u116 (fun h => h))
  refine t_lookG (cd := cd1) (a := (nth l k).k) (m := onS l k) (z := .agg #[.int .i64 0, .int .i64 0, .int .i64 0, .int .i64 0, .int .i64 0, .int .i64 0]) key1_ok underlying278 zeroValue235 rfl rfl rfl rfl D118 (fun hq45 => ?_) (fun o3 hq45 => ?_)
  ·
   iterate 3 refine st1 ?_
   refine y_same 46 (v := .agg #[.int .i64 0, .int .i64 0, .int .i64 0, .int .i64 0, .int .i64 0, .int .i64 0]) rfl rfl ?_
   refine go ?_
   refine x_s fun w119 sw119 B121 u120 => ?_
   refine go ?_
   refine c_drawnM follows (fun i => i = bM) (OTl [0, 2, 4, 6, 8, 10, 12, 15]) (by kernel_rfl) fun w124 u125 => ?_
   have zu125 := u125.size
   refine go ?_
   have D130 := ((D118.keep u120 (show ¬ (bM = bk113) by omega)).keep u125 (fun h => h))
   refine t_mapG (cd := cd1) (a := (nth l k).k) (v := nth l k) (m := onS l k) key1_ok underlying278 rfl rfl rfl rfl D130 (fun w127 sw127 M128 u129 => ?_)
   refine go ?_
   exact hK54 (k + 1) ⟨(by omega), (by rw [onS, if_neg (by omega)]; exact M128), (fun j h => (Nat.lt_succ_iff_lt_or_eq.1 h).elim (hne j) (fun e => e ▸ (show ¬ onErr l k from (fun ⟨_, o, h1⟩ => by rw [hq45] at h1; cases h1))))⟩
  iterate 3 refine st1 ?_
  refine y_same 46 (v := .agg #[.int .i64 o3.c, .int .i64 o3.n, .int .i64 o3.r, .int .i64 o3.k, .int .i64 o3.m, .int .i64 o3.v]) rfl rfl ?_
  refine go ?_
  refine x_s fun w132 sw132 B134 u133 => ?_
  refine go ?_
  refine f_ret2 (v1 := .pointer none) (v2 := .int .i64 6) results168 rfl rfl ?_
  exact ⟨⟨none, 6, rfl, .inl ⟨rfl, .inl ⟨rfl, k, by omega, by omega, o3, hq45⟩⟩⟩, u_d⟩
 obtain rfl : k = l.length := by omega
 refine go ?_
 refine t_lookG (cd := cd1) (a := (1 : Int)) (m := onS l l.length) (z := .agg #[.int .i64 0, .int .i64 0, .int .i64 0, .int .i64 0, .int .i64 0, .int .i64 0]) key1_ok underlying278 zeroValue235 rfl rfl rfl rfl hmk (fun hq62 => ?_) (fun o1 hq62 => ?_)
 ·
  iterate 2 refine st1 ?_
  refine t_same 63 (v := .agg #[.int .i64 0, .int .i64 0, .int .i64 0, .int .i64 0, .int .i64 0, .int .i64 0]) rfl rfl ?_
  refine go ?_
  refine x_n fun bk139 w140 ebk139 sbk139 B141 u142 => ?_
  refine x_s fun w144 sw144 B146 u145 => ?_
  refine go ?_
  have D149 := ((hmk.keep u142 (fun h => h)).keep u145 (show ¬ (bM = bk139) by omega))
  refine t_lookG (cd := cd1) (a := (4 : Int)) (m := onS l l.length) (z := .agg #[.int .i64 0, .int .i64 0, .int .i64 0, .int .i64 0, .int .i64 0, .int .i64 0]) key1_ok underlying278 zeroValue235 rfl rfl rfl rfl D149 (fun hq70 => ?_) (fun o4 hq70 => ?_)
  ·
   iterate 2 refine st1 ?_
   refine t_same 71 (v := .agg #[.int .i64 0, .int .i64 0, .int .i64 0, .int .i64 0, .int .i64 0, .int .i64 0]) rfl rfl ?_
   refine go ?_
   refine x_n fun bk150 w151 ebk150 sbk150 B152 u153 => ?_
   refine x_s fun w155 sw155 B157 u156 => ?_
   refine go ?_
   refine f_ret2 (v1 := .pointer none) (v2 := .int .i64 7) results168 rfl rfl ?_
   exact ⟨⟨none, 7, rfl, .inl ⟨rfl, .inr (.inl ⟨rfl, hne, .inl hq62⟩)⟩⟩, u_d⟩
  iterate 2 refine st1 ?_
  refine t_same 71 (v := .agg #[.int .i64 o4.c, .int .i64 o4.n, .int .i64 o4.r, .int .i64 o4.k, .int .i64 o4.m, .int .i64 o4.v]) rfl rfl ?_
  refine go ?_
  refine x_n fun bk162 w163 ebk162 sbk162 B164 u165 => ?_
  refine x_s fun w167 sw167 B169 u168 => ?_
  refine go ?_
  refine f_ret2 (v1 := .pointer none) (v2 := .int .i64 7) results168 rfl rfl ?_
  exact ⟨⟨none, 7, rfl, .inl ⟨rfl, .inr (.inl ⟨rfl, hne, .inl hq62⟩)⟩⟩, u_d⟩
 iterate 2 refine st1 ?_
 refine t_same 63 (v := .agg #[.int .i64 o1.c, .int .i64 o1.n, .int .i64 o1.r, .int .i64 o1.k, .int .i64 o1.m, .int .i64 o1.v]) rfl rfl ?_
 refine go ?_
 refine x_n fun bk174 w175 ebk174 sbk174 B176 u177 => ?_
 refine x_s fun w179 sw179 B181 u180 => ?_
 refine go ?_
 have D184 := ((hmk.keep u177 (fun h => h)).keep u180 (show ¬ (bM = bk174) by omega))
 refine t_lookG (cd := cd1) (a := (4 : Int)) (m := onS l l.length) (z := .agg #[.int .i64 0, .int .i64 0, .int .i64 0, .int .i64 0, .int .i64 0, .int .i64 0]) key1_ok underlying278 zeroValue235 rfl rfl rfl rfl D184 (fun hq70 => ?_) (fun o4 hq70 => ?_)
 ·
  iterate 2 refine st1 ?_
  refine t_same 71 (v := .agg #[.int .i64 0, .int .i64 0, .int .i64 0, .int .i64 0, .int .i64 0, .int .i64 0]) rfl rfl ?_
  refine go ?_
  refine x_n fun bk185 w186 ebk185 sbk185 B187 u188 => ?_
  refine x_s fun w190 sw190 B192 u191 => ?_
  refine go ?_
  refine f_ret2 (v1 := .pointer none) (v2 := .int .i64 7) results168 rfl rfl ?_
  exact ⟨⟨none, 7, rfl, .inl ⟨rfl, .inr (.inl ⟨rfl, hne, .inr hq70⟩)⟩⟩, u_d⟩
 iterate 2 refine st1 ?_
 refine t_same 71 (v := .agg #[.int .i64 o4.c, .int .i64 o4.n, .int .i64 o4.r, .int .i64 o4.k, .int .i64 o4.m, .int .i64 o4.v]) rfl rfl ?_
 refine go ?_
 refine x_n fun bk197 w198 ebk197 sbk197 B199 u200 => ?_
 refine x_s fun w202 sw202 B204 u203 => ?_
 refine go ?_
 have D211 := (((((hae.keep u56 (fun hb => show ¬ (ge = bM) by first | omega | assumption)).keep u177 (fun _ h => h)).keep u180 (fun hb => show ¬ (ge = bk174) by first | omega | assumption)).keep u200 (fun _ h => h)).keep u203 (fun hb => show ¬ (ge = bk197) by first | omega | assumption))
 have B212 := (((((hpx.keep u56 (by omega)).kx u177).keep u180 (by omega)).kx u200).keep u203 (by omega))
 refine x_l4 (fun i => i = px ∨ (i = ge ∧ w0.heap.size ≤ i) ∨ w202.heap.size ≤ i) [8, 15, 79, 80] (fun (j : Nat) (a2 : Option Addr) (g2 : Nat) (c2 : Nat) => [(17, .int .i64 ((opS o4.m fr l j).la)), (81, .int .i64 (j : Int))]) (fun j a2 g2 c2 w => Blk w px 280 [.int .i64 c.s, .int .i64 c.c, .int .i64 c.k, .int .i64 c.r, .int .i64 c.n, .int .i64 c.l, .int .i64 c.o, .int .i64 c.d, .int .i64 c.e, .int .i64 c.m, .slice aw ws.length cw, .map (some bM), .slice a2 ((opS o4.m fr l j).ex.length) c2] ∧ (j ≤ l.length) ∧ (Acc encFre 2 283 w0.heap.size w a2 g2 c2 (opS o4.m fr l j).ex) ∧ (g2 = ge ∨ w202.heap.size ≤ g2) ∧ ((opS o4.m fr l j).ex.length ≤ fr.length + j) ∧ (∀ i, i < j → ¬ opBad o4.m fr l i) ∧ ((opS o4.m fr l j).la = 2 → 0 < (opS o4.m fr l j).ex.length)) (fun j a2 g2 c2 => l.length - j) 0 ae ge ce ⟨B212, (Nat.zero_le _), D211, (.inl rfl), (Nat.le_refl _), (fun j h => absurd h (Nat.not_lt_zero j)), (fun h => by cases h)⟩ ?_
 rintro j a2 g2 c2 w214 ⟨I216, hj, hex, hg2, hexl, hnb, hl2⟩ u215 zu215 K213 hK213
 have lt_g2 := hex.lt
 have hgb2 : g2 < w0.heap.size ∨ g2 ≠ bM := by omega
 have hgp2 : g2 < w0.heap.size ∨ g2 ≠ px := by omega
 refine go ?_
 refine q_p (fun g82 => ?_) fun g82 => ?_
 ·
  have hmj := okMsg_k (hok _ (nth_mem (xs := l) (i := j) (by omega)))
  refine go ?_
  refine g_i j (hl.keep (((((E57.u.nx u177).next u180 (fun i hi h => by omega)).nx u200).next u203 (fun i hi h => by omega)).next u215 (fun i hi (h : i = px ∨ (i = ge ∧ w0.heap.size ≤ i) ∨ w202.heap.size ≤ i) => show False by first | omega | assumption)) (fun _ h => h)) (fun _ => ?_)
  refine go ?_
  refine x_n fun bk223 w224 ebk223 sbk223 B225 u226 => ?_
  refine x_s fun w228 sw228 B230 u229 => ?_
  refine go ?_
  refine q_p (fun g87 => ?_) fun g87 => ?_
  ·
   have hS : (opS o4.m fr l (j + 1)) = (opS o4.m fr l j) := if_pos g87
   have hLa : (opS o4.m fr l (j + 1)).la = (opS o4.m fr l j).la := by rw [hS]
   have hEx : (opS o4.m fr l (j + 1)).ex = (opS o4.m fr l j).ex := by rw [hS]
   refine go ?_
   have B234 := ((I216.kx u226).keep u229 (by omega))
   have D235 := ((hex.keep u226 (fun _ h => h)).keep u229 (fun hb => show ¬ (g2 = bk223) by first | omega | assumption))
   exact hK213 (j + 1) a2 g2 c2 ⟨(by first | (rw [hEx]; exact B234) | (rw [hEx, List.length_set]; exact B234) | exact B234), (by omega), (by rw [hEx]; exact D235), (by omega), (by rw [hEx]; first | omega | (rw [List.length_append]; show _ + 1 ≤ _; omega) | (rw [List.length_set]; omega)), (fun i h => (Nat.lt_succ_iff_lt_or_eq.1 h).elim (hnb i) (fun e => e ▸ (show ¬ opBad o4.m fr l j from fun ⟨h1, h2⟩ => by first | omega | (unfold opGo at h2; omega)))), (by rw [hLa, hEx]; first | exact hl2 | (intro _; rw [List.length_append]; show 0 < _ + 1; omega) | (intro h; omega) | (intro h; rw [List.length_set]; omega))⟩ (hs := by exact ⟨(congrArg (fun z => some (Value.int .i64 z)) hLa.symm), rfl, rfl, rfl, rfl, rfl, trivial⟩) (hu := ((u215.nx u226).next u229 (fun i hi (h : i = bk223) => show i = px ∨ (i = ge ∧ w0.heap.size ≤ i) ∨ w202.heap.size ≤ i by first | omega | assumption)))
  have hS : (opS o4.m fr l (j + 1)) = ⟨(nth l j).k, opEx o4.m (opS o4.m fr l j).ex (nth l j)⟩ := if_neg g87
  have hLa : (opS o4.m fr l (j + 1)).la = (nth l j).k := by rw [hS]
  refine go ?_
  refine q_p (fun g90 => ?_) fun g90 => ?_
  ·
   have hEx : (opS o4.m fr l (j + 1)).ex = (opS o4.m fr l j).ex := by rw [hS]; show opEx _ _ _ = _; unfold opEx; rw [if_neg (by omega), if_neg (by omega)]
   refine go ?_
   refine t_splitp 144 rfl (fun g144 => ?_) (fun g144 => ?_)
   ·
    refine go ?_
    refine f_ret2 (v1 := .pointer none) (v2 := .int .i64 9) results168 rfl rfl ?_
    exact ⟨⟨none, 9, rfl, .inl ⟨rfl, .inr (.inr ⟨rfl, hne, o1, o4, hq62, hq70, j, by omega, g87, by unfold opGo; omega⟩)⟩⟩, u_d⟩
   refine go ?_
   refine q_p (fun g147 => ?_) fun g147 => ?_
   ·
    refine go ?_
    refine f_ret2 (v1 := .pointer none) (v2 := .int .i64 9) results168 rfl rfl ?_
    exact ⟨⟨none, 9, rfl, .inl ⟨rfl, .inr (.inr ⟨rfl, hne, o1, o4, hq62, hq70, j, by omega, g87, by unfold opGo; omega⟩)⟩⟩, u_d⟩
   refine go ?_
   have B244 := ((I216.kx u226).keep u229 (by omega))
   have D245 := ((hex.keep u226 (fun _ h => h)).keep u229 (fun hb => show ¬ (g2 = bk223) by first | omega | assumption))
   exact hK213 (j + 1) a2 g2 c2 ⟨(by first | (rw [hEx]; exact B244) | (rw [hEx, List.length_set]; exact B244) | exact B244), (by omega), (by rw [hEx]; exact D245), (by omega), (by rw [hEx]; first | omega | (rw [List.length_append]; show _ + 1 ≤ _; omega) | (rw [List.length_set]; omega)), (fun i h => (Nat.lt_succ_iff_lt_or_eq.1 h).elim (hnb i) (fun e => e ▸ (show ¬ opBad o4.m fr l j from fun ⟨h1, h2⟩ => by first | omega | (unfold opGo at h2; omega)))), (by rw [hLa, hEx]; first | exact hl2 | (intro _; rw [List.length_append]; show 0 < _ + 1; omega) | (intro h; omega) | (intro h; rw [List.length_set]; omega))⟩ (hs := by exact ⟨(congrArg (fun z => some (Value.int .i64 z)) hLa.symm), rfl, rfl, rfl, rfl, rfl, trivial⟩) (hu := ((u215.nx u226).next u229 (fun i hi (h : i = bk223) => show i = px ∨ (i = ge ∧ w0.heap.size ≤ i) ∨ w202.heap.size ≤ i by first | omega | assumption)))
  refine go ?_
  refine q_p (fun g94 => ?_) fun g94 => ?_
  ·
   have hEx : (opS o4.m fr l (j + 1)).ex = (opS o4.m fr l j).ex ++ [⟨(nth l j).m, max o4.m (nth l j).m⟩] := by rw [hS]; show opEx _ _ _ = _; unfold opEx; rw [if_pos g94]
   refine go ?_
   refine t_splitp 98 rfl (fun g98 => ?_) (fun g98 => ?_)
   ·
    refine go ?_
    refine c_drawnM follows (fun i => (i = g2 ∧ w0.heap.size ≤ i) ∨ i = px) (.look 0 (.look 1 (.look 2 (.look 3 (.look 5 (.look 6 (.look 7 (.look 8 (.look 9 (.look 10 (.look 11 (.look 12 (.act 4 (.act 13 (.act 14 (.look 15 (.look 16 (.act 17 .done .stop))) .stop) .stop) (.act 13 (.act 4 (.act 14 (.look 15 (.look 16 (.act 17 .done .stop))) .stop) .stop) .stop)))))))))))))) (by kernel_rfl) fun w248 u249 => ?_
    have zu249 := u249.size
    refine go ?_
    refine y_max rfl rfl rfl rfl ?_
    refine go ?_
    refine s_or ?_ ?_
    ·
     refine go ?_
     refine x_l fun bk251 w252 ebk251 sbk251 B253 u254 => ?_
     refine go ?_
     have D256 := ((((hex.keep u226 (fun _ h => h)).keep u229 (fun hb => show ¬ (g2 = bk223) by first | omega | assumption)).keep u249 (fun _ h => h)).keep u254 (fun _ h => h))
     refine t_append (z := .agg #[.int .i64 0, .int .i64 0]) (bytes := 16) (k := 2) (base := w0.heap.size) (⟨(nth l j).m, max o4.m (nth l j).m⟩ : Fre) underlying228 (by kernel_rfl) rfl (by decide) (fun _ => rfl) (by intro x; simp [encFre, Value.oneCell']) rfl rfl rfl rfl D256 B253 (by omega) (by omega) (by decide) (fun ao257 gb258 cp259 w260 A261 u262 gegb258 lngb258 => ?_)
     have zu262 := u262.size
     have lt_gb258 := A261.lt
     refine go ?_
     refine x_s fun w264 sw264 B266 u265 => ?_
     refine go ?_
     refine q_p (fun g147 => ?_) fun g147 => ?_
     ·
      refine go ?_
      refine f_ret2 (v1 := .pointer none) (v2 := .int .i64 9) results168 rfl rfl ?_
      exact ⟨⟨none, 9, rfl, .inl ⟨rfl, .inr (.inr ⟨rfl, hne, o1, o4, hq62, hq70, j, by omega, g87, by unfold opGo; omega⟩)⟩⟩, u_d⟩
     refine go ?_
     have D271 := (A261.keep u265 (fun hb => show ¬ (gb258 = px) by first | omega | assumption))
     exact hK213 (j + 1) ao257 gb258 cp259 ⟨(by first | (rw [hEx]; exact B266) | (rw [hEx, List.length_set]; exact B266) | exact B266), (by omega), (by rw [hEx]; exact D271), (by omega), (by rw [hEx]; first | omega | (rw [List.length_append]; show _ + 1 ≤ _; omega) | (rw [List.length_set]; omega)), (fun i h => (Nat.lt_succ_iff_lt_or_eq.1 h).elim (hnb i) (fun e => e ▸ (show ¬ opBad o4.m fr l j from fun ⟨h1, h2⟩ => by first | omega | (unfold opGo at h2; omega)))), (by rw [hLa, hEx]; first | exact hl2 | (intro _; rw [List.length_append]; show 0 < _ + 1; omega) | (intro h; omega) | (intro h; rw [List.length_set]; omega))⟩ (hs := by exact ⟨(congrArg (fun z => some (Value.int .i64 z)) hLa.symm), rfl, rfl, rfl, rfl, rfl, trivial⟩) (hu := ((((((u215.nx u226).next u229 (fun i hi (h : i = bk223) => show i = px ∨ (i = ge ∧ w0.heap.size ≤ i) ∨ w202.heap.size ≤ i by first | omega | assumption)).nx u249).nx u254).next u262 (fun i hi (h : (i = g2 ∧ w0.heap.size ≤ i)) => show i = px ∨ (i = ge ∧ w0.heap.size ≤ i) ∨ w202.heap.size ≤ i by first | omega | assumption)).next u265 (fun i hi (h : i = px) => show i = px ∨ (i = ge ∧ w0.heap.size ≤ i) ∨ w202.heap.size ≤ i by first | omega | assumption)))
    refine go ?_
    refine x_l fun bk272 w273 ebk272 sbk272 B274 u275 => ?_
    refine go ?_
    have D277 := ((((hex.keep u226 (fun _ h => h)).keep u229 (fun hb => show ¬ (g2 = bk223) by first | omega | assumption)).keep u249 (fun _ h => h)).keep u275 (fun _ h => h))
    refine t_append (z := .agg #[.int .i64 0, .int .i64 0]) (bytes := 16) (k := 2) (base := w0.heap.size) (⟨(nth l j).m, max o4.m (nth l j).m⟩ : Fre) underlying228 (by kernel_rfl) rfl (by decide) (fun _ => rfl) (by intro x; simp [encFre, Value.oneCell']) rfl rfl rfl rfl D277 B274 (by omega) (by omega) (by decide) (fun ao278 gb279 cp280 w281 A282 u283 gegb279 lngb279 => ?_)
    have zu283 := u283.size
    have lt_gb279 := A282.lt
    refine go ?_
    refine x_s fun w285 sw285 B287 u286 => ?_
    refine go ?_
    refine q_p (fun g147 => ?_) fun g147 => ?_
    ·
     refine go ?_
     refine f_ret2 (v1 := .pointer none) (v2 := .int .i64 9) results168 rfl rfl ?_
     exact ⟨⟨none, 9, rfl, .inl ⟨rfl, .inr (.inr ⟨rfl, hne, o1, o4, hq62, hq70, j, by omega, g87, by unfold opGo; omega⟩)⟩⟩, u_d⟩
    refine go ?_
    have D292 := (A282.keep u286 (fun hb => show ¬ (gb279 = px) by first | omega | assumption))
    exact hK213 (j + 1) ao278 gb279 cp280 ⟨(by first | (rw [hEx]; exact B287) | (rw [hEx, List.length_set]; exact B287) | exact B287), (by omega), (by rw [hEx]; exact D292), (by omega), (by rw [hEx]; first | omega | (rw [List.length_append]; show _ + 1 ≤ _; omega) | (rw [List.length_set]; omega)), (fun i h => (Nat.lt_succ_iff_lt_or_eq.1 h).elim (hnb i) (fun e => e ▸ (show ¬ opBad o4.m fr l j from fun ⟨h1, h2⟩ => by first | omega | (unfold opGo at h2; omega)))), (by rw [hLa, hEx]; first | exact hl2 | (intro _; rw [List.length_append]; show 0 < _ + 1; omega) | (intro h; omega) | (intro h; rw [List.length_set]; omega))⟩ (hs := by exact ⟨(congrArg (fun z => some (Value.int .i64 z)) hLa.symm), rfl, rfl, rfl, rfl, rfl, trivial⟩) (hu := ((((((u215.nx u226).next u229 (fun i hi (h : i = bk223) => show i = px ∨ (i = ge ∧ w0.heap.size ≤ i) ∨ w202.heap.size ≤ i by first | omega | assumption)).nx u249).nx u275).next u283 (fun i hi (h : (i = g2 ∧ w0.heap.size ≤ i)) => show i = px ∨ (i = ge ∧ w0.heap.size ≤ i) ∨ w202.heap.size ≤ i by first | omega | assumption)).next u286 (fun i hi (h : i = px) => show i = px ∨ (i = ge ∧ w0.heap.size ≤ i) ∨ w202.heap.size ≤ i by first | omega | assumption)))
   refine go ?_
   refine c_drawnM follows (fun i => (i = g2 ∧ w0.heap.size ≤ i) ∨ i = px) (.look 0 (.look 1 (.look 2 (.look 3 (.look 5 (.look 6 (.look 7 (.look 8 (.look 9 (.look 10 (.look 11 (.look 12 (.act 4 (.act 13 (.act 14 (.look 15 (.look 16 (.act 17 .done .stop))) .stop) .stop) (.act 13 (.act 4 (.act 14 (.look 15 (.look 16 (.act 17 .done .stop))) .stop) .stop) .stop)))))))))))))) (by kernel_rfl) fun w293 u294 => ?_
   have zu294 := u294.size
   refine go ?_
   refine y_max rfl rfl rfl rfl ?_
   refine go ?_
   refine s_or ?_ ?_
   ·
    refine go ?_
    refine x_l fun bk296 w297 ebk296 sbk296 B298 u299 => ?_
    refine go ?_
    have D301 := ((((hex.keep u226 (fun _ h => h)).keep u229 (fun hb => show ¬ (g2 = bk223) by first | omega | assumption)).keep u294 (fun _ h => h)).keep u299 (fun _ h => h))
    refine t_append (z := .agg #[.int .i64 0, .int .i64 0]) (bytes := 16) (k := 2) (base := w0.heap.size) (⟨(nth l j).m, max o4.m (nth l j).m⟩ : Fre) underlying228 (by kernel_rfl) rfl (by decide) (fun _ => rfl) (by intro x; simp [encFre, Value.oneCell']) rfl rfl rfl rfl D301 B298 (by omega) (by omega) (by decide) (fun ao302 gb303 cp304 w305 A306 u307 gegb303 lngb303 => ?_)
    have zu307 := u307.size
    have lt_gb303 := A306.lt
    refine go ?_
    refine x_s fun w309 sw309 B311 u310 => ?_
    refine go ?_
    refine t_splitp 144 rfl (fun g144 => ?_) (fun g144 => ?_)
    ·
     refine go ?_
     refine f_ret2 (v1 := .pointer none) (v2 := .int .i64 9) results168 rfl rfl ?_
     exact ⟨⟨none, 9, rfl, .inl ⟨rfl, .inr (.inr ⟨rfl, hne, o1, o4, hq62, hq70, j, by omega, g87, by unfold opGo; omega⟩)⟩⟩, u_d⟩
    refine go ?_
    refine q_p (fun g147 => ?_) fun g147 => ?_
    ·
     refine go ?_
     refine f_ret2 (v1 := .pointer none) (v2 := .int .i64 9) results168 rfl rfl ?_
     exact ⟨⟨none, 9, rfl, .inl ⟨rfl, .inr (.inr ⟨rfl, hne, o1, o4, hq62, hq70, j, by omega, g87, by unfold opGo; omega⟩)⟩⟩, u_d⟩
    refine go ?_
    have D317 := (A306.keep u310 (fun hb => show ¬ (gb303 = px) by first | omega | assumption))
    exact hK213 (j + 1) ao302 gb303 cp304 ⟨(by first | (rw [hEx]; exact B311) | (rw [hEx, List.length_set]; exact B311) | exact B311), (by omega), (by rw [hEx]; exact D317), (by omega), (by rw [hEx]; first | omega | (rw [List.length_append]; show _ + 1 ≤ _; omega) | (rw [List.length_set]; omega)), (fun i h => (Nat.lt_succ_iff_lt_or_eq.1 h).elim (hnb i) (fun e => e ▸ (show ¬ opBad o4.m fr l j from fun ⟨h1, h2⟩ => by first | omega | (unfold opGo at h2; omega)))), (by rw [hLa, hEx]; first | exact hl2 | (intro _; rw [List.length_append]; show 0 < _ + 1; omega) | (intro h; omega) | (intro h; rw [List.length_set]; omega))⟩ (hs := by exact ⟨(congrArg (fun z => some (Value.int .i64 z)) hLa.symm), rfl, rfl, rfl, rfl, rfl, trivial⟩) (hu := ((((((u215.nx u226).next u229 (fun i hi (h : i = bk223) => show i = px ∨ (i = ge ∧ w0.heap.size ≤ i) ∨ w202.heap.size ≤ i by first | omega | assumption)).nx u294).nx u299).next u307 (fun i hi (h : (i = g2 ∧ w0.heap.size ≤ i)) => show i = px ∨ (i = ge ∧ w0.heap.size ≤ i) ∨ w202.heap.size ≤ i by first | omega | assumption)).next u310 (fun i hi (h : i = px) => show i = px ∨ (i = ge ∧ w0.heap.size ≤ i) ∨ w202.heap.size ≤ i by first | omega | assumption)))
   refine go ?_
   refine x_l fun bk318 w319 ebk318 sbk318 B320 u321 => ?_
   refine go ?_
   have D323 := ((((hex.keep u226 (fun _ h => h)).keep u229 (fun hb => show ¬ (g2 = bk223) by first | omega | assumption)).keep u294 (fun _ h => h)).keep u321 (fun _ h => h))
   refine t_append (z := .agg #[.int .i64 0, .int .i64 0]) (bytes := 16) (k := 2) (base := w0.heap.size) (⟨(nth l j).m, max o4.m (nth l j).m⟩ : Fre) underlying228 (by kernel_rfl) rfl (by decide) (fun _ => rfl) (by intro x; simp [encFre, Value.oneCell']) rfl rfl rfl rfl D323 B320 (by omega) (by omega) (by decide) (fun ao324 gb325 cp326 w327 A328 u329 gegb325 lngb325 => ?_)
   have zu329 := u329.size
   have lt_gb325 := A328.lt
   refine go ?_
   refine x_s fun w331 sw331 B333 u332 => ?_
   refine go ?_
   refine t_splitp 144 rfl (fun g144 => ?_) (fun g144 => ?_)
   ·
    refine go ?_
    refine f_ret2 (v1 := .pointer none) (v2 := .int .i64 9) results168 rfl rfl ?_
    exact ⟨⟨none, 9, rfl, .inl ⟨rfl, .inr (.inr ⟨rfl, hne, o1, o4, hq62, hq70, j, by omega, g87, by unfold opGo; omega⟩)⟩⟩, u_d⟩
   refine go ?_
   refine q_p (fun g147 => ?_) fun g147 => ?_
   ·
    refine go ?_
    refine f_ret2 (v1 := .pointer none) (v2 := .int .i64 9) results168 rfl rfl ?_
    exact ⟨⟨none, 9, rfl, .inl ⟨rfl, .inr (.inr ⟨rfl, hne, o1, o4, hq62, hq70, j, by omega, g87, by unfold opGo; omega⟩)⟩⟩, u_d⟩
   refine go ?_
   have D339 := (A328.keep u332 (fun hb => show ¬ (gb325 = px) by first | omega | assumption))
   exact hK213 (j + 1) ao324 gb325 cp326 ⟨(by first | (rw [hEx]; exact B333) | (rw [hEx, List.length_set]; exact B333) | exact B333), (by omega), (by rw [hEx]; exact D339), (by omega), (by rw [hEx]; first | omega | (rw [List.length_append]; show _ + 1 ≤ _; omega) | (rw [List.length_set]; omega)), (fun i h => (Nat.lt_succ_iff_lt_or_eq.1 h).elim (hnb i) (fun e => e ▸ (show ¬ opBad o4.m fr l j from fun ⟨h1, h2⟩ => by first | omega | (unfold opGo at h2; omega)))), (by rw [hLa, hEx]; first | exact hl2 | (intro _; rw [List.length_append]; show 0 < _ + 1; omega) | (intro h; omega) | (intro h; rw [List.length_set]; omega))⟩ (hs := by exact ⟨(congrArg (fun z => some (Value.int .i64 z)) hLa.symm), rfl, rfl, rfl, rfl, rfl, trivial⟩) (hu := ((((((u215.nx u226).next u229 (fun i hi (h : i = bk223) => show i = px ∨ (i = ge ∧ w0.heap.size ≤ i) ∨ w202.heap.size ≤ i by first | omega | assumption)).nx u294).nx u321).next u329 (fun i hi (h : (i = g2 ∧ w0.heap.size ≤ i)) => show i = px ∨ (i = ge ∧ w0.heap.size ≤ i) ∨ w202.heap.size ≤ i by first | omega | assumption)).next u332 (fun i hi (h : i = px) => show i = px ∨ (i = ge ∧ w0.heap.size ≤ i) ∨ w202.heap.size ≤ i by first | omega | assumption)))
  refine go ?_
  refine q_p (fun g119 => ?_) fun g119 => ?_
  ·
   have hEx : (opS o4.m fr l (j + 1)).ex = (opS o4.m fr l j).ex.set ((opS o4.m fr l j).ex.length - 1) ⟨(nth (opS o4.m fr l j).ex ((opS o4.m fr l j).ex.length - 1)).f, (nth l j).m⟩ := by rw [hS]; show opEx _ _ _ = _; unfold opEx; rw [if_neg g94, if_pos g119]
   refine go ?_
   refine q_p (fun g123 => ?_) fun g123 => ?_
   ·
    refine c_same 20 (v := .bool true) rfl (by rw [decide_eq_true g123]) ?_
    have hg20 := hex.ge (hl2 g123)
    refine c_drawnM follows (fun i => i = g2) (OTl [0, 2, 4, 6, 8, 10, 12, 14, 16, 18, 20, 22, 24, 26, 29]) (by kernel_rfl) fun w343 u344 => ?_
    have zu344 := u344.size
    refine go ?_
    have D346 := (((hex.keep u226 (fun _ h => h)).keep u229 (fun hb => show ¬ (g2 = bk223) by first | omega | assumption)).keep u344 (fun _ h => h))
    refine y_i ((opS o4.m fr l j).ex.length - 1) (D346.sl (fun _ => rfl)) (fun _ => ?_) (hj := (by omega))
    refine go ?_
    refine t_storeA (vs := [.int .i64 ((nth l j).m)]) (j := ((opS o4.m fr l j).ex.length - 1)) (o' := 1) (k := 2) (⟨(nth (opS o4.m fr l j).ex ((opS o4.m fr l j).ex.length - 1)).f, (nth l j).m⟩ : Fre) (fun _ => rfl) sizeOf3 rfl rfl (by omega) rfl D346 (by first | omega | (simp only [List.length_set, eRuns_len]; omega)) rfl rfl (by decide) (by simp [Value.oneCell']) rfl (fun w348 R350 u349 => ?_)
    have zu349 := u349.size
    refine go ?_
    refine q_p (fun g147 => ?_) fun g147 => ?_
    ·
     refine go ?_
     refine f_ret2 (v1 := .pointer none) (v2 := .int .i64 9) results168 rfl rfl ?_
     exact ⟨⟨none, 9, rfl, .inl ⟨rfl, .inr (.inr ⟨rfl, hne, o1, o4, hq62, hq70, j, by omega, g87, by unfold opGo; omega⟩)⟩⟩, u_d⟩
    refine go ?_
    have B355 := ((((I216.kx u226).keep u229 (by omega)).kx u344).keep u349 (by omega))
    exact hK213 (j + 1) a2 g2 c2 ⟨(by first | (rw [hEx]; exact B355) | (rw [hEx, List.length_set]; exact B355) | exact B355), (by omega), (by rw [hEx]; exact R350), (by omega), (by rw [hEx]; first | omega | (rw [List.length_append]; show _ + 1 ≤ _; omega) | (rw [List.length_set]; omega)), (fun i h => (Nat.lt_succ_iff_lt_or_eq.1 h).elim (hnb i) (fun e => e ▸ (show ¬ opBad o4.m fr l j from fun ⟨h1, h2⟩ => by first | omega | (unfold opGo at h2; omega)))), (by rw [hLa, hEx]; first | exact hl2 | (intro _; rw [List.length_append]; show 0 < _ + 1; omega) | (intro h; omega) | (intro h; rw [List.length_set]; omega))⟩ (hs := by exact ⟨(congrArg (fun z => some (Value.int .i64 z)) hLa.symm), rfl, rfl, rfl, rfl, rfl, trivial⟩) (hu := ((((u215.nx u226).next u229 (fun i hi (h : i = bk223) => show i = px ∨ (i = ge ∧ w0.heap.size ≤ i) ∨ w202.heap.size ≤ i by first | omega | assumption)).nx u344).next u349 (fun i hi (h : i = g2) => show i = px ∨ (i = ge ∧ w0.heap.size ≤ i) ∨ w202.heap.size ≤ i by first | omega | assumption)))
   refine c_same 20 (v := .bool false) rfl (by rw [decide_eq_false g123]) ?_
   refine go ?_
   refine f_ret2 (v1 := .pointer none) (v2 := .int .i64 9) results168 rfl rfl ?_
   exact ⟨⟨none, 9, rfl, .inl ⟨rfl, .inr (.inr ⟨rfl, hne, o1, o4, hq62, hq70, j, by omega, g87, by unfold opGo; omega⟩)⟩⟩, u_d⟩
  refine go ?_
  refine q_p (fun g138 => ?_) fun g138 => ?_
  ·
   have hEx : (opS o4.m fr l (j + 1)).ex = (opS o4.m fr l j).ex := by rw [hS]; show opEx _ _ _ = _; unfold opEx; rw [if_neg (by omega), if_neg (by omega)]
   refine go ?_
   refine t_splitp 144 rfl (fun g144 => ?_) (fun g144 => ?_)
   ·
    refine go ?_
    refine f_ret2 (v1 := .pointer none) (v2 := .int .i64 9) results168 rfl rfl ?_
    exact ⟨⟨none, 9, rfl, .inl ⟨rfl, .inr (.inr ⟨rfl, hne, o1, o4, hq62, hq70, j, by omega, g87, by unfold opGo; omega⟩)⟩⟩, u_d⟩
   refine go ?_
   refine q_p (fun g147 => ?_) fun g147 => ?_
   ·
    refine go ?_
    refine f_ret2 (v1 := .pointer none) (v2 := .int .i64 9) results168 rfl rfl ?_
    exact ⟨⟨none, 9, rfl, .inl ⟨rfl, .inr (.inr ⟨rfl, hne, o1, o4, hq62, hq70, j, by omega, g87, by unfold opGo; omega⟩)⟩⟩, u_d⟩
   refine go ?_
   have B364 := ((I216.kx u226).keep u229 (by omega))
   have D365 := ((hex.keep u226 (fun _ h => h)).keep u229 (fun hb => show ¬ (g2 = bk223) by first | omega | assumption))
   exact hK213 (j + 1) a2 g2 c2 ⟨(by first | (rw [hEx]; exact B364) | (rw [hEx, List.length_set]; exact B364) | exact B364), (by omega), (by rw [hEx]; exact D365), (by omega), (by rw [hEx]; first | omega | (rw [List.length_append]; show _ + 1 ≤ _; omega) | (rw [List.length_set]; omega)), (fun i h => (Nat.lt_succ_iff_lt_or_eq.1 h).elim (hnb i) (fun e => e ▸ (show ¬ opBad o4.m fr l j from fun ⟨h1, h2⟩ => by first | omega | (unfold opGo at h2; omega)))), (by rw [hLa, hEx]; first | exact hl2 | (intro _; rw [List.length_append]; show 0 < _ + 1; omega) | (intro h; omega) | (intro h; rw [List.length_set]; omega))⟩ (hs := by exact ⟨(congrArg (fun z => some (Value.int .i64 z)) hLa.symm), rfl, rfl, rfl, rfl, rfl, trivial⟩) (hu := ((u215.nx u226).next u229 (fun i hi (h : i = bk223) => show i = px ∨ (i = ge ∧ w0.heap.size ≤ i) ∨ w202.heap.size ≤ i by first | omega | assumption)))
  have hEx : (opS o4.m fr l (j + 1)).ex = (opS o4.m fr l j).ex := by rw [hS]; show opEx _ _ _ = _; unfold opEx; rw [if_neg (by omega), if_neg (by omega)]
  refine go ?_
  refine f_ret2 (v1 := .pointer none) (v2 := .int .i64 9) results168 rfl rfl ?_
  exact ⟨⟨none, 9, rfl, .inl ⟨rfl, .inr (.inr ⟨rfl, hne, o1, o4, hq62, hq70, j, by omega, g87, by unfold opGo; omega⟩)⟩⟩, u_d⟩
 refine go ?_
 refine f_ret2 (v1 := .pointer (some ⟨px, 0, none⟩)) (v2 := .int .i64 0) results168 rfl rfl ?_
 have D370 := (((D184.keep u200 (fun h => h)).keep u203 (show ¬ (bM = bk197) by omega)).keep u215 (show ¬ (bM = px ∨ (bM = ge ∧ w0.heap.size ≤ bM) ∨ w202.heap.size ≤ bM) by omega))
 obtain rfl : j = l.length := by omega
 exact ⟨⟨_, 0, rfl, .inr ⟨rfl, _, _, _, _, _, _, rfl, I216, D370, hex, hne, o1, o4, hq62, hq70, hnb, rfl⟩⟩, u_d⟩

end Go.Proofs.YtagmkfbbhfaceaaGreatDoor
namespace Go.Proofs.YtagmkfbbhfaceaaGreatDoor
open Go Go.RowKit Go.Proofs.Tryz
set_option maxRecDepth 10000

theorem upG_mem {α β : Type} [DecidableEq α] {m : List (α × β)} {a : α} {v : β} {p : α × β} (h : p ∈ upG m a v) : p ∈ m ∨ p = (a, v) := by
  unfold upG at h
  split at h
  · rcases List.mem_append.1 h with h | h
    · exact .inl h
    · exact .inr (List.mem_singleton.1 h)
  · exact List.mem_or_eq_of_mem_set h
theorem laS_mem {l : List Msg} : ∀ {k : Nat} {p : (Int × Int) × Msg}, k ≤ l.length → p ∈ laS l k → p.2 ∈ l
  | 0, _, _, h => by cases h
  | k + 1, p, hk, h => by
    unfold laS at h
    split at h
    · rcases upG_mem h with h | h
      · exact laS_mem (by omega) h
      · rw [h]; exact nth_mem (by omega)
    · exact laS_mem (by omega) h
theorem RdR.facts {l out : List Msg} (h : RdR l out 0) : (∀ x ∈ out, x ∈ l) ∧ out.length ≤ l.length ∧ rdE l = 0 := by
  rcases h with ⟨h1, h2, _⟩ | ⟨_, h2, _⟩ | ⟨h0, _, _, hp, _⟩
  · omega
  · omega
  · refine ⟨fun x hx => ?_, ?_, h0⟩
    · obtain ⟨p, hm, rfl⟩ := List.mem_map.1 (List.mem_filter.1 (hp.mem_iff.1 hx)).1
      exact laS_mem (Nat.le_refl _) hm
    · rw [hp.length_eq]
      refine Nat.le_trans (List.length_filter_le _ _) ?_
      rw [List.length_map]
      exact laS_len l l.length
theorem rdE_ok {l : List Msg} (h : rdE l = 0) : l.length ≤ 100 ∧ ∀ x ∈ l, okMsg x = true := by
  unfold rdE at h
  split at h
  · omega
  · split at h
    · omega
    · rename_i h1 h2
      refine ⟨by omega, fun x hx => ?_⟩
      cases hb : okMsg x
      · exact absurd (List.any_eq_true.2 ⟨x, hx, by simp [hb]⟩) h2
      · rfl
theorem chkFr_len {l : List Fre} (h : chkFr l = 0) : l.length ≤ 30 := by
  unfold chkFr at h
  split at h <;> omega
def oneC (l : List Msg) : Bool := !(l.any fun x => decide (x.c ≠ (nth l 0).c))
/-- Why there is no call. -/
def SgE (c : Chr) (ws : List Low) (fr : List Fre) (l : List Msg) (e : Int) : Prop := (chkCh c ws ≠ 0 ∧ e = chkCh c ws) ∨ (chkCh c ws = 0 ∧ chkFr fr ≠ 0 ∧ e = chkFr fr) ∨ (chkCh c ws = 0 ∧ chkFr fr = 0 ∧ e ≠ 0 ∧ ∃ o, RdR l o e) ∨
  (chkCh c ws = 0 ∧ chkFr fr = 0 ∧ ∃ out, RdR l out 0 ∧ ((oneC l = false ∧ e = 4) ∨ (oneC l = true ∧ OpE fr out e)))
theorem own167 : Own Tryz.prog 167 := ⟨Tryz.f167, func167, by kernel_rfl, by kernel_rfl⟩
theorem single1_c (x : Msg) (l : List Msg) (al : Option Addr) (bl ol cl bx : Nat) (w0 : World) (hb : Blk w0 bx 169 [.slice al l.length cl]) (hl : Sl encMsg 6 w0 al bl ol l) (hp : 0 < l.length) :
    CallsV Tryz.prog 167 [.agg #[.int .i64 x.c, .int .i64 x.n, .int .i64 x.r, .int .i64 x.k, .int .i64 x.m, .int .i64 x.v], .pointer (some ⟨bx, 0, none⟩)] w0 (fun v w' => v = .bool (decide (x.c ≠ (nth l 0).c)) ∧ Ext w0 w') := by
 refine f_n func167 ?_
 refine go ?_
 refine x_b fun bk2 w3 ebk2 sbk2 B4 u5 => ?_
 refine go ?_
 refine c_drawnM follows (fun _ => False) (OTl [0, 2, 4, 6, 8, 10, 12, 14]) (by kernel_rfl) fun w8 u9 => ?_
 have zu9 := u9.size
 refine go ?_
 refine y_i 0 (hl.keep (((Upd.refl (fun _ => False) w0).nx u5).nx u9) (fun _ h => h)) (fun _ => ?_)
 refine go ?_
 refine f_1 results167 ?_
 exact ⟨rfl, u_d⟩
set_option maxHeartbeats 4000000 in
theorem single_c (c : Chr) (ws : List Low) (aw : Option Addr) (bw ow cw : Nat) (fr : List Fre) (af : Option Addr) (bf of_ cf : Nat) (l : List Msg) (al : Option Addr) (bl ol cl : Nat) (w0 : World) (hws : Sl encLow 2 w0 aw bw ow ws) (hwl : ws.length ≤ 1000000) (hfr : Sl encFre 2 w0 af bf of_ fr) (hfl : fr.length ≤ 1000000) (hl : Sl encMsg 6 w0 al bl ol l) (hll : l.length ≤ 1000000) (hpos : 0 < w0.heap.size) :
    CallsV Tryz.prog 118 [.agg #[.int .i64 c.s, .int .i64 c.c, .int .i64 c.k, .int .i64 c.r, .int .i64 c.n, .int .i64 c.l, .int .i64 c.o, .int .i64 c.d, .int .i64 c.e, .int .i64 c.m, .slice aw ws.length cw], .slice af fr.length cf, .slice al l.length cl] w0 (fun v w' => (∃ p e, v = .tuple #[.pointer p, .int .i64 e] ∧ ((p = none ∧ e ≠ 0 ∧ SgE c ws fr l e) ∨ (e = 0 ∧ chkCh c ws = 0 ∧ chkFr fr = 0 ∧ oneC l = true ∧ ∃ out, RdR l out 0 ∧ ∃ px r aE gE cE ex, p = some ⟨px, 0, none⟩ ∧ Blk w' px 280 [.int .i64 c.s, .int .i64 c.c, .int .i64 c.k, .int .i64 c.r, .int .i64 c.n, .int .i64 c.l, .int .i64 c.o, .int .i64 c.d, .int .i64 c.e, .int .i64 c.m, .slice aw ws.length cw, .map (some r), .slice aE (List.length ex) cE] ∧ MapG cd1 (onS out out.length) w' r ∧ Acc encFre 2 283 w0.heap.size w' aE gE cE ex ∧ OpOk fr out ex))) ∧ Ext w0 w') := by
 refine f_n func118 ?_
 refine go ?_
 refine x_b fun bk2 w3 ebk2 sbk2 B4 u5 => ?_
 refine x_b fun bk7 w8 ebk7 sbk7 B9 u10 => ?_
 have E11 := Sc.mk (((Upd.refl (fun _ => False) w0).nx u5).nx u10)
 refine go ?_
 refine x_c func163 rfl rfl (CheckCharter_c c ws aw bw ow cw _ (hws.keep E11.u (fun _ h => h)) hwl) ?_
 rintro _ w14 ⟨rfl, u15⟩ zu15
 have E17 := Sc.mk (E11.u.nx u15)
 refine go ?_
 refine q_p (fun g13 => ?_) fun g13 => ?_
 ·
  refine go ?_
  refine x_c func164 rfl rfl (checkFree_c fr af bf of_ cf _ (hfr.keep E17.u (fun _ h => h)) hfl) ?_
  rintro _ w21 ⟨rfl, u22⟩ zu22
  have E24 := Sc.mk (E17.u.nx u22)
  refine go ?_
  refine q_p (fun g17 => ?_) fun g17 => ?_
  ·
   refine go ?_
   refine f_ret2 (v1 := .pointer none) (v2 := .int .i64 (chkFr fr)) results118 rfl rfl ?_
   exact ⟨⟨none, _, rfl, .inl ⟨rfl, by omega, .inr (.inl ⟨g13, by omega, rfl⟩)⟩⟩, u_d⟩
  have g17b : chkFr fr = 0 := by omega
  refine go ?_
  refine x_c func165 rfl rfl (read_c l al bl ol cl _ (hl.keep E24.u (fun _ h => h)) hll (by omega)) ?_
  rintro _ w30 ⟨⟨oRd, aRd, gRd, cRd, eRd, rfl, hRd, hRR⟩, u31⟩ zu31
  have E33 := Sc.mk (E24.u.nx u31)
  have lt_gRd := hRd.lt
  refine go ?_
  refine q_p (fun g24 => ?_) fun g24 => ?_
  ·
   refine go ?_
   refine f_ret2 (v1 := .pointer none) (v2 := .int .i64 eRd) results118 rfl rfl ?_
   exact ⟨⟨none, _, rfl, .inl ⟨rfl, by omega, .inr (.inr (.inl ⟨g13, g17b, by omega, oRd, hRR⟩))⟩⟩, u_d⟩
  obtain rfl : eRd = 0 := by omega
  refine go ?_
  refine t_mkfunc (vs := []) (us := [.pointer (some ⟨bk7, 0, none⟩)]) rfl rfl rfl rfl ?_
  have B38 := (((B9.kx u15).kx u22).kx u31)
  refine x_c func166 rfl rfl (containsM_c encMsg (fun _ => rfl) (fun x => decide (x.c ≠ (nth l 0).c)) 167 [.pointer (some ⟨bk7, 0, none⟩)] l al bl ol cl _ own167 (fun x hx w u => single1_c x l al bl ol cl bk7 w (B38.keep u (fun h => h)) ((hl.keep E33.u (fun _ h => h)).keep u (fun _ h => h)) (List.length_pos_of_mem hx)) (hl.keep E33.u (fun _ h => h)) hll) ?_
  rintro _ w40 ⟨rfl, u41⟩ zu41
  refine go ?_
  refine q_b (fun g28 => ?_) fun g28 => ?_
  ·
   refine go ?_
   refine f_ret2 (v1 := .pointer none) (v2 := .int .i64 4) results118 rfl rfl ?_
   exact ⟨⟨none, 4, rfl, .inl ⟨rfl, by omega, .inr (.inr (.inr ⟨g13, g17b, oRd, hRR, .inl ⟨by unfold oneC; rw [g28]; rfl, rfl⟩⟩))⟩⟩, u_d⟩
  refine go ?_
  have D46 := (hRd.keep u41 (fun _ h => h))
  obtain ⟨hof1, hof2, hof3⟩ := RdR.facts hRR
  have hof4 := rdE_ok hof3
  have hof5 := chkFr_len g17b
  refine x_c func168 rfl rfl (open_cF c ws aw bw ow cw fr af bf of_ cf oRd aRd gRd 0 cRd _ (hfr.keep (E33.u.nx u41) (fun _ h => h)) (by omega) (D46.sl (fun _ => rfl)) (by omega) (fun x hx => hof4.2 x (hof1 x hx)) (by omega)) ?_
  rintro _ w48 ⟨⟨pO, eO, rfl, hO⟩, u49⟩ zu49
  refine go ?_
  refine f_ret2 (v1 := .pointer pO) (v2 := .int .i64 eO) results118 rfl rfl ?_
  have hone : oneC l = true := by unfold oneC; rw [g28]; rfl
  refine ⟨⟨pO, eO, rfl, ?_⟩, u_d⟩
  rcases hO with ⟨rfl, hE⟩ | ⟨rfl, px, r, aE, gE, cE, ex, rfl, hB, hM, hA, hOk⟩
  · refine .inl ⟨rfl, ?_, .inr (.inr (.inr ⟨g13, g17b, oRd, hRR, .inr ⟨hone, hE⟩⟩))⟩
    rcases hE with ⟨rfl, _⟩ | ⟨rfl, _⟩ | ⟨rfl, _⟩ <;> decide
  · obtain ⟨gz, hz⟩ := Acc.lower (base' := w0.heap.size) hA (by omega) hpos
    exact .inr ⟨rfl, g13, g17b, hone, oRd, hRR, px, r, aE, gz, cE, ex, rfl, hB, hM, hz, hOk⟩
 refine go ?_
 refine q_p (fun g17 => ?_) fun g17 => ?_
 ·
  refine go ?_
  refine f_ret2 (v1 := .pointer none) (v2 := .int .i64 (chkCh c ws)) results118 rfl rfl ?_
  exact ⟨⟨none, _, rfl, .inl ⟨rfl, by omega, .inl ⟨g13, rfl⟩⟩⟩, u_d⟩
 exact absurd (show chkCh c ws = 0 by omega) g13

end Go.Proofs.YtagmkfbbhfaceaaGreatDoor
namespace Go.Proofs
open Go.Shelf
def YtagmkfbbhfaceaaGreatDoor.sortF_ren : Go.Shelf.Ren := ⟨fun | 6 => 169 | 15 => 121 | 14 => 212 | 28 => 172 | 29 => 173 | 20 => 231 | 21 => 232 | 22 => 233 | 23 => 234 | 24 => 235 | 25 => 236 | 26 => 237 | 27 => 238 | 46 => 258 | 47 => 259 | 48 => 260 | 49 => 261 | 50 => 262 | 57 => 273 | n => n, fun | 22 => 228 | 24 => 283 | 25 => 284 | 3 => 3 | 39 => 175 | 0 => 0 | 53 => 94 | 55 => 225 | 4 => 4 | 46 => 341 | 45 => 340 | 50 => 200 | 5 => 5 | 9 => 9 | 66 => 364 | 70 => 368 | 76 => 377 | 77 => 113 | n => n, fun | n => n⟩
theorem YtagmkfbbhfaceaaGreatDoor.sortF : Go.Proofs.SlLaysF0.n6 Tryz.prog YtagmkfbbhfaceaaGreatDoor.sortF_ren := {
  mixed := by kernel_rfl
  f6 := ⟨Tryz.f169.name, by decide, Tryz.func169.trans (congrArg some (by kernel_rfl))⟩
  f14 := ⟨Tryz.f212.name, by decide, Tryz.func212.trans (congrArg some (by kernel_rfl))⟩
  f15 := Tryz.func121.trans (congrArg some (by kernel_rfl))
  f20 := ⟨Tryz.f231.name, by decide, Tryz.func231.trans (congrArg some (by kernel_rfl))⟩
  f21 := ⟨Tryz.f232.name, by decide, Tryz.func232.trans (congrArg some (by kernel_rfl))⟩
  f22 := ⟨Tryz.f233.name, by decide, Tryz.func233.trans (congrArg some (by kernel_rfl))⟩
  f23 := ⟨Tryz.f234.name, by decide, Tryz.func234.trans (congrArg some (by kernel_rfl))⟩
  f24 := ⟨Tryz.f235.name, by decide, Tryz.func235.trans (congrArg some (by kernel_rfl))⟩
  f25 := ⟨Tryz.f236.name, by decide, Tryz.func236.trans (congrArg some (by kernel_rfl))⟩
  f26 := ⟨Tryz.f237.name, by decide, Tryz.func237.trans (congrArg some (by kernel_rfl))⟩
  f27 := ⟨Tryz.f238.name, by decide, Tryz.func238.trans (congrArg some (by kernel_rfl))⟩
  f28 := Tryz.func172.trans (congrArg some (by kernel_rfl))
  f29 := Tryz.func173.trans (congrArg some (by kernel_rfl))
  f46 := ⟨Tryz.f258.name, by decide, Tryz.func258.trans (congrArg some (by kernel_rfl))⟩
  f47 := Tryz.func259.trans (congrArg some (by kernel_rfl))
  f48 := Tryz.func260.trans (congrArg some (by kernel_rfl))
  f49 := ⟨Tryz.f261.name, by decide, Tryz.func261.trans (congrArg some (by kernel_rfl))⟩
  f50 := ⟨Tryz.f262.name, by decide, Tryz.func262.trans (congrArg some (by kernel_rfl))⟩
  f57 := ⟨Tryz.f273.name, by decide, Tryz.func273.trans (congrArg some (by kernel_rfl))⟩
  t0 := Tryz.underlying0
  a0 := Tryz.isAgg0
  z0 := Tryz.sizeOf0
  v0 := Tryz.zeroValue0
  t3 := Tryz.underlying3
  a3 := Tryz.isAgg3
  z3 := Tryz.sizeOf3
  v3 := Tryz.zeroValue3
  t4 := Tryz.underlying4
  a4 := Tryz.isAgg4
  z4 := Tryz.sizeOf4
  v4 := Tryz.zeroValue4
  t5 := Tryz.underlying5
  a5 := Tryz.isAgg5
  z5 := Tryz.sizeOf5
  v5 := Tryz.zeroValue5
  t9 := Tryz.underlying9
  a9 := Tryz.isAgg9
  z9 := Tryz.sizeOf9
  v9 := Tryz.zeroValue9
  t22 := Tryz.underlying228
  a22 := Tryz.isAgg228
  z22 := Tryz.sizeOf228
  v22 := Tryz.zeroValue228
  t25 := Tryz.underlying284
  a25 := Tryz.isAgg284
  z25 := Tryz.sizeOf284
  v25 := Tryz.zeroValue284
  t39 := Tryz.underlying175
  a39 := Tryz.isAgg175
  z39 := Tryz.sizeOf175
  v39 := Tryz.zeroValue175
  t45 := Tryz.underlying340
  a45 := Tryz.isAgg340
  z45 := Tryz.sizeOf340
  v45 := Tryz.zeroValue340
  t46 := Tryz.underlying341
  a46 := Tryz.isAgg341
  z46 := Tryz.sizeOf341
  v46 := Tryz.zeroValue341
  t50 := Tryz.underlying200
  a50 := Tryz.isAgg200
  z50 := Tryz.sizeOf200
  v50 := Tryz.zeroValue200
  t53 := Tryz.underlying94
  a53 := Tryz.isAgg94
  z53 := Tryz.sizeOf94
  v53 := Tryz.zeroValue94
  t55 := Tryz.underlying225
  a55 := Tryz.isAgg225
  z55 := Tryz.sizeOf225
  v55 := Tryz.zeroValue225
  t66 := Tryz.underlying364
  a66 := Tryz.isAgg364
  z66 := Tryz.sizeOf364
  v66 := Tryz.zeroValue364
  t70 := Tryz.underlying368
  a70 := Tryz.isAgg368
  z70 := Tryz.sizeOf368
  v70 := Tryz.zeroValue368
  t76 := Tryz.underlying377
  a76 := Tryz.isAgg377
  z76 := Tryz.sizeOf377
  v76 := Tryz.zeroValue377
  t77 := Tryz.underlying113
  a77 := Tryz.isAgg113
  z77 := Tryz.sizeOf113
  v77 := Tryz.zeroValue113 }
end Go.Proofs
namespace Go.Proofs.YtagmkfbbhfaceaaGreatDoor
open Go Go.RowKit Go.Proofs.Tryz
set_option maxRecDepth 10000

/-- Free times within bounds: their begins can be subtracted. -/
structure FrB where
  v : Fre
  h : 0 ≤ v.f ∧ v.f ≤ 100000
instance : Inhabited FrB := ⟨⟨⟨0, 0⟩, by decide⟩⟩
def encFrB (x : FrB) : List Value := encFre x.v
def cmpFr (a b : Fre) : Int := a.f - b.f
def cmpFrB (a b : FrB) : Int := cmpFr a.v b.v
theorem cmpFrB_swo : Go.Sort.SWO (ltOf cmpFrB) where
  irrefl x := by unfold ltOf cmpFrB cmpFr; rw [decide_eq_false_iff_not]; omega
  trans x y z h1 h2 := by
    unfold ltOf cmpFrB cmpFr at *
    rw [decide_eq_true_eq] at *
    omega
  ntrans x y z h1 h2 := by
    unfold ltOf cmpFrB cmpFr at *
    rw [decide_eq_false_iff_not] at *
    omega
theorem Acc.map {α β : Type} {f : α → β} {enc : β → List Value} {k : Nat} {e : TypeId} {base : Nat} {w : World} {ao : Option Addr} {g cap : Nat} {zs : List α} : Acc (fun x => enc (f x)) k e base w ao g cap zs ↔ Acc enc k e base w ao g cap (zs.map f) := by
  constructor
  · rintro ⟨h1, h2⟩
    exact ⟨h1, by simpa [List.flatMap_map] using h2⟩
  · rintro ⟨h1, h2⟩
    exact ⟨h1, by simpa [List.flatMap_map] using h2⟩
theorem own170 : Own Tryz.prog 170 := ⟨Tryz.f170, func170, by kernel_rfl, by kernel_rfl⟩
theorem count1_c (x y : Fre) (w0 : World) (hx : 0 ≤ x.f ∧ x.f ≤ 100000) (hy : 0 ≤ y.f ∧ y.f ≤ 100000) :
    CallsV Tryz.prog 170 [.agg #[.int .i64 x.f, .int .i64 x.t], .agg #[.int .i64 y.f, .int .i64 y.t]] w0 (fun v w' => (v = .int .i64 (cmpFr x y) ∧ Gr w0 w') ∧ Ext w0 w') := by
 refine f_n func170 ?_
 refine go ?_
 refine t_boxG (cs := [.int .i64 x.f, .int .i64 x.t]) rfl rfl rfl rfl (fun bk2 w3 ebk2 sbk2 B4 u5 Gu5 => ?_)
 refine t_boxG (cs := [.int .i64 y.f, .int .i64 y.t]) rfl rfl rfl rfl (fun bk7 w8 ebk7 sbk7 B9 u10 Gu10 => ?_)
 refine go ?_
 refine f_1 results170 ?_
 exact ⟨⟨rfl, (((Gr.refl _).trans Gu5).trans Gu10)⟩, u_d⟩
theorem count1_ok : CmpOk Tryz.prog 170 encFrB cmpFrB := fun x y W => by
  refine Calls.mono (count1_c x.v y.v W x.h y.h) ?_
  rintro e w' ⟨v, rfl, ⟨rfl, hg⟩, _⟩
  exact ⟨rfl, hg.grow⟩
theorem sortFr_c (xs : List Fre) (hok : ∀ x ∈ xs, 0 ≤ x.f ∧ x.f ≤ 100000) (ao : Option Addr) (gb cap base : Nat) (w : World) (ha : Acc encFre 2 283 base w ao gb cap xs) (hl : xs.length ≤ 1000000) :
    CallsV Tryz.prog 169 [.slice ao xs.length cap, .func (.func 170) #[] #[]] w fun v w' => (v = .tuple #[] ∧ ∃ ys, List.Perm ys xs ∧ AscC cmpFr ys ∧ Acc encFre 2 283 base w' ao gb cap ys) ∧ Upd (fun i => i = gb ∧ base ≤ i) w w' := by
  have hm : (xs.pmap FrB.mk hok : List FrB).map FrB.v = xs := by rw [List.map_pmap]; simp
  have hlen : (xs.pmap FrB.mk hok : List FrB).length = xs.length := List.length_pmap
  have h := sort_c YtagmkfbbhfaceaaGreatDoor.sortF 2 (by decide) isAgg283 sizeOf283 encFrB (fun _ => rfl) (by intro x; simp [encFrB, encFre, Value.oneCell']) cmpFrB cmpFrB_swo 170 own170 count1_ok 283 base ao gb cap (xs.pmap FrB.mk hok : List FrB) w ((Acc.map (f := FrB.v) (enc := encFre)).2 (by rw [hm]; exact ha)) (by rw [hlen]; exact hl)
  rw [hlen] at h
  refine Calls.mono h ?_
  rintro e w' ⟨v, rfl, ys, hp, hs, hA, hu, rfl⟩
  refine ⟨_, rfl, ⟨rfl, ys.map FrB.v, ?_, ?_, (Acc.map (f := FrB.v) (enc := encFre)).1 hA⟩, hu⟩
  · have := hp.map FrB.v
    rw [hm] at this
    exact this
  · intro i j hij hj
    rw [List.length_map] at hj
    have h9 := hs i j hij hj
    rw [nth_eq (by rw [List.length_map]; exact hj), nth_eq (by rw [List.length_map]; omega), List.getElem_map, List.getElem_map]
    rw [nth_eq hj, nth_eq (by omega)] at h9
    exact h9
theorem clipF_c (xs : List Fre) (ao : Option Addr) (cap : Nat) (w0 : World) (hc : xs.length ≤ cap) :
    CallsV Tryz.prog 171 [.slice ao xs.length cap] w0 (fun v w' => v = .slice (subAddr ao xs.length 0 2) xs.length xs.length ∧ Ext w0 w') := by
 refine f_n func171 ?_
 refine go ?_
 refine t_sliceC underlying228 sizeOf283 rfl rfl rfl rfl rfl rfl rfl hc ?_
 refine go ?_
 refine f_1 results171 ?_
 exact ⟨rfl, u_d⟩

end Go.Proofs.YtagmkfbbhfaceaaGreatDoor
