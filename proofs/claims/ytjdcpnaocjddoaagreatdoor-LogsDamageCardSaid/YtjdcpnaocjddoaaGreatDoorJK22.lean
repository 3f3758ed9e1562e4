/-
  Part 22 of the proof: contracts and plain laws. Conditions: none.
-/
import Derived.Test.YtjdcpnaocjddoaaGreatDoorJK21
namespace Go.Proofs.YtjdcpnaocjddoaaGreatDoor
open Go Go.RowKit Go.Proofs.Tryz
/-- gauge lines in memory: their levels -/
def GausM (B : Nat) (W : World) (ys : List Gau) : Prop := ∀ z ∈ ys, z.ob = 0 ∧ z.s.length ≤ 17592186044416 ∧ Acc encI 1 3 B W z.ao z.g z.cp z.s
theorem GausM.nil (B : Nat) (W : World) : GausM B W [] := fun _ h => (by cases h)
theorem GausM.keep {B : Nat} {W W' : World} {S : Nat → Prop} {ys : List Gau} (h : GausM B W ys) (u : Upd S W W') (hS : ∀ z ∈ ys, B ≤ z.g → ¬ S z.g) : GausM B W' ys := fun z hz => ⟨(h z hz).1, (h z hz).2.1, (h z hz).2.2.keep u (hS z hz)⟩
theorem GausM.ne {B : Nat} {W : World} {ys xs : List Gau} {ao : Option Addr} {g cp : Nat} (h : GausM B W ys) (ha : Acc encGau 3 80 B W ao g cp xs) : ∀ z ∈ ys, B ≤ z.g → z.g ≠ g := fun z hz hb e => by
  rcases ha.at_ with ⟨_, _, _, h1⟩ | ⟨_, _, cur, h1, _⟩
  · omega
  · rcases (h z hz).2.2.at_ with ⟨_, _, _, h2⟩ | ⟨_, _, cur2, h2, _⟩
    · omega
    · rw [e, h1] at h2
      injection h2 with h2
      injection h2 with _ h3
      exact absurd h3 (by decide)
theorem GausM.snoc {B : Nat} {W : World} {ys : List Gau} {y : Gau} (h : GausM B W ys) (h1 : y.ob = 0) (h2 : y.s.length ≤ 17592186044416) (h3 : Acc encI 1 3 B W y.ao y.g y.cp y.s) : GausM B W (ys ++ [y]) := fun z hz => by
  rcases List.mem_append.1 hz with hz | hz
  · exact h z hz
  · rw [List.mem_singleton.1 hz]; exact ⟨h1, h2, h3⟩
def lowGa (B : Nat) (z : Gau) : Gau := ⟨z.st, z.hr, z.s, z.ao, if B ≤ z.g then z.g else 0, z.ob, z.cp⟩
theorem lowGa_enc (B : Nat) (ys : List Gau) : (ys.map (lowGa B)).flatMap encGau = ys.flatMap encGau := by
  induction ys with
  | nil => rfl
  | cons y ys ih => rw [List.map_cons, List.flatMap_cons, List.flatMap_cons, ih]; rfl
theorem lowGa_bare (B : Nat) (ys : List Gau) : (ys.map (lowGa B)).map Gau.bare = ys.map Gau.bare := by
  rw [List.map_map]; rfl
theorem GausM.low {B B' : Nat} {W : World} {ys : List Gau} (h : GausM B W ys) (h0 : 0 < B') (hB : B' ≤ B) (hW : B' ≤ W.heap.size) : GausM B' W (ys.map (lowGa B)) := fun z hz => by
  obtain ⟨y, hy, rfl⟩ := List.mem_map.1 hz
  obtain ⟨h1, h2, h3⟩ := h y hy
  refine ⟨h1, h2, ?_⟩
  rcases h3.at_ with ⟨e1, e2, e3, e4⟩ | ⟨e1, e2, e3⟩
  · have e : (lowGa B y).g = 0 := if_neg (by omega)
    show Acc encI 1 3 B' W y.ao (lowGa B y).g y.cp y.s
    rw [e, e1, e2, e3]
    exact Acc.nil _ _ _ _ _ h0 hW
  · have e : (lowGa B y).g = y.g := if_pos e2
    show Acc encI 1 3 B' W y.ao (lowGa B y).g y.cp y.s
    rw [e]
    exact ⟨h3.lt, .inr ⟨e1, by omega, e3⟩⟩
theorem Acc.relowG {B : Nat} {W : World} {ys : List Gau} {ao : Option Addr} {g cp : Nat} (C : Nat) (h : Acc encGau 3 80 B W ao g cp ys) : Acc encGau 3 80 B W ao g cp (ys.map (lowGa C)) := by
  refine ⟨h.lt, ?_⟩
  rcases h.at_ with ⟨e1, e2, e3, e4⟩ | ⟨e1, e2, cur, e3, e4, e5, e6, e7⟩
  · exact .inl ⟨e1, by rw [e2]; rfl, e3, e4⟩
  · exact .inr ⟨e1, e2, cur, e3, by rw [List.length_map]; exact e4, e5, e6, by rw [List.length_map, lowGa_enc]; exact e7⟩
abbrev LGa : List UInt8 → Gau × Int := lineG parGL
/-- What the reader's variables hold when these lines have come. -/
def ThCg (s : List UInt8) (bl bi b1 : Nat) (wR : World) (pre : List (List UInt8)) (W : World) : Prop :=
  Upd (fun i => i = bl ∨ i = bi ∨ i = b1 ∨ wR.heap.size + 1 ≤ i) wR W ∧ ∃ (ys : List Gau) (ao : Option Addr) (g cp : Nat), Blk W bl 78 [.slice ao ys.length cp] ∧ Blk W bi 3 [.int .i64 (ys.length : Int)] ∧ Acc encGau 3 80 (wR.heap.size + 2) W ao g cp ys ∧ GausM (wR.heap.size + 2) W ys ∧ ys.length = pre.length ∧ goG LGa [] (linesP s) = goG LGa (ys.map Gau.bare) ((linesP s).drop pre.length) ∧ ∀ z ∈ ys, okGau z = true
/-- .. and when it has left. -/
def ThFg (s : List UInt8) (bl ba be bi b1 : Nat) (wR : World) (_p : List (List UInt8) × List UInt8) (W : World) : Prop :=
  Upd (fun i => i = bl ∨ i = ba ∨ i = be ∨ i = bi ∨ i = b1 ∨ wR.heap.size + 1 ≤ i) wR W ∧ ∃ (i e : Int) (v : Value), Blk W bl 78 [.slice none 0 0] ∧ Blk W ba 3 [.int .i64 i] ∧ Blk W be 26 [.int .i64 e] ∧ Blk W bi 3 [v] ∧ goG LGa [] (linesP s) = ([], i, e)
theorem ThCg.upd {s : List UInt8} {bl bi b1 : Nat} {wR : World} (h1 : bl ≠ b1) (h2 : bi ≠ b1) (hlt : b1 < wR.heap.size) (pre : List (List UInt8)) (W W' : World) (h : ThCg s bl bi b1 wR pre W) (u : Upd (fun i => i = b1) W W') : ThCg s bl bi b1 wR pre W' := by
  obtain ⟨hu, ys, ao, g, cp, a1, a2, a3, a4, a5⟩ := h
  exact ⟨hu.trans (u.mono fun i e => .inr (.inr (.inl e))), ys, ao, g, cp, a1.keep u h1, a2.keep u h2, a3.keep u (fun hb e => by omega), a4.keep u (fun z hz hb e => by omega), a5⟩
theorem ThCg.ext {s : List UInt8} {bl bi b1 : Nat} {wR : World} (pre : List (List UInt8)) (W W' : World) (h : ThCg s bl bi b1 wR pre W) (u : Ext W W') : ThCg s bl bi b1 wR pre W' := by
  obtain ⟨hu, ys, ao, g, cp, a1, a2, a3, a4, a5⟩ := h
  exact ⟨hu.nx u, ys, ao, g, cp, a1.kx u, a2.kx u, a3.keep u (fun _ h => h), a4.keep u (fun _ _ _ h => h), a5⟩
theorem ThCg.turned {s : List UInt8} {bl bi b1 : Nat} {wR : World} : Turned (wR.heap.size + 1) (ThCg s bl bi b1 wR) := fun pre W W' h hl u => by
  obtain ⟨hu, ys, ao, g, cp, a1, a2, a3, a4, a5⟩ := h
  exact ⟨hu.trans (u.mono fun i e => .inr (.inr (.inr (by subst e; exact Nat.le_refl _)))), ys, ao, g, cp, a1.keep u (a1.notLoop hl), a2.keep u (a2.notLoop hl), a3.keep u (fun hb e => by omega), a4.keep u (fun z hz hb e => by omega), a5⟩
theorem ThFg.turned {s : List UInt8} {bl ba be bi b1 : Nat} {wR : World} : Turned (wR.heap.size + 1) (ThFg s bl ba be bi b1 wR) := fun p W W' h hl u => by
  obtain ⟨hu, i, e, v, a1, a2, a3, a4, a5⟩ := h
  exact ⟨hu.trans (u.mono fun i e => .inr (.inr (.inr (.inr (.inr (by subst e; exact Nat.le_refl _)))))), i, e, v, a1.keep u (a1.notLoop hl), a2.keep u (a2.notLoop hl), a3.keep u (a3.notLoop hl), a4.keep u (a4.notLoop hl), a5⟩
theorem nth_bareG (ys : List Gau) (i : Nat) (h : i < ys.length) : nth (ys.map Gau.bare) i = (nth ys i).bare := by
  rw [nth_eq (by rw [List.length_map]; exact h), nth_eq h, List.getElem_map]
theorem gg_bad {s u : List UInt8} {ys : List Gau} {k : Nat} (h : goG LGa [] (linesP s) = goG LGa (ys.map Gau.bare) ((linesP s).drop k)) (hd : (linesP s).drop k = u :: (linesP s).drop (k + 1)) (he : (LGa u).2 ≠ 0) : goG LGa [] (linesP s) = ([], (ys.length : Int), (LGa u).2) := by
  rw [h, hd, goG_bad he, List.length_map]
theorem gg_twice {s u : List UInt8} {ys : List Gau} {k : Nat} {y : Gau} (h : goG LGa [] (linesP s) = goG LGa (ys.map Gau.bare) ((linesP s).drop k)) (hd : (linesP s).drop k = u :: (linesP s).drop (k + 1)) (he : (LGa u).2 = 0) (hy : y.bare = (LGa u).1) (h2 : 0 < ys.length ∧ ¬ aftG (nth ys (ys.length - 1)) y) : goG LGa [] (linesP s) = ([], (ys.length : Int), 6) := by
  rw [h, hd, goG_twice he (by rw [List.length_map, nth_bareG _ _ (by omega), ← hy]; exact h2), List.length_map]
theorem gg_next {s u : List UInt8} {ys : List Gau} {k : Nat} {y : Gau} (h : goG LGa [] (linesP s) = goG LGa (ys.map Gau.bare) ((linesP s).drop k)) (hd : (linesP s).drop k = u :: (linesP s).drop (k + 1)) (he : (LGa u).2 = 0) (hy : y.bare = (LGa u).1) (h2 : ¬ (0 < ys.length ∧ ¬ aftG (nth ys (ys.length - 1)) y)) : goG LGa [] (linesP s) = goG LGa ((ys ++ [y]).map Gau.bare) ((linesP s).drop (k + 1)) := by
  rw [h, hd, goG_next he (fun q => h2 (by
    rw [List.length_map] at q
    refine ⟨q.1, ?_⟩
    have := q.2
    rw [nth_bareG _ _ (by omega), ← hy] at this
    exact this)), List.map_append, ← hy]; rfl
theorem gg_done {s : List UInt8} {ys : List Gau} {k : Nat} (h : goG LGa [] (linesP s) = goG LGa (ys.map Gau.bare) ((linesP s).drop k)) (hk : k = (linesP s).length) : goG LGa [] (linesP s) = (ys.map Gau.bare, 0, 0) := by
  rw [h, List.drop_of_length_le (by omega)]; rfl
theorem readG_e {L : List UInt8 → Gau × Int} {s : List UInt8} {e : Int} (h : linesR s = ([], e)) (he : e ≠ 0) : readG L s = ([], 0, e) := by unfold readG; rw [h, if_pos he]
theorem readG_0 {L : List UInt8 → Gau × Int} {s : List UInt8} (h : linesR s = (linesP s, 0)) : readG L s = goG L [] (linesP s) := by unfold readG; rw [h, if_neg (fun e => e rfl)]
theorem lineG_okk {p : List UInt8 → Gau} {s : List UInt8} (h : (lineG p s).2 = 0) : okGau (lineG p s).1 = true := by
  unfold lineG at h ⊢
  split at h
  · rename_i h1; exact absurd h h1
  · rename_i h1
    split at h
    · rename_i h2; rw [if_neg h1, if_pos h2]; exact h2.1
    · cases h
theorem gline_b (B : Nat) (s : List UInt8) (w0 : World) (hB : B ≤ w0.heap.size) (h0 : 0 < B) (hsl : s.length ≤ 200000) (hE : ErrV w0) (hT : Tab10 w0) : CallsV Tryz.prog 133 [.agg #[.func (.func 128) #[] #[], .func (.func 129) #[] #[], .func (.func 130) #[] #[], .func (.func 131) #[] #[], .int .i64 200], .string (strB s)] w0 fun v w' => (∃ y : Gau, v = .tuple #[.agg (encGau y).toArray, .int .i64 (LGa s).2] ∧ ((LGa s).2 = 0 → y.bare = (LGa s).1) ∧ y.ob = 0 ∧ y.s.length ≤ 17592186044416 ∧ Acc encI 1 3 B w' y.ao y.g y.cp y.s ∧ (B ≤ y.g → w0.heap.size ≤ y.g)) ∧ Ext w0 w' := by
  refine (gline_c s w0 hsl hE hT (by omega)).mono ?_
  rintro v w' ⟨⟨y, rfl, h1, h2, h3, h4⟩, u⟩
  rcases h4.at_ with ⟨e1, e2, e3, e4⟩ | ⟨e1, e2, e3⟩
  · refine ⟨⟨⟨y.st, y.hr, y.s, y.ao, 0, y.ob, y.cp⟩, rfl, h1, h2, h3, ?_, fun h => absurd h (by show ¬ B ≤ 0; omega)⟩, u⟩
    show Acc encI 1 3 B w' y.ao 0 y.cp y.s
    rw [e1, e2, e3]
    exact Acc.nil _ _ _ _ _ h0 (Nat.le_trans hB u.size)
  · exact ⟨⟨y, rfl, h1, h2, h3, ⟨h4.lt, .inr ⟨e1, by omega, e3⟩⟩, fun _ => e2⟩, u⟩

set_option maxRecDepth 20000 in
set_option maxHeartbeats 4000000 in
theorem gthings_c (s : List UInt8) (w0 : World) (hsl : s.length ≤ 1000000) (hE : ErrV w0) (hT : Tab10 w0) (hpos : 0 < w0.heap.size) :
    CallsV Tryz.prog 89 [.agg #[.func (.func 128) #[] #[], .func (.func 129) #[] #[], .func (.func 130) #[] #[], .func (.func 131) #[] #[], .int .i64 200], .string (strB s)] w0 (fun v w' => (∃ ys a9 g9 c9, v = .tuple #[.slice a9 (List.length ys) c9, .int .i64 (readG LGa s).2.1, .int .i64 (readG LGa s).2.2] ∧ ys.map Gau.bare = (readG LGa s).1 ∧ Acc encGau 3 80 w0.heap.size w' a9 g9 c9 ys ∧ GausM w0.heap.size w' ys) ∧ Ext w0 w') := by
 refine f_enterM (N := 70) func89 rfl rfl rfl (q_of ?_)
 refine go ?_
 refine x_b fun bk2 w3 ebk2 sbk2 B4 u5 => ?_
 refine x_n fun bk7 w8 ebk7 sbk7 B9 u10 => ?_
 refine x_n fun bk12 w13 ebk12 sbk12 B14 u15 => ?_
 refine x_n fun bk17 w18 ebk17 sbk17 B19 u20 => ?_
 have E21 := Sc.mk (((((Upd.refl (fun _ => False) w0).nx u5).nx u10).nx u15).nx u20)
 refine go ?_
 refine t_lenS underlying9 rfl rfl rfl rfl ?_
 refine go ?_
 refine q_p (fun g11 => ?_) fun g11 => ?_
 ·
  refine go ?_
  have B25 := ((B9.kx u15).kx u20)
  refine x_s fun w26 sw26 B28 u27 => ?_
  have B30 := ((B14.kx u20).keep u27 (by omega))
  refine x_s fun w31 sw31 B33 u32 => ?_
  have B35 := ((B19.keep u27 (by omega)).keep u32 (by omega))
  refine x_s fun w36 sw36 B38 u37 => ?_
  refine go ?_
  have B40 := ((B28.keep u32 (by omega)).keep u37 (by omega))
  have B41 := (B33.keep u37 (by omega))
  have D44 := ((((((((show Marks w0.heap.size [] w0 from trivial).keep u5 (CellsIn.none _)).keep u10 (CellsIn.none _)).keep u15 (CellsIn.none _)).keep u20 (CellsIn.none _)).keep u27 (B25).cellsIn).keep u32 (B30).cellsIn).keep u37 (B35).cellsIn)
  have hmkE := D44
  refine f_retMc3 (v1 := .slice none 0 0) (v2 := .int .i64 0) (v3 := .int .i64 5) results89 (.cell D44 rfl isAgg78 B40 rfl) (.cell D44 rfl isAgg3 B41 rfl) (.cell D44 rfl isAgg26 B38 rfl) D44 (fun w42 u43 omw42 => ?_)
  have zu43 := u43.size
  have hr9 : readG LGa s = ([], 0, 5) := readG_e (by unfold linesR; rw [if_pos (by omega)]) (by decide)
  exact ⟨⟨[], none, 0, 0, by rw [hr9]; rfl, by rw [hr9]; rfl, Acc.nil _ _ _ _ _ hpos (by omega), GausM.nil _ _⟩, ((((E21.u.next u27 (fun i hi h => by omega)).next u32 (fun i hi h => by omega)).next u37 (fun i hi h => by omega)).next u43 (fun i hi (h : w0.heap.size ≤ i) => show False by first | omega | assumption))⟩
 refine x_k1 (fun _ => False) [1, 2, 4, 5, 6] (fun (z9 : Bool) => [(18, .bool z9)]) (fun z9 w => (z9 = decide (s ≠ [] ∧ nth s (s.length - 1) ≠ 10))) (fun K50 hK50 => ?_) ?_
 ·
  refine go ?_
  refine t_bo (Bo.neS s ([])) rfl rfl rfl rfl ?_
  refine go ?_
  refine t_splitp 21 rfl (fun g21 => ?_) (fun g21 => ?_)
  ·
   refine go ?_
   refine x_c func121 rfl rfl (has_c s 10 _ (by omega)) ?_
   rintro _ w54 ⟨rfl, u55⟩ zu55
   refine go ?_
   exact hK50 (decide (¬ (s ≠ [] ∧ nth s (s.length - 1) = 10))) (by first | exact (decide_eq_false (fun h => by first | exact absurd h.1 (by assumption) | contradiction)).symm | exact decide_eq_decide.2 ⟨fun h => ⟨by assumption, fun e => h ⟨by assumption, e⟩⟩, fun h e => h.2 e.2⟩)
  refine go ?_
  exact hK50 false (by first | exact (decide_eq_false (fun h => by first | exact absurd h.1 (by assumption) | contradiction)).symm | exact decide_eq_decide.2 ⟨fun h => ⟨by assumption, fun e => h ⟨by assumption, e⟩⟩, fun h e => h.2 e.2⟩)
 rintro z9 w51 hz9 u52 zu52
 have E58 := Sc.mk (E21.u.nx u52)
 refine q_b (fun g18 => ?_) fun g18 => ?_
 ·
  have hzb : (s ≠ [] ∧ nth s (s.length - 1) ≠ 10) := by rw [hz9] at g18; exact of_decide_eq_true g18
  refine go ?_
  have B60 := (((B9.kx u15).kx u20).kx u52)
  refine x_s fun w61 sw61 B63 u62 => ?_
  have B65 := (((B14.kx u20).kx u52).keep u62 (by omega))
  refine x_s fun w66 sw66 B68 u67 => ?_
  have B70 := (((B19.kx u52).keep u62 (by omega)).keep u67 (by omega))
  refine x_s fun w71 sw71 B73 u72 => ?_
  refine go ?_
  have B75 := ((B63.keep u67 (by omega)).keep u72 (by omega))
  have B76 := (B68.keep u72 (by omega))
  have D79 := (((((((((show Marks w0.heap.size [] w0 from trivial).keep u5 (CellsIn.none _)).keep u10 (CellsIn.none _)).keep u15 (CellsIn.none _)).keep u20 (CellsIn.none _)).keep u52 (CellsIn.none _)).keep u62 (B60).cellsIn).keep u67 (B65).cellsIn).keep u72 (B70).cellsIn)
  have hmkE := D79
  refine f_retMc3 (v1 := .slice none 0 0) (v2 := .int .i64 0) (v3 := .int .i64 120) results89 (.cell D79 rfl isAgg78 B75 rfl) (.cell D79 rfl isAgg3 B76 rfl) (.cell D79 rfl isAgg26 B73 rfl) D79 (fun w77 u78 omw77 => ?_)
  have zu78 := u78.size
  have hr9 : readG LGa s = ([], 0, 120) := readG_e (by unfold linesR; rw [if_neg (by omega), if_pos hzb]) (by decide)
  exact ⟨⟨[], none, 0, 0, by rw [hr9]; rfl, by rw [hr9]; rfl, Acc.nil _ _ _ _ _ hpos (by omega), GausM.nil _ _⟩, ((((E58.u.next u62 (fun i hi h => by omega)).next u67 (fun i hi h => by omega)).next u72 (fun i hi h => by omega)).next u78 (fun i hi (h : w0.heap.size ≤ i) => show False by first | omega | assumption))⟩
 have hzb : ¬ (s ≠ [] ∧ nth s (s.length - 1) ≠ 10) := by rw [hz9] at g18; exact of_decide_eq_false g18
 have hend : s ≠ [] → nth s (s.length - 1) = 10 := fun h => Decidable.not_not.1 (fun e => hzb ⟨h, e⟩)
 have hlc := linesP_count s
 refine go ?_
 refine c_drawnM follows (fun _ => False) (OTl [0, 4, 6, 3, 8, 10]) (by kernel_rfl) fun w82 u83 => ?_
 have zu83 := u83.size
 refine go ?_
 refine x_c func122 rfl rfl (count_c s 10 _) ?_
 rintro _ w86 ⟨rfl, u87⟩ zu87
 have E89 := Sc.mk ((E58.u.nx u83).nx u87)
 refine go ?_
 refine q_p (fun g26 => ?_) fun g26 => ?_
 ·
  refine go ?_
  have B91 := (((((B9.kx u15).kx u20).kx u52).kx u83).kx u87)
  refine x_s fun w92 sw92 B94 u93 => ?_
  have B96 := (((((B14.kx u20).kx u52).kx u83).kx u87).keep u93 (by omega))
  refine x_s fun w97 sw97 B99 u98 => ?_
  have B101 := (((((B19.kx u52).kx u83).kx u87).keep u93 (by omega)).keep u98 (by omega))
  refine x_s fun w102 sw102 B104 u103 => ?_
  refine go ?_
  have B106 := ((B94.keep u98 (by omega)).keep u103 (by omega))
  have B107 := (B99.keep u103 (by omega))
  have D110 := (((((((((((show Marks w0.heap.size [] w0 from trivial).keep u5 (CellsIn.none _)).keep u10 (CellsIn.none _)).keep u15 (CellsIn.none _)).keep u20 (CellsIn.none _)).keep u52 (CellsIn.none _)).keep u83 (CellsIn.none _)).keep u87 (CellsIn.none _)).keep u93 (B91).cellsIn).keep u98 (B96).cellsIn).keep u103 (B101).cellsIn)
  have hmkE := D110
  refine f_retMc3 (v1 := .slice none 0 0) (v2 := .int .i64 0) (v3 := .int .i64 5) results89 (.cell D110 rfl isAgg78 B106 rfl) (.cell D110 rfl isAgg3 B107 rfl) (.cell D110 rfl isAgg26 B104 rfl) D110 (fun w108 u109 omw108 => ?_)
  have zu109 := u109.size
  have hr9 : readG LGa s = ([], 0, 5) := readG_e (by unfold linesR; rw [if_neg (by omega), if_neg hzb, if_pos (by omega)]) (by decide)
  exact ⟨⟨[], none, 0, 0, by rw [hr9]; rfl, by rw [hr9]; rfl, Acc.nil _ _ _ _ _ hpos (by omega), GausM.nil _ _⟩, ((((E89.u.next u93 (fun i hi h => by omega)).next u98 (fun i hi h => by omega)).next u103 (fun i hi h => by omega)).next u109 (fun i hi (h : w0.heap.size ≤ i) => show False by first | omega | assumption))⟩
 have hlR : linesR s = (linesP s, 0) := by unfold linesR; rw [if_neg (by omega), if_neg hzb, if_neg (by omega)]
 refine go ?_
 refine x_n fun bk113 w114 ebk113 sbk113 B115 u116 => ?_
 refine x_s fun w118 sw118 B120 u119 => ?_
 refine go ?_
 refine x_c func123 rfl rfl (Lines_c s _) ?_
 rintro _ w125 ⟨⟨b1, rfl, hg1, hb1⟩, u126⟩ zu126
 have E128 := Sc.mk (((E89.u.nx u116).next u119 (fun i hi h => by omega)).nx u126)
 have lb1 := hb1.lt
 refine go ?_
 have B129 := ((((((((B9.kx u15).kx u20).kx u52).kx u83).kx u87).kx u116).keep u119 (by omega)).kx u126)
 have B130 := (((((((B14.kx u20).kx u52).kx u83).kx u87).kx u116).keep u119 (by omega)).kx u126)
 have B131 := ((((((B19.kx u52).kx u83).kx u87).kx u116).keep u119 (by omega)).kx u126)
 have B132 := (B120.kx u126)
 have lw_bk7 := B129.lt
 have lw_bk12 := B130.lt
 have lw_bk17 := B131.lt
 have lw_bk113 := B132.lt
 have lw_b1 := hb1.lt
 refine WC.weak [(2, .pointer (some ⟨bk2, 0, none⟩)), (4, .pointer (some ⟨bk7, 0, none⟩)), (5, .pointer (some ⟨bk12, 0, none⟩)), (6, .pointer (some ⟨bk17, 0, none⟩)), (7, .pointer (some ⟨bk113, 0, none⟩)), (33, .func (.func 155) #[] #[.pointer (some ⟨b1, 0, none⟩)])] ⟨rfl, rfl, rfl, rfl, rfl, rfl, trivial⟩ (c_rangeL (γ := StX) (δ := Unit) (lb := [.pointer (some ⟨b1, 0, none⟩)]) (enc := encStX) own155 rfl rfl (YSt (lnsP s) w125.heap.size (ThCg s bk7 bk113 b1 w125)) (ZSt (fun i => i = bk7 ∨ i = bk12 ∨ i = bk17 ∨ i = bk113 ∨ w125.heap.size + 1 ≤ i) (ThCg s bk7 bk113 b1 w125)) (FSt (fun i => i = bk7 ∨ i = bk12 ∨ i = bk17 ∨ i = bk113 ∨ w125.heap.size + 1 ≤ i) (ThFg s bk7 bk12 bk17 bk113 b1 w125)) (ThCg s bk7 bk113 b1 w125 (lnsP s)) (EndS (lnsP s) (ThFg s bk7 bk12 bk17 bk113 b1 w125)) (ZSt.turned ThCg.turned (by simp)) (FSt.turned ThFg.turned (by simp)) (fun _ W W' h hl u => ThCg.turned _ W W' h hl u) (EndS.turned ThFg.turned) ?_ (fun x d => [(2, .pointer (some ⟨bk2, 0, none⟩)), (4, .pointer (some ⟨bk7, 0, none⟩)), (5, .pointer (some ⟨bk12, 0, none⟩)), (6, .pointer (some ⟨bk17, 0, none⟩)), (7, .pointer (some ⟨bk113, 0, none⟩)), (8, .string (strB x.v))]) (fun x (d : Unit) W => YSt (lnsP s) w125.heap.size (ThCg s bk7 bk113 b1 w125) x W) (fun d => YSt.turned ThCg.turned) ?_ ?_ ?_ ?_)
 ·
  intro l_ D R Rf W hD hl_ hsz hE1 hH hR
  subst hD hl_
  refine (lines1_c s b1 _ _ (fun i => i = bk7 ∨ i = bk12 ∨ i = bk17 ∨ i = bk113 ∨ w125.heap.size + 1 ≤ i) (ThCg s bk7 bk113 b1 w125) (ThFg s bk7 bk12 bk17 bk113 b1 w125) R Rf W (fun p W W' h u => ThCg.upd (by omega) (by omega) (by omega) p W W' h u) hH rfl (by omega) hR ⟨Ext.to hE1, [], none, 0, 0, B129.kx hE1, B132.kx hE1, Acc.nil _ _ _ _ _ (by omega) (by omega), GausM.nil _ _, rfl, rfl, (fun _ h => by cases h)⟩ (hb1.kx hE1) (by omega) hend (show ¬ (b1 = bk7 ∨ b1 = bk12 ∨ b1 = bk17 ∨ b1 = bk113 ∨ w125.heap.size + 1 ≤ b1) by omega)).mono fun _ _ h => h.1
 ·
  intro lq x W K133 hI hK133
  change WC _ _ _ _ _ _ [(34, .string (strB x.v)), (2, .pointer (some ⟨bk2, 0, none⟩)), (4, .pointer (some ⟨bk7, 0, none⟩)), (5, .pointer (some ⟨bk12, 0, none⟩)), (6, .pointer (some ⟨bk17, 0, none⟩)), (7, .pointer (some ⟨bk113, 0, none⟩)), (33, .func (.func 155) #[] #[.pointer (some ⟨b1, 0, none⟩)])] _
  refine (q_of ?_)
  have E000 := Sc.mk (Upd.refl (fun _ => False) W)
  obtain ⟨_, ⟨hrg, hDW⟩, hux⟩ := id hI
  refine go ?_
  exact hK133 () _ _ ⟨rfl, rfl, rfl, rfl, rfl, rfl, trivial⟩ E000.u ⟨ThCg.ext _ _ _ hI.1 E000.u, ⟨hrg, by have := (E000.u).size; omega⟩, hux.nx E000.u⟩
 ·
  intro lq x d w134 hY
  obtain ⟨⟨hu0, ys, ao2, g2, c2, hcl, hci, hac, hM, hyn, hgo, hko⟩, ⟨⟨r9, hr9⟩, hDW⟩, hux⟩ := hY
  obtain ⟨u9, hxv, hdr, hul, hpl⟩ := lns_at hr9
  have hMne := hM.ne hac
  have zhu0 := hu0.size
  have lt_g2 := hac.lt
  have hlcl := hcl.lt
  have hbg : (w125.heap.size + 2) ≤ g2 → g2 ≠ bk7 ∧ g2 ≠ bk113 := fun h => by omega
  change WC _ _ _ _ _ _ [(2, .pointer (some ⟨bk2, 0, none⟩)), (4, .pointer (some ⟨bk7, 0, none⟩)), (5, .pointer (some ⟨bk12, 0, none⟩)), (6, .pointer (some ⟨bk17, 0, none⟩)), (7, .pointer (some ⟨bk113, 0, none⟩)), (8, .string (strB x.v))] _
  refine (q_of ?_)
  have B136 := (B130.keep hu0 (show ¬ (bk12 = bk7 ∨ bk12 = bk113 ∨ bk12 = b1 ∨ w125.heap.size + 1 ≤ bk12) by first | omega | assumption))
  have B137 := (B131.keep hu0 (show ¬ (bk17 = bk7 ∨ bk17 = bk113 ∨ bk17 = b1 ∨ w125.heap.size + 1 ≤ bk17) by first | omega | assumption))
  have hcellsR := ((hcl).cellsIn.or ((B136).cellsIn.or ((B137).cellsIn.or ((hci).cellsIn.or (hac).cellsIn))))
  refine go ?_
  refine c_drawnM follows (fun _ => False) (.look 0 (.look 1 (.act 2 (.act 3 (.look 4 (.look 5 (.look 6 (.act 7 (.act 8 (.look 9 .done) .stop) .stop)))) (.act 7 (.act 3 (.look 4 (.look 5 (.look 6 (.act 8 (.look 9 .done) .stop)))) .stop) .stop)) (.act 7 (.act 2 (.act 3 (.look 4 (.look 5 (.look 6 (.act 8 (.look 9 .done) .stop)))) .stop) .stop) .stop)))) (by kernel_rfl) fun w139 u140 => ?_
  have zu140 := u140.size
  have E141 := Sc.mk ((E128.u.next hu0 (fun i hi (h : i = bk7 ∨ i = bk113 ∨ i = b1 ∨ w125.heap.size + 1 ≤ i) => show False by first | omega | assumption)).nx u140)
  have k142 := ((((((((((B4.kx u10).kx u15).kx u20).kx u52).kx u83).kx u87).kx u116).keep u119 (by omega)).kx u126).keep hu0 (show ¬ (bk2 = bk7 ∨ bk2 = bk113 ∨ bk2 = b1 ∨ w125.heap.size + 1 ≤ bk2) by first | omega | assumption))
  refine go ?_
  refine s_or ?_ ?_
  ·
   refine go ?_
   refine x_c func125 rfl rfl (by have h9 := trim_c u9 10 w139 (by omega); rw [← hxv] at h9; exact h9) ?_
   rintro _ w144 ⟨rfl, u145⟩ zu145
   have E147 := Sc.mk (E141.u.nx u145)
   refine go ?_
   refine s_or ?_ ?_
   ·
    refine go ?_
    refine x_c func133 rfl rfl (gline_b (w125.heap.size + 2) u9 _ (by omega) (by omega) (by omega) (hE.ext E147.u) (hT.ext E147.u)) ?_
    rintro _ w149 ⟨⟨y, rfl, hye, hyo, hyl, haY, hyw⟩, u150⟩ zu150
    have lt_y_g := haY.lt
    have D153 := (((hac.keep u140 (fun _ h => h)).keep u145 (fun _ h => h)).keep u150 (fun _ h => h))
    have hyne : (w125.heap.size + 2) ≤ y.g → y.g ≠ g2 := fun hb => (GausM.snoc (GausM.nil (w125.heap.size + 2) _) hyo hyl haY).ne D153 y (by simp) hb
    refine go ?_
    refine x_n fun bk154 w155 ebk154 sbk154 B156 u157 => ?_
    refine go ?_
    refine x_s fun w159 sw159 B161 u160 => ?_
    refine go ?_
    refine q_p (fun g42 => ?_) fun g42 => ?_
    ·
     refine go ?_
     refine c_drawnM follows (fun i => i = bk7 ∨ i = bk12 ∨ i = bk17) (OTl [0, 2, 5, 7, 9]) (by kernel_rfl) fun w166 u167 => ?_
     have zu167 := u167.size
     refine go ?_
     refine x_s fun w170 sw170 B172 u171 => ?_
     refine go ?_
     refine x_s fun w175 sw175 B177 u176 => ?_
     refine go ?_
     refine x_s fun w180 sw180 B182 u181 => ?_
     refine go ?_
     have hUr := ((((((((((Upd.refl (fun i => i = bk7 ∨ i = bk12 ∨ i = bk17 ∨ i = bk113 ∨ (i = g2 ∧ (w125.heap.size + 2) ≤ i)) w134).nx u140).nx u145).nx u150).nx u157).next u160 (fun i hi h => by omega)).nx u167).next u171 (fun i hi h => by omega)).next u176 (fun i hi h => by omega)).next u181 (fun i hi h => by omega))
     have B184 := ((B172.keep u176 (by omega)).keep u181 (by omega))
     have B185 := (B177.keep u181 (by omega))
     have B186 := (((((((((hci.kx u140).kx u145).kx u150).kx u157).keep u160 (by omega)).kx u167).keep u171 (by omega)).keep u176 (by omega)).keep u181 (by omega))
     exact ⟨fun a ha => ⟨KeepsFrom.of_upd hUr hcellsR, ⟨⟨((((((((((hu0.mono fun i h => show i = bk7 ∨ i = bk12 ∨ i = bk17 ∨ i = bk113 ∨ i = b1 ∨ w125.heap.size + 1 ≤ i by have h : i = bk7 ∨ i = bk113 ∨ i = b1 ∨ w125.heap.size + 1 ≤ i := h; omega).nx u140).nx u145).nx u150).nx u157).next u160 (fun i hi (h : i = bk154) => show i = bk7 ∨ i = bk12 ∨ i = bk17 ∨ i = bk113 ∨ i = b1 ∨ w125.heap.size + 1 ≤ i by omega)).nx u167).next u171 (fun i hi (h : i = bk7) => show i = bk7 ∨ i = bk12 ∨ i = bk17 ∨ i = bk113 ∨ i = b1 ∨ w125.heap.size + 1 ≤ i by omega)).next u176 (fun i hi (h : i = bk12) => show i = bk7 ∨ i = bk12 ∨ i = bk17 ∨ i = bk113 ∨ i = b1 ∨ w125.heap.size + 1 ≤ i by omega)).next u181 (fun i hi (h : i = bk17) => show i = bk7 ∨ i = bk12 ∨ i = bk17 ∨ i = bk113 ∨ i = b1 ∨ w125.heap.size + 1 ≤ i by omega)), _, _, _, B184, B185, B182, B186, gg_bad hgo hdr g42⟩, ((hux.mono fun i e => .inr (.inr (.inr (.inr (by subst e; exact Nat.le_refl _))))).trans ((((((((((Upd.refl (fun i => i = bk7 ∨ i = bk12 ∨ i = bk17 ∨ i = bk113 ∨ w125.heap.size + 1 ≤ i) _).nx u140).nx u145).nx u150).nx u157).next u160 (fun i hi (h : i = bk154) => show i = bk7 ∨ i = bk12 ∨ i = bk17 ∨ i = bk113 ∨ w125.heap.size + 1 ≤ i by omega)).nx u167).next u171 (fun i hi (h : i = bk7) => show i = bk7 ∨ i = bk12 ∨ i = bk17 ∨ i = bk113 ∨ w125.heap.size + 1 ≤ i by omega)).next u176 (fun i hi (h : i = bk12) => show i = bk7 ∨ i = bk12 ∨ i = bk17 ∨ i = bk113 ∨ w125.heap.size + 1 ≤ i by omega)).next u181 (fun i hi (h : i = bk17) => show i = bk7 ∨ i = bk12 ∨ i = bk17 ∨ i = bk113 ∨ w125.heap.size + 1 ≤ i by omega)))⟩⟩⟩
    have hle : (LGa u9).2 = 0 := by omega
    refine x_k1 (fun _ => False) [2, 4, 5, 6, 7, 8, 9, 10, 35, 36, 37, 38, 39, 40, 41, 42, 43, 44] (fun (z7 : Bool) => [(47, .bool z7)]) (fun z7 w => (z7 = decide (0 < ys.length ∧ ¬ aftG (nth ys (ys.length - 1)) y))) (fun K191 hK191 => ?_) ?_
    ·
     refine c_drawnM follows (fun _ => False) (OTl [0, 2, 4, 6, 8, 10, 12, 14, 16, 18, 20, 23, 24, 26, 28]) (by kernel_rfl) fun w194 u195 => ?_
     have zu195 := u195.size
     refine go ?_
     refine y_splitp 50 rfl (fun g50 => ?_) (fun g50 => ?_)
     ·
      refine go ?_
      have k197 := ((((((((((B4.kx u10).kx u15).kx u20).kx u52).kx u83).kx u87).kx u116).keep u119 (by omega)).kx u126).keep hu0 (show ¬ (bk2 = bk7 ∨ bk2 = bk113 ∨ bk2 = b1 ∨ w125.heap.size + 1 ≤ bk2) by first | omega | assumption))
      refine go ?_
      have D198 := (((D153.keep u157 (fun _ h => h)).keep u160 (fun hb => show ¬ (g2 = bk154) by first | omega | assumption)).keep u195 (fun _ h => h))
      refine y_i (ys.length - 1) (D198.sl (fun _ => rfl)) (fun _ => ?_) (hj := (by omega))
      refine go ?_
      refine x_c func129 rfl rfl (gaugeAfter_c (nth ys (ys.length - 1)) y _ (hko _ (nth_mem (xs := ys) (i := ys.length - 1) (by omega)))) ?_
      rintro _ w201 ⟨rfl, u202⟩ zu202
      refine go ?_
      exact hK191 (decide (¬ (aftG (nth ys (ys.length - 1)) y))) (by first | exact (decide_eq_false (by omega)).symm | exact decide_eq_decide.2 ⟨fun h => ⟨by omega, h⟩, fun h => h.2⟩)
     refine go ?_
     exact hK191 false (by first | exact (decide_eq_false (by omega)).symm | exact decide_eq_decide.2 ⟨fun h => ⟨by omega, h⟩, fun h => h.2⟩)
    rintro z7 w192 hz7 u193 zu193
    refine q_b (fun g47 => ?_) fun g47 => ?_
    ·
     have hzt : (0 < ys.length ∧ ¬ aftG (nth ys (ys.length - 1)) y) := by rw [hz7] at g47; exact of_decide_eq_true g47
     refine go ?_
     refine c_drawnM follows (fun i => i = bk7 ∨ i = bk12 ∨ i = bk17) (OTl [0, 3, 5, 7]) (by kernel_rfl) fun w207 u208 => ?_
     have zu208 := u208.size
     refine go ?_
     refine x_s fun w211 sw211 B213 u212 => ?_
     refine go ?_
     refine x_s fun w216 sw216 B218 u217 => ?_
     refine go ?_
     refine x_s fun w221 sw221 B223 u222 => ?_
     refine go ?_
     have hUr := (((((((((((Upd.refl (fun i => i = bk7 ∨ i = bk12 ∨ i = bk17 ∨ i = bk113 ∨ (i = g2 ∧ (w125.heap.size + 2) ≤ i)) w134).nx u140).nx u145).nx u150).nx u157).next u160 (fun i hi h => by omega)).nx u193).nx u208).next u212 (fun i hi h => by omega)).next u217 (fun i hi h => by omega)).next u222 (fun i hi h => by omega))
     have B225 := ((B213.keep u217 (by omega)).keep u222 (by omega))
     have B226 := (B218.keep u222 (by omega))
     have B227 := ((((((((((hci.kx u140).kx u145).kx u150).kx u157).keep u160 (by omega)).kx u193).kx u208).keep u212 (by omega)).keep u217 (by omega)).keep u222 (by omega))
     exact ⟨fun a ha => ⟨KeepsFrom.of_upd hUr hcellsR, ⟨⟨(((((((((((hu0.mono fun i h => show i = bk7 ∨ i = bk12 ∨ i = bk17 ∨ i = bk113 ∨ i = b1 ∨ w125.heap.size + 1 ≤ i by have h : i = bk7 ∨ i = bk113 ∨ i = b1 ∨ w125.heap.size + 1 ≤ i := h; omega).nx u140).nx u145).nx u150).nx u157).next u160 (fun i hi (h : i = bk154) => show i = bk7 ∨ i = bk12 ∨ i = bk17 ∨ i = bk113 ∨ i = b1 ∨ w125.heap.size + 1 ≤ i by omega)).nx u193).nx u208).next u212 (fun i hi (h : i = bk7) => show i = bk7 ∨ i = bk12 ∨ i = bk17 ∨ i = bk113 ∨ i = b1 ∨ w125.heap.size + 1 ≤ i by omega)).next u217 (fun i hi (h : i = bk12) => show i = bk7 ∨ i = bk12 ∨ i = bk17 ∨ i = bk113 ∨ i = b1 ∨ w125.heap.size + 1 ≤ i by omega)).next u222 (fun i hi (h : i = bk17) => show i = bk7 ∨ i = bk12 ∨ i = bk17 ∨ i = bk113 ∨ i = b1 ∨ w125.heap.size + 1 ≤ i by omega)), _, _, _, B225, B226, B223, B227, gg_twice hgo hdr hle (hye hle) hzt⟩, ((hux.mono fun i e => .inr (.inr (.inr (.inr (by subst e; exact Nat.le_refl _))))).trans (((((((((((Upd.refl (fun i => i = bk7 ∨ i = bk12 ∨ i = bk17 ∨ i = bk113 ∨ w125.heap.size + 1 ≤ i) _).nx u140).nx u145).nx u150).nx u157).next u160 (fun i hi (h : i = bk154) => show i = bk7 ∨ i = bk12 ∨ i = bk17 ∨ i = bk113 ∨ w125.heap.size + 1 ≤ i by omega)).nx u193).nx u208).next u212 (fun i hi (h : i = bk7) => show i = bk7 ∨ i = bk12 ∨ i = bk17 ∨ i = bk113 ∨ w125.heap.size + 1 ≤ i by omega)).next u217 (fun i hi (h : i = bk12) => show i = bk7 ∨ i = bk12 ∨ i = bk17 ∨ i = bk113 ∨ w125.heap.size + 1 ≤ i by omega)).next u222 (fun i hi (h : i = bk17) => show i = bk7 ∨ i = bk12 ∨ i = bk17 ∨ i = bk113 ∨ w125.heap.size + 1 ≤ i by omega)))⟩⟩⟩
    have hzt : ¬ (0 < ys.length ∧ ¬ aftG (nth ys (ys.length - 1)) y) := by rw [hz7] at g47; exact of_decide_eq_false g47
    refine go ?_
    refine x_l fun bk229 w230 ebk229 sbk229 B231 u232 => ?_
    have D234 := ((((D153.keep u157 (fun _ h => h)).keep u160 (fun hb => show ¬ (g2 = bk154) by first | omega | assumption)).keep u193 (fun _ h => h)).keep u232 (fun _ h => h))
    refine t_append (z := .agg #[.int .i64 0, .int .i64 0, .slice none 0 0]) (bytes := 40) (k := 3) (base := (w125.heap.size + 2)) y underlying78 (by kernel_rfl) rfl (by decide) (fun _ => rfl) (by intro x; simp [encGau, Value.oneCell']) rfl rfl rfl rfl D234 B231 (by omega) (by omega) (by decide) (fun ao235 gb236 cp237 w238 A239 u240 gegb236 lngb236 => ?_)
    have zu240 := u240.size
    have lt_gb236 := A239.lt
    refine x_s fun w243 sw243 B245 u244 => ?_
    refine go ?_
    refine x_s fun w248 sw248 B250 u249 => ?_
    refine go ?_
    have hUr := (((((((((((Upd.refl (fun i => i = bk7 ∨ i = bk12 ∨ i = bk17 ∨ i = bk113 ∨ (i = g2 ∧ (w125.heap.size + 2) ≤ i)) w134).nx u140).nx u145).nx u150).nx u157).next u160 (fun i hi h => by omega)).nx u193).nx u232).next u240 (fun i hi h => by omega)).next u244 (fun i hi h => by omega)).next u249 (fun i hi h => by omega))
    have D253 := (((((((haY.keep u157 (fun _ h => h)).keep u160 (fun hb => show ¬ (y.g = bk154) by first | omega | assumption)).keep u193 (fun _ h => h)).keep u232 (fun _ h => h)).keep u240 (fun hb => show ¬ ((y.g = g2 ∧ (w125.heap.size + 2) ≤ y.g)) by first | omega | assumption)).keep u244 (fun hb => show ¬ (y.g = bk7) by first | omega | assumption)).keep u249 (fun hb => show ¬ (y.g = bk113) by first | omega | assumption))
    have hgo2 := gg_next hgo hdr hle (hye hle) hzt
    have hky : okGau y = true := by rw [← okGau_bare, hye hle]; exact lineG_okk hle
    have B254 := (B245.keep u249 (by omega))
    have D255 := ((A239.keep u244 (fun hb => show ¬ (gb236 = bk7) by first | omega | assumption)).keep u249 (fun hb => show ¬ (gb236 = bk113) by first | omega | assumption))
    have D256 := (GausM.keep (GausM.keep (GausM.keep (GausM.keep (GausM.keep (GausM.keep (GausM.keep (GausM.keep (GausM.keep (GausM.keep hM u140 (fun _ _ _ h => h)) u145 (fun _ _ _ h => h)) u150 (fun _ _ _ h => h)) u157 (fun _ _ _ h => h)) u160 (fun z hz hb => by have h9 := hMne z hz hb; have h8 := (hM z hz).2.2.lt; show ¬ (z.g = bk154); omega)) u193 (fun _ _ _ h => h)) u232 (fun _ _ _ h => h)) u240 (fun z hz hb => by have h9 := hMne z hz hb; have h8 := (hM z hz).2.2.lt; show ¬ ((z.g = g2 ∧ (w125.heap.size + 2) ≤ z.g)); omega)) u244 (fun z hz hb => by have h9 := hMne z hz hb; have h8 := (hM z hz).2.2.lt; show ¬ (z.g = bk7); omega)) u249 (fun z hz hb => by have h9 := hMne z hz hb; have h8 := (hM z hz).2.2.lt; show ¬ (z.g = bk113); omega))
    exact ⟨fun a ha => ⟨KeepsFrom.of_upd hUr hcellsR, ⟨⟨((((((((((hu0.nx u140).nx u145).nx u150).nx u157).next u160 (fun i hi (h : i = bk154) => show i = bk7 ∨ i = bk113 ∨ i = b1 ∨ w125.heap.size + 1 ≤ i by omega)).nx u193).nx u232).next u240 (fun i hi (h : (i = g2 ∧ (w125.heap.size + 2) ≤ i)) => show i = bk7 ∨ i = bk113 ∨ i = b1 ∨ w125.heap.size + 1 ≤ i by omega)).next u244 (fun i hi (h : i = bk7) => show i = bk7 ∨ i = bk113 ∨ i = b1 ∨ w125.heap.size + 1 ≤ i by omega)).next u249 (fun i hi (h : i = bk113) => show i = bk7 ∨ i = bk113 ∨ i = b1 ∨ w125.heap.size + 1 ≤ i by omega)), ys ++ [y], ao235, gb236, cp237, B254, (by rw [List.length_append, List.length_singleton, Int.natCast_add]; exact B250), D255, D256.snoc hyo hyl D253, by rw [List.length_append, List.length_append, hyn]; rfl, by rw [List.length_append]; exact hgo2, (fun z hz => by
      rcases List.mem_append.1 hz with h | h
      · exact hko z h
      · rw [List.mem_singleton.1 h]; exact hky)⟩, ((hux.mono fun i e => .inr (.inr (.inr (.inr (by subst e; exact Nat.le_refl _))))).trans (((((((((((Upd.refl (fun i => i = bk7 ∨ i = bk12 ∨ i = bk17 ∨ i = bk113 ∨ w125.heap.size + 1 ≤ i) _).nx u140).nx u145).nx u150).nx u157).next u160 (fun i hi (h : i = bk154) => show i = bk7 ∨ i = bk12 ∨ i = bk17 ∨ i = bk113 ∨ w125.heap.size + 1 ≤ i by omega)).nx u193).nx u232).next u240 (fun i hi (h : (i = g2 ∧ (w125.heap.size + 2) ≤ i)) => show i = bk7 ∨ i = bk12 ∨ i = bk17 ∨ i = bk113 ∨ w125.heap.size + 1 ≤ i by omega)).next u244 (fun i hi (h : i = bk7) => show i = bk7 ∨ i = bk12 ∨ i = bk17 ∨ i = bk113 ∨ w125.heap.size + 1 ≤ i by omega)).next u249 (fun i hi (h : i = bk113) => show i = bk7 ∨ i = bk12 ∨ i = bk17 ∨ i = bk113 ∨ w125.heap.size + 1 ≤ i by omega)))⟩⟩⟩
   refine go ?_
   refine x_n fun bk257 w258 ebk257 sbk257 B259 u260 => ?_
   have E261 := Sc.mk (E147.u.nx u260)
   refine go ?_
   refine x_c func133 rfl rfl (gline_b (w125.heap.size + 2) u9 _ (by omega) (by omega) (by omega) (hE.ext E261.u) (hT.ext E261.u)) ?_
   rintro _ w263 ⟨⟨y, rfl, hye, hyo, hyl, haY, hyw⟩, u264⟩ zu264
   have lt_y_g := haY.lt
   have D267 := ((((hac.keep u140 (fun _ h => h)).keep u145 (fun _ h => h)).keep u260 (fun _ h => h)).keep u264 (fun _ h => h))
   have hyne : (w125.heap.size + 2) ≤ y.g → y.g ≠ g2 := fun hb => (GausM.snoc (GausM.nil (w125.heap.size + 2) _) hyo hyl haY).ne D267 y (by simp) hb
   refine go ?_
   refine x_s fun w269 sw269 B271 u270 => ?_
   refine go ?_
   refine q_p (fun g42 => ?_) fun g42 => ?_
   ·
    refine go ?_
    refine c_drawnM follows (fun i => i = bk7 ∨ i = bk12 ∨ i = bk17) (OTl [0, 2, 5, 7, 9]) (by kernel_rfl) fun w276 u277 => ?_
    have zu277 := u277.size
    refine go ?_
    refine x_s fun w280 sw280 B282 u281 => ?_
    refine go ?_
    refine x_s fun w285 sw285 B287 u286 => ?_
    refine go ?_
    refine x_s fun w290 sw290 B292 u291 => ?_
    refine go ?_
    have hUr := ((((((((((Upd.refl (fun i => i = bk7 ∨ i = bk12 ∨ i = bk17 ∨ i = bk113 ∨ (i = g2 ∧ (w125.heap.size + 2) ≤ i)) w134).nx u140).nx u145).nx u260).nx u264).next u270 (fun i hi h => by omega)).nx u277).next u281 (fun i hi h => by omega)).next u286 (fun i hi h => by omega)).next u291 (fun i hi h => by omega))
    have B294 := ((B282.keep u286 (by omega)).keep u291 (by omega))
    have B295 := (B287.keep u291 (by omega))
    have B296 := (((((((((hci.kx u140).kx u145).kx u260).kx u264).keep u270 (by omega)).kx u277).keep u281 (by omega)).keep u286 (by omega)).keep u291 (by omega))
    exact ⟨fun a ha => ⟨KeepsFrom.of_upd hUr hcellsR, ⟨⟨((((((((((hu0.mono fun i h => show i = bk7 ∨ i = bk12 ∨ i = bk17 ∨ i = bk113 ∨ i = b1 ∨ w125.heap.size + 1 ≤ i by have h : i = bk7 ∨ i = bk113 ∨ i = b1 ∨ w125.heap.size + 1 ≤ i := h; omega).nx u140).nx u145).nx u260).nx u264).next u270 (fun i hi (h : i = bk257) => show i = bk7 ∨ i = bk12 ∨ i = bk17 ∨ i = bk113 ∨ i = b1 ∨ w125.heap.size + 1 ≤ i by omega)).nx u277).next u281 (fun i hi (h : i = bk7) => show i = bk7 ∨ i = bk12 ∨ i = bk17 ∨ i = bk113 ∨ i = b1 ∨ w125.heap.size + 1 ≤ i by omega)).next u286 (fun i hi (h : i = bk12) => show i = bk7 ∨ i = bk12 ∨ i = bk17 ∨ i = bk113 ∨ i = b1 ∨ w125.heap.size + 1 ≤ i by omega)).next u291 (fun i hi (h : i = bk17) => show i = bk7 ∨ i = bk12 ∨ i = bk17 ∨ i = bk113 ∨ i = b1 ∨ w125.heap.size + 1 ≤ i by omega)), _, _, _, B294, B295, B292, B296, gg_bad hgo hdr g42⟩, ((hux.mono fun i e => .inr (.inr (.inr (.inr (by subst e; exact Nat.le_refl _))))).trans ((((((((((Upd.refl (fun i => i = bk7 ∨ i = bk12 ∨ i = bk17 ∨ i = bk113 ∨ w125.heap.size + 1 ≤ i) _).nx u140).nx u145).nx u260).nx u264).next u270 (fun i hi (h : i = bk257) => show i = bk7 ∨ i = bk12 ∨ i = bk17 ∨ i = bk113 ∨ w125.heap.size + 1 ≤ i by omega)).nx u277).next u281 (fun i hi (h : i = bk7) => show i = bk7 ∨ i = bk12 ∨ i = bk17 ∨ i = bk113 ∨ w125.heap.size + 1 ≤ i by omega)).next u286 (fun i hi (h : i = bk12) => show i = bk7 ∨ i = bk12 ∨ i = bk17 ∨ i = bk113 ∨ w125.heap.size + 1 ≤ i by omega)).next u291 (fun i hi (h : i = bk17) => show i = bk7 ∨ i = bk12 ∨ i = bk17 ∨ i = bk113 ∨ w125.heap.size + 1 ≤ i by omega)))⟩⟩⟩
   have hle : (LGa u9).2 = 0 := by omega
   refine x_k1 (fun _ => False) [2, 4, 5, 6, 7, 8, 9, 10, 35, 36, 37, 38, 39, 40, 41, 42, 43, 44] (fun (z7 : Bool) => [(47, .bool z7)]) (fun z7 w => (z7 = decide (0 < ys.length ∧ ¬ aftG (nth ys (ys.length - 1)) y))) (fun K301 hK301 => ?_) ?_
   ·
    refine c_drawnM follows (fun _ => False) (OTl [0, 2, 4, 6, 8, 10, 12, 14, 16, 18, 20, 23, 24, 26, 28]) (by kernel_rfl) fun w304 u305 => ?_
    have zu305 := u305.size
    refine go ?_
    refine y_splitp 50 rfl (fun g50 => ?_) (fun g50 => ?_)
    ·
     refine go ?_
     have k307 := ((((((((((B4.kx u10).kx u15).kx u20).kx u52).kx u83).kx u87).kx u116).keep u119 (by omega)).kx u126).keep hu0 (show ¬ (bk2 = bk7 ∨ bk2 = bk113 ∨ bk2 = b1 ∨ w125.heap.size + 1 ≤ bk2) by first | omega | assumption))
     refine go ?_
     have D308 := ((D267.keep u270 (fun hb => show ¬ (g2 = bk257) by first | omega | assumption)).keep u305 (fun _ h => h))
     refine y_i (ys.length - 1) (D308.sl (fun _ => rfl)) (fun _ => ?_) (hj := (by omega))
     refine go ?_
     refine x_c func129 rfl rfl (gaugeAfter_c (nth ys (ys.length - 1)) y _ (hko _ (nth_mem (xs := ys) (i := ys.length - 1) (by omega)))) ?_
     rintro _ w311 ⟨rfl, u312⟩ zu312
     refine go ?_
     exact hK301 (decide (¬ (aftG (nth ys (ys.length - 1)) y))) (by first | exact (decide_eq_false (by omega)).symm | exact decide_eq_decide.2 ⟨fun h => ⟨by omega, h⟩, fun h => h.2⟩)
    refine go ?_
    exact hK301 false (by first | exact (decide_eq_false (by omega)).symm | exact decide_eq_decide.2 ⟨fun h => ⟨by omega, h⟩, fun h => h.2⟩)
   rintro z7 w302 hz7 u303 zu303
   refine q_b (fun g47 => ?_) fun g47 => ?_
   ·
    have hzt : (0 < ys.length ∧ ¬ aftG (nth ys (ys.length - 1)) y) := by rw [hz7] at g47; exact of_decide_eq_true g47
    refine go ?_
    refine c_drawnM follows (fun i => i = bk7 ∨ i = bk12 ∨ i = bk17) (OTl [0, 3, 5, 7]) (by kernel_rfl) fun w317 u318 => ?_
    have zu318 := u318.size
    refine go ?_
    refine x_s fun w321 sw321 B323 u322 => ?_
    refine go ?_
    refine x_s fun w326 sw326 B328 u327 => ?_
    refine go ?_
    refine x_s fun w331 sw331 B333 u332 => ?_
    refine go ?_
    have hUr := (((((((((((Upd.refl (fun i => i = bk7 ∨ i = bk12 ∨ i = bk17 ∨ i = bk113 ∨ (i = g2 ∧ (w125.heap.size + 2) ≤ i)) w134).nx u140).nx u145).nx u260).nx u264).next u270 (fun i hi h => by omega)).nx u303).nx u318).next u322 (fun i hi h => by omega)).next u327 (fun i hi h => by omega)).next u332 (fun i hi h => by omega))
    have B335 := ((B323.keep u327 (by omega)).keep u332 (by omega))
    have B336 := (B328.keep u332 (by omega))
    have B337 := ((((((((((hci.kx u140).kx u145).kx u260).kx u264).keep u270 (by omega)).kx u303).kx u318).keep u322 (by omega)).keep u327 (by omega)).keep u332 (by omega))
    exact ⟨fun a ha => ⟨KeepsFrom.of_upd hUr hcellsR, ⟨⟨(((((((((((hu0.mono fun i h => show i = bk7 ∨ i = bk12 ∨ i = bk17 ∨ i = bk113 ∨ i = b1 ∨ w125.heap.size + 1 ≤ i by have h : i = bk7 ∨ i = bk113 ∨ i = b1 ∨ w125.heap.size + 1 ≤ i := h; omega).nx u140).nx u145).nx u260).nx u264).next u270 (fun i hi (h : i = bk257) => show i = bk7 ∨ i = bk12 ∨ i = bk17 ∨ i = bk113 ∨ i = b1 ∨ w125.heap.size + 1 ≤ i by omega)).nx u303).nx u318).next u322 (fun i hi (h : i = bk7) => show i = bk7 ∨ i = bk12 ∨ i = bk17 ∨ i = bk113 ∨ i = b1 ∨ w125.heap.size + 1 ≤ i by omega)).next u327 (fun i hi (h : i = bk12) => show i = bk7 ∨ i = bk12 ∨ i = bk17 ∨ i = bk113 ∨ i = b1 ∨ w125.heap.size + 1 ≤ i by omega)).next u332 (fun i hi (h : i = bk17) => show i = bk7 ∨ i = bk12 ∨ i = bk17 ∨ i = bk113 ∨ i = b1 ∨ w125.heap.size + 1 ≤ i by omega)), _, _, _, B335, B336, B333, B337, gg_twice hgo hdr hle (hye hle) hzt⟩, ((hux.mono fun i e => .inr (.inr (.inr (.inr (by subst e; exact Nat.le_refl _))))).trans (((((((((((Upd.refl (fun i => i = bk7 ∨ i = bk12 ∨ i = bk17 ∨ i = bk113 ∨ w125.heap.size + 1 ≤ i) _).nx u140).nx u145).nx u260).nx u264).next u270 (fun i hi (h : i = bk257) => show i = bk7 ∨ i = bk12 ∨ i = bk17 ∨ i = bk113 ∨ w125.heap.size + 1 ≤ i by omega)).nx u303).nx u318).next u322 (fun i hi (h : i = bk7) => show i = bk7 ∨ i = bk12 ∨ i = bk17 ∨ i = bk113 ∨ w125.heap.size + 1 ≤ i by omega)).next u327 (fun i hi (h : i = bk12) => show i = bk7 ∨ i = bk12 ∨ i = bk17 ∨ i = bk113 ∨ w125.heap.size + 1 ≤ i by omega)).next u332 (fun i hi (h : i = bk17) => show i = bk7 ∨ i = bk12 ∨ i = bk17 ∨ i = bk113 ∨ w125.heap.size + 1 ≤ i by omega)))⟩⟩⟩
   have hzt : ¬ (0 < ys.length ∧ ¬ aftG (nth ys (ys.length - 1)) y) := by rw [hz7] at g47; exact of_decide_eq_false g47
   refine go ?_
   refine x_l fun bk339 w340 ebk339 sbk339 B341 u342 => ?_
   have D344 := (((D267.keep u270 (fun hb => show ¬ (g2 = bk257) by first | omega | assumption)).keep u303 (fun _ h => h)).keep u342 (fun _ h => h))
   refine t_append (z := .agg #[.int .i64 0, .int .i64 0, .slice none 0 0]) (bytes := 40) (k := 3) (base := (w125.heap.size + 2)) y underlying78 (by kernel_rfl) rfl (by decide) (fun _ => rfl) (by intro x; simp [encGau, Value.oneCell']) rfl rfl rfl rfl D344 B341 (by omega) (by omega) (by decide) (fun ao345 gb346 cp347 w348 A349 u350 gegb346 lngb346 => ?_)
   have zu350 := u350.size
   have lt_gb346 := A349.lt
   refine x_s fun w353 sw353 B355 u354 => ?_
   refine go ?_
   refine x_s fun w358 sw358 B360 u359 => ?_
   refine go ?_
   have hUr := (((((((((((Upd.refl (fun i => i = bk7 ∨ i = bk12 ∨ i = bk17 ∨ i = bk113 ∨ (i = g2 ∧ (w125.heap.size + 2) ≤ i)) w134).nx u140).nx u145).nx u260).nx u264).next u270 (fun i hi h => by omega)).nx u303).nx u342).next u350 (fun i hi h => by omega)).next u354 (fun i hi h => by omega)).next u359 (fun i hi h => by omega))
   have D363 := ((((((haY.keep u270 (fun hb => show ¬ (y.g = bk257) by first | omega | assumption)).keep u303 (fun _ h => h)).keep u342 (fun _ h => h)).keep u350 (fun hb => show ¬ ((y.g = g2 ∧ (w125.heap.size + 2) ≤ y.g)) by first | omega | assumption)).keep u354 (fun hb => show ¬ (y.g = bk7) by first | omega | assumption)).keep u359 (fun hb => show ¬ (y.g = bk113) by first | omega | assumption))
   have hgo2 := gg_next hgo hdr hle (hye hle) hzt
   have hky : okGau y = true := by rw [← okGau_bare, hye hle]; exact lineG_okk hle
   have B364 := (B355.keep u359 (by omega))
   have D365 := ((A349.keep u354 (fun hb => show ¬ (gb346 = bk7) by first | omega | assumption)).keep u359 (fun hb => show ¬ (gb346 = bk113) by first | omega | assumption))
   have D366 := (GausM.keep (GausM.keep (GausM.keep (GausM.keep (GausM.keep (GausM.keep (GausM.keep (GausM.keep (GausM.keep (GausM.keep hM u140 (fun _ _ _ h => h)) u145 (fun _ _ _ h => h)) u260 (fun _ _ _ h => h)) u264 (fun _ _ _ h => h)) u270 (fun z hz hb => by have h9 := hMne z hz hb; have h8 := (hM z hz).2.2.lt; show ¬ (z.g = bk257); omega)) u303 (fun _ _ _ h => h)) u342 (fun _ _ _ h => h)) u350 (fun z hz hb => by have h9 := hMne z hz hb; have h8 := (hM z hz).2.2.lt; show ¬ ((z.g = g2 ∧ (w125.heap.size + 2) ≤ z.g)); omega)) u354 (fun z hz hb => by have h9 := hMne z hz hb; have h8 := (hM z hz).2.2.lt; show ¬ (z.g = bk7); omega)) u359 (fun z hz hb => by have h9 := hMne z hz hb; have h8 := (hM z hz).2.2.lt; show ¬ (z.g = bk113); omega))
   exact ⟨fun a ha => ⟨KeepsFrom.of_upd hUr hcellsR, ⟨⟨((((((((((hu0.nx u140).nx u145).nx u260).nx u264).next u270 (fun i hi (h : i = bk257) => show i = bk7 ∨ i = bk113 ∨ i = b1 ∨ w125.heap.size + 1 ≤ i by omega)).nx u303).nx u342).next u350 (fun i hi (h : (i = g2 ∧ (w125.heap.size + 2) ≤ i)) => show i = bk7 ∨ i = bk113 ∨ i = b1 ∨ w125.heap.size + 1 ≤ i by omega)).next u354 (fun i hi (h : i = bk7) => show i = bk7 ∨ i = bk113 ∨ i = b1 ∨ w125.heap.size + 1 ≤ i by omega)).next u359 (fun i hi (h : i = bk113) => show i = bk7 ∨ i = bk113 ∨ i = b1 ∨ w125.heap.size + 1 ≤ i by omega)), ys ++ [y], ao345, gb346, cp347, B364, (by rw [List.length_append, List.length_singleton, Int.natCast_add]; exact B360), D365, D366.snoc hyo hyl D363, by rw [List.length_append, List.length_append, hyn]; rfl, by rw [List.length_append]; exact hgo2, (fun z hz => by
     rcases List.mem_append.1 hz with h | h
     · exact hko z h
     · rw [List.mem_singleton.1 h]; exact hky)⟩, ((hux.mono fun i e => .inr (.inr (.inr (.inr (by subst e; exact Nat.le_refl _))))).trans (((((((((((Upd.refl (fun i => i = bk7 ∨ i = bk12 ∨ i = bk17 ∨ i = bk113 ∨ w125.heap.size + 1 ≤ i) _).nx u140).nx u145).nx u260).nx u264).next u270 (fun i hi (h : i = bk257) => show i = bk7 ∨ i = bk12 ∨ i = bk17 ∨ i = bk113 ∨ w125.heap.size + 1 ≤ i by omega)).nx u303).nx u342).next u350 (fun i hi (h : (i = g2 ∧ (w125.heap.size + 2) ≤ i)) => show i = bk7 ∨ i = bk12 ∨ i = bk17 ∨ i = bk113 ∨ w125.heap.size + 1 ≤ i by omega)).next u354 (fun i hi (h : i = bk7) => show i = bk7 ∨ i = bk12 ∨ i = bk17 ∨ i = bk113 ∨ w125.heap.size + 1 ≤ i by omega)).next u359 (fun i hi (h : i = bk113) => show i = bk7 ∨ i = bk12 ∨ i = bk17 ∨ i = bk113 ∨ w125.heap.size + 1 ≤ i by omega)))⟩⟩⟩
  refine go ?_
  refine x_n fun bk367 w368 ebk367 sbk367 B369 u370 => ?_
  refine go ?_
  refine x_c func125 rfl rfl (by have h9 := trim_c u9 10 w368 (by omega); rw [← hxv] at h9; exact h9) ?_
  rintro _ w373 ⟨rfl, u374⟩ zu374
  have E376 := Sc.mk ((E141.u.nx u370).nx u374)
  refine go ?_
  refine x_c func133 rfl rfl (gline_b (w125.heap.size + 2) u9 _ (by omega) (by omega) (by omega) (hE.ext E376.u) (hT.ext E376.u)) ?_
  rintro _ w378 ⟨⟨y, rfl, hye, hyo, hyl, haY, hyw⟩, u379⟩ zu379
  have lt_y_g := haY.lt
  have D382 := ((((hac.keep u140 (fun _ h => h)).keep u370 (fun _ h => h)).keep u374 (fun _ h => h)).keep u379 (fun _ h => h))
  have hyne : (w125.heap.size + 2) ≤ y.g → y.g ≠ g2 := fun hb => (GausM.snoc (GausM.nil (w125.heap.size + 2) _) hyo hyl haY).ne D382 y (by simp) hb
  refine go ?_
  refine x_s fun w384 sw384 B386 u385 => ?_
  refine go ?_
  refine q_p (fun g42 => ?_) fun g42 => ?_
  ·
   refine go ?_
   refine c_drawnM follows (fun i => i = bk7 ∨ i = bk12 ∨ i = bk17) (OTl [0, 2, 5, 7, 9]) (by kernel_rfl) fun w391 u392 => ?_
   have zu392 := u392.size
   refine go ?_
   refine x_s fun w395 sw395 B397 u396 => ?_
   refine go ?_
   refine x_s fun w400 sw400 B402 u401 => ?_
   refine go ?_
   refine x_s fun w405 sw405 B407 u406 => ?_
   refine go ?_
   have hUr := ((((((((((Upd.refl (fun i => i = bk7 ∨ i = bk12 ∨ i = bk17 ∨ i = bk113 ∨ (i = g2 ∧ (w125.heap.size + 2) ≤ i)) w134).nx u140).nx u370).nx u374).nx u379).next u385 (fun i hi h => by omega)).nx u392).next u396 (fun i hi h => by omega)).next u401 (fun i hi h => by omega)).next u406 (fun i hi h => by omega))
   have B409 := ((B397.keep u401 (by omega)).keep u406 (by omega))
   have B410 := (B402.keep u406 (by omega))
   have B411 := (((((((((hci.kx u140).kx u370).kx u374).kx u379).keep u385 (by omega)).kx u392).keep u396 (by omega)).keep u401 (by omega)).keep u406 (by omega))
   exact ⟨fun a ha => ⟨KeepsFrom.of_upd hUr hcellsR, ⟨⟨((((((((((hu0.mono fun i h => show i = bk7 ∨ i = bk12 ∨ i = bk17 ∨ i = bk113 ∨ i = b1 ∨ w125.heap.size + 1 ≤ i by have h : i = bk7 ∨ i = bk113 ∨ i = b1 ∨ w125.heap.size + 1 ≤ i := h; omega).nx u140).nx u370).nx u374).nx u379).next u385 (fun i hi (h : i = bk367) => show i = bk7 ∨ i = bk12 ∨ i = bk17 ∨ i = bk113 ∨ i = b1 ∨ w125.heap.size + 1 ≤ i by omega)).nx u392).next u396 (fun i hi (h : i = bk7) => show i = bk7 ∨ i = bk12 ∨ i = bk17 ∨ i = bk113 ∨ i = b1 ∨ w125.heap.size + 1 ≤ i by omega)).next u401 (fun i hi (h : i = bk12) => show i = bk7 ∨ i = bk12 ∨ i = bk17 ∨ i = bk113 ∨ i = b1 ∨ w125.heap.size + 1 ≤ i by omega)).next u406 (fun i hi (h : i = bk17) => show i = bk7 ∨ i = bk12 ∨ i = bk17 ∨ i = bk113 ∨ i = b1 ∨ w125.heap.size + 1 ≤ i by omega)), _, _, _, B409, B410, B407, B411, gg_bad hgo hdr g42⟩, ((hux.mono fun i e => .inr (.inr (.inr (.inr (by subst e; exact Nat.le_refl _))))).trans ((((((((((Upd.refl (fun i => i = bk7 ∨ i = bk12 ∨ i = bk17 ∨ i = bk113 ∨ w125.heap.size + 1 ≤ i) _).nx u140).nx u370).nx u374).nx u379).next u385 (fun i hi (h : i = bk367) => show i = bk7 ∨ i = bk12 ∨ i = bk17 ∨ i = bk113 ∨ w125.heap.size + 1 ≤ i by omega)).nx u392).next u396 (fun i hi (h : i = bk7) => show i = bk7 ∨ i = bk12 ∨ i = bk17 ∨ i = bk113 ∨ w125.heap.size + 1 ≤ i by omega)).next u401 (fun i hi (h : i = bk12) => show i = bk7 ∨ i = bk12 ∨ i = bk17 ∨ i = bk113 ∨ w125.heap.size + 1 ≤ i by omega)).next u406 (fun i hi (h : i = bk17) => show i = bk7 ∨ i = bk12 ∨ i = bk17 ∨ i = bk113 ∨ w125.heap.size + 1 ≤ i by omega)))⟩⟩⟩
  have hle : (LGa u9).2 = 0 := by omega
  refine x_k1 (fun _ => False) [2, 4, 5, 6, 7, 8, 9, 10, 35, 36, 37, 38, 39, 40, 41, 42, 43, 44] (fun (z7 : Bool) => [(47, .bool z7)]) (fun z7 w => (z7 = decide (0 < ys.length ∧ ¬ aftG (nth ys (ys.length - 1)) y))) (fun K416 hK416 => ?_) ?_
  ·
   refine c_drawnM follows (fun _ => False) (OTl [0, 2, 4, 6, 8, 10, 12, 14, 16, 18, 20, 23, 24, 26, 28]) (by kernel_rfl) fun w419 u420 => ?_
   have zu420 := u420.size
   refine go ?_
   refine y_splitp 50 rfl (fun g50 => ?_) (fun g50 => ?_)
   ·
    refine go ?_
    have k422 := ((((((((((B4.kx u10).kx u15).kx u20).kx u52).kx u83).kx u87).kx u116).keep u119 (by omega)).kx u126).keep hu0 (show ¬ (bk2 = bk7 ∨ bk2 = bk113 ∨ bk2 = b1 ∨ w125.heap.size + 1 ≤ bk2) by first | omega | assumption))
    refine go ?_
    have D423 := ((D382.keep u385 (fun hb => show ¬ (g2 = bk367) by first | omega | assumption)).keep u420 (fun _ h => h))
    refine y_i (ys.length - 1) (D423.sl (fun _ => rfl)) (fun _ => ?_) (hj := (by omega))
    refine go ?_
    refine x_c func129 rfl rfl (gaugeAfter_c (nth ys (ys.length - 1)) y _ (hko _ (nth_mem (xs := ys) (i := ys.length - 1) (by omega)))) ?_
    rintro _ w426 ⟨rfl, u427⟩ zu427
    refine go ?_
    exact hK416 (decide (¬ (aftG (nth ys (ys.length - 1)) y))) (by first | exact (decide_eq_false (by omega)).symm | exact decide_eq_decide.2 ⟨fun h => ⟨by omega, h⟩, fun h => h.2⟩)
   refine go ?_
   exact hK416 false (by first | exact (decide_eq_false (by omega)).symm | exact decide_eq_decide.2 ⟨fun h => ⟨by omega, h⟩, fun h => h.2⟩)
  rintro z7 w417 hz7 u418 zu418
  refine q_b (fun g47 => ?_) fun g47 => ?_
  ·
   have hzt : (0 < ys.length ∧ ¬ aftG (nth ys (ys.length - 1)) y) := by rw [hz7] at g47; exact of_decide_eq_true g47
   refine go ?_
   refine c_drawnM follows (fun i => i = bk7 ∨ i = bk12 ∨ i = bk17) (OTl [0, 3, 5, 7]) (by kernel_rfl) fun w432 u433 => ?_
   have zu433 := u433.size
   refine go ?_
   refine x_s fun w436 sw436 B438 u437 => ?_
   refine go ?_
   refine x_s fun w441 sw441 B443 u442 => ?_
   refine go ?_
   refine x_s fun w446 sw446 B448 u447 => ?_
   refine go ?_
   have hUr := (((((((((((Upd.refl (fun i => i = bk7 ∨ i = bk12 ∨ i = bk17 ∨ i = bk113 ∨ (i = g2 ∧ (w125.heap.size + 2) ≤ i)) w134).nx u140).nx u370).nx u374).nx u379).next u385 (fun i hi h => by omega)).nx u418).nx u433).next u437 (fun i hi h => by omega)).next u442 (fun i hi h => by omega)).next u447 (fun i hi h => by omega))
   have B450 := ((B438.keep u442 (by omega)).keep u447 (by omega))
   have B451 := (B443.keep u447 (by omega))
   have B452 := ((((((((((hci.kx u140).kx u370).kx u374).kx u379).keep u385 (by omega)).kx u418).kx u433).keep u437 (by omega)).keep u442 (by omega)).keep u447 (by omega))
   exact ⟨fun a ha => ⟨KeepsFrom.of_upd hUr hcellsR, ⟨⟨(((((((((((hu0.mono fun i h => show i = bk7 ∨ i = bk12 ∨ i = bk17 ∨ i = bk113 ∨ i = b1 ∨ w125.heap.size + 1 ≤ i by have h : i = bk7 ∨ i = bk113 ∨ i = b1 ∨ w125.heap.size + 1 ≤ i := h; omega).nx u140).nx u370).nx u374).nx u379).next u385 (fun i hi (h : i = bk367) => show i = bk7 ∨ i = bk12 ∨ i = bk17 ∨ i = bk113 ∨ i = b1 ∨ w125.heap.size + 1 ≤ i by omega)).nx u418).nx u433).next u437 (fun i hi (h : i = bk7) => show i = bk7 ∨ i = bk12 ∨ i = bk17 ∨ i = bk113 ∨ i = b1 ∨ w125.heap.size + 1 ≤ i by omega)).next u442 (fun i hi (h : i = bk12) => show i = bk7 ∨ i = bk12 ∨ i = bk17 ∨ i = bk113 ∨ i = b1 ∨ w125.heap.size + 1 ≤ i by omega)).next u447 (fun i hi (h : i = bk17) => show i = bk7 ∨ i = bk12 ∨ i = bk17 ∨ i = bk113 ∨ i = b1 ∨ w125.heap.size + 1 ≤ i by omega)), _, _, _, B450, B451, B448, B452, gg_twice hgo hdr hle (hye hle) hzt⟩, ((hux.mono fun i e => .inr (.inr (.inr (.inr (by subst e; exact Nat.le_refl _))))).trans (((((((((((Upd.refl (fun i => i = bk7 ∨ i = bk12 ∨ i = bk17 ∨ i = bk113 ∨ w125.heap.size + 1 ≤ i) _).nx u140).nx u370).nx u374).nx u379).next u385 (fun i hi (h : i = bk367) => show i = bk7 ∨ i = bk12 ∨ i = bk17 ∨ i = bk113 ∨ w125.heap.size + 1 ≤ i by omega)).nx u418).nx u433).next u437 (fun i hi (h : i = bk7) => show i = bk7 ∨ i = bk12 ∨ i = bk17 ∨ i = bk113 ∨ w125.heap.size + 1 ≤ i by omega)).next u442 (fun i hi (h : i = bk12) => show i = bk7 ∨ i = bk12 ∨ i = bk17 ∨ i = bk113 ∨ w125.heap.size + 1 ≤ i by omega)).next u447 (fun i hi (h : i = bk17) => show i = bk7 ∨ i = bk12 ∨ i = bk17 ∨ i = bk113 ∨ w125.heap.size + 1 ≤ i by omega)))⟩⟩⟩
  have hzt : ¬ (0 < ys.length ∧ ¬ aftG (nth ys (ys.length - 1)) y) := by rw [hz7] at g47; exact of_decide_eq_false g47
  refine go ?_
  refine x_l fun bk454 w455 ebk454 sbk454 B456 u457 => ?_
  have D459 := (((D382.keep u385 (fun hb => show ¬ (g2 = bk367) by first | omega | assumption)).keep u418 (fun _ h => h)).keep u457 (fun _ h => h))
  refine t_append (z := .agg #[.int .i64 0, .int .i64 0, .slice none 0 0]) (bytes := 40) (k := 3) (base := (w125.heap.size + 2)) y underlying78 (by kernel_rfl) rfl (by decide) (fun _ => rfl) (by intro x; simp [encGau, Value.oneCell']) rfl rfl rfl rfl D459 B456 (by omega) (by omega) (by decide) (fun ao460 gb461 cp462 w463 A464 u465 gegb461 lngb461 => ?_)
  have zu465 := u465.size
  have lt_gb461 := A464.lt
  refine x_s fun w468 sw468 B470 u469 => ?_
  refine go ?_
  refine x_s fun w473 sw473 B475 u474 => ?_
  refine go ?_
  have hUr := (((((((((((Upd.refl (fun i => i = bk7 ∨ i = bk12 ∨ i = bk17 ∨ i = bk113 ∨ (i = g2 ∧ (w125.heap.size + 2) ≤ i)) w134).nx u140).nx u370).nx u374).nx u379).next u385 (fun i hi h => by omega)).nx u418).nx u457).next u465 (fun i hi h => by omega)).next u469 (fun i hi h => by omega)).next u474 (fun i hi h => by omega))
  have D478 := ((((((haY.keep u385 (fun hb => show ¬ (y.g = bk367) by first | omega | assumption)).keep u418 (fun _ h => h)).keep u457 (fun _ h => h)).keep u465 (fun hb => show ¬ ((y.g = g2 ∧ (w125.heap.size + 2) ≤ y.g)) by first | omega | assumption)).keep u469 (fun hb => show ¬ (y.g = bk7) by first | omega | assumption)).keep u474 (fun hb => show ¬ (y.g = bk113) by first | omega | assumption))
  have hgo2 := gg_next hgo hdr hle (hye hle) hzt
  have hky : okGau y = true := by rw [← okGau_bare, hye hle]; exact lineG_okk hle
  have B479 := (B470.keep u474 (by omega))
  have D480 := ((A464.keep u469 (fun hb => show ¬ (gb461 = bk7) by first | omega | assumption)).keep u474 (fun hb => show ¬ (gb461 = bk113) by first | omega | assumption))
  have D481 := (GausM.keep (GausM.keep (GausM.keep (GausM.keep (GausM.keep (GausM.keep (GausM.keep (GausM.keep (GausM.keep (GausM.keep hM u140 (fun _ _ _ h => h)) u370 (fun _ _ _ h => h)) u374 (fun _ _ _ h => h)) u379 (fun _ _ _ h => h)) u385 (fun z hz hb => by have h9 := hMne z hz hb; have h8 := (hM z hz).2.2.lt; show ¬ (z.g = bk367); omega)) u418 (fun _ _ _ h => h)) u457 (fun _ _ _ h => h)) u465 (fun z hz hb => by have h9 := hMne z hz hb; have h8 := (hM z hz).2.2.lt; show ¬ ((z.g = g2 ∧ (w125.heap.size + 2) ≤ z.g)); omega)) u469 (fun z hz hb => by have h9 := hMne z hz hb; have h8 := (hM z hz).2.2.lt; show ¬ (z.g = bk7); omega)) u474 (fun z hz hb => by have h9 := hMne z hz hb; have h8 := (hM z hz).2.2.lt; show ¬ (z.g = bk113); omega))
  exact ⟨fun a ha => ⟨KeepsFrom.of_upd hUr hcellsR, ⟨⟨((((((((((hu0.nx u140).nx u370).nx u374).nx u379).next u385 (fun i hi (h : i = bk367) => show i = bk7 ∨ i = bk113 ∨ i = b1 ∨ w125.heap.size + 1 ≤ i by omega)).nx u418).nx u457).next u465 (fun i hi (h : (i = g2 ∧ (w125.heap.size + 2) ≤ i)) => show i = bk7 ∨ i = bk113 ∨ i = b1 ∨ w125.heap.size + 1 ≤ i by omega)).next u469 (fun i hi (h : i = bk7) => show i = bk7 ∨ i = bk113 ∨ i = b1 ∨ w125.heap.size + 1 ≤ i by omega)).next u474 (fun i hi (h : i = bk113) => show i = bk7 ∨ i = bk113 ∨ i = b1 ∨ w125.heap.size + 1 ≤ i by omega)), ys ++ [y], ao460, gb461, cp462, B479, (by rw [List.length_append, List.length_singleton, Int.natCast_add]; exact B475), D480, D481.snoc hyo hyl D478, by rw [List.length_append, List.length_append, hyn]; rfl, by rw [List.length_append]; exact hgo2, (fun z hz => by
    rcases List.mem_append.1 hz with h | h
    · exact hko z h
    · rw [List.mem_singleton.1 h]; exact hky)⟩, ((hux.mono fun i e => .inr (.inr (.inr (.inr (by subst e; exact Nat.le_refl _))))).trans (((((((((((Upd.refl (fun i => i = bk7 ∨ i = bk12 ∨ i = bk17 ∨ i = bk113 ∨ w125.heap.size + 1 ≤ i) _).nx u140).nx u370).nx u374).nx u379).next u385 (fun i hi (h : i = bk367) => show i = bk7 ∨ i = bk12 ∨ i = bk17 ∨ i = bk113 ∨ w125.heap.size + 1 ≤ i by omega)).nx u418).nx u457).next u465 (fun i hi (h : (i = g2 ∧ (w125.heap.size + 2) ≤ i)) => show i = bk7 ∨ i = bk12 ∨ i = bk17 ∨ i = bk113 ∨ w125.heap.size + 1 ≤ i by omega)).next u469 (fun i hi (h : i = bk7) => show i = bk7 ∨ i = bk12 ∨ i = bk17 ∨ i = bk113 ∨ w125.heap.size + 1 ≤ i by omega)).next u474 (fun i hi (h : i = bk113) => show i = bk7 ∨ i = bk12 ∨ i = bk17 ∨ i = bk113 ∨ w125.heap.size + 1 ≤ i by omega)))⟩⟩⟩
 ·
  have D484 := (((((((((((show Marks w0.heap.size [] w0 from trivial).keep u5 (CellsIn.none _)).keep u10 (CellsIn.none _)).keep u15 (CellsIn.none _)).keep u20 (CellsIn.none _)).keep u52 (CellsIn.none _)).keep u83 (CellsIn.none _)).keep u87 (CellsIn.none _)).keep u116 (CellsIn.none _)).keep u119 (B115).cellsIn).keep u126 (CellsIn.none _))
  have hmk0 := D484
  have hmc0 := (show CellsIn (fun i => i = bk7 ∨ i = bk12 ∨ i = bk17 ∨ i = bk113 ∨ i = b1 ∨ w125.heap.size + 1 ≤ i) w125 from fun k hk e => by
    rcases e with rfl | rfl | rfl | rfl | rfl | e
    · exact ⟨_, _, _, B129⟩
    · exact ⟨_, _, _, B130⟩
    · exact ⟨_, _, _, B131⟩
    · exact ⟨_, _, _, B132⟩
    · exact ⟨_, _, _, hb1⟩
    · omega)
  intro D483 w482 hD483 hE hdD483
  obtain ⟨preF, vF, postF, hshF, hu1, iF, eF, xF, hcl, hca, hce, hci, hgF⟩ := hE
  have zhu1 := hu1.size
  have mk486 := (hmk0.keep hu1 hmc0).push (D := D483) (by omega) hdD483 (fun d hd D' e => Nat.lt_of_lt_of_le (hmk0.lt d hd D' e) hD483)
  refine go ?_
  have hmkE := mk486
  refine f_retMc3 (v1 := .slice none 0 0) (v2 := .int .i64 iF) (v3 := .int .i64 eF) results89 (.cell mk486 rfl isAgg78 hcl rfl) (.cell mk486 rfl isAgg3 hca rfl) (.cell mk486 rfl isAgg26 hce rfl) mk486 (fun w487 u488 omw487 => ?_)
  have zu488 := u488.size
  have hr9 : readG LGa s = ([], iF, eF) := (readG_0 hlR).trans hgF
  exact ⟨⟨[], none, 0, 0, by rw [hr9]; rfl, by rw [hr9]; rfl, Acc.nil _ _ _ _ _ hpos (by omega), GausM.nil _ _⟩, ((E128.u.next hu1 (fun i hi (h : i = bk7 ∨ i = bk12 ∨ i = bk17 ∨ i = bk113 ∨ i = b1 ∨ w125.heap.size + 1 ≤ i) => show False by first | omega | assumption)).next u488 (fun i hi (h : w0.heap.size ≤ i) => show False by first | omega | assumption))⟩
 ·
  have D492 := (((((((((((show Marks w0.heap.size [] w0 from trivial).keep u5 (CellsIn.none _)).keep u10 (CellsIn.none _)).keep u15 (CellsIn.none _)).keep u20 (CellsIn.none _)).keep u52 (CellsIn.none _)).keep u83 (CellsIn.none _)).keep u87 (CellsIn.none _)).keep u116 (CellsIn.none _)).keep u119 (B115).cellsIn).keep u126 (CellsIn.none _))
  have hmk0 := D492
  have hmc0 := (show CellsIn (fun i => i = bk7 ∨ i = bk113 ∨ i = b1 ∨ w125.heap.size + 1 ≤ i) w125 from fun k hk e => by
    rcases e with rfl | rfl | rfl | e
    · exact ⟨_, _, _, B129⟩
    · exact ⟨_, _, _, B132⟩
    · exact ⟨_, _, _, hb1⟩
    · omega)
  intro D491 w490 hD491 hE hdD491
  obtain ⟨hu1, ys, ao2, g2, c2, hcl, hci, hac, hM, hyn, hgo, hko⟩ := hE
  have hMne := hM.ne hac
  have hfin := gg_done hgo (lnsP_len s)
  have zhu1 := hu1.size
  have lt_g2 := hac.lt
  have mk494 := (hmk0.keep hu1 hmc0).push (D := D491) (by omega) hdD491 (fun d hd D' e => Nat.lt_of_lt_of_le (hmk0.lt d hd D' e) hD491)
  refine go ?_
  refine x_s fun w496 sw496 B498 u497 => ?_
  have k500 := (B130.keep hu1 (show ¬ (bk12 = bk7 ∨ bk12 = bk113 ∨ bk12 = b1 ∨ w125.heap.size + 1 ≤ bk12) by first | omega | assumption))
  have B501 := (k500.keep u497 (by omega))
  refine x_s fun w502 sw502 B504 u503 => ?_
  have k506 := (B131.keep hu1 (show ¬ (bk17 = bk7 ∨ bk17 = bk113 ∨ bk17 = b1 ∨ w125.heap.size + 1 ≤ bk17) by first | omega | assumption))
  have B507 := ((k506.keep u497 (by omega)).keep u503 (by omega))
  refine x_s fun w508 sw508 B510 u509 => ?_
  refine go ?_
  have B512 := ((B498.keep u503 (by omega)).keep u509 (by omega))
  have B513 := (B504.keep u509 (by omega))
  have D514 := (((hac.keep u497 (fun hb => show ¬ (g2 = bk7) by first | omega | assumption)).keep u503 (fun hb => show ¬ (g2 = bk12) by first | omega | assumption)).keep u509 (fun hb => show ¬ (g2 = bk17) by first | omega | assumption))
  have D515 := (GausM.keep (GausM.keep (GausM.keep hM u497 (fun z hz hb => by have h9 := hMne z hz hb; have h8 := (hM z hz).2.2.lt; show ¬ (z.g = bk7); omega)) u503 (fun z hz hb => by have h9 := hMne z hz hb; have h8 := (hM z hz).2.2.lt; show ¬ (z.g = bk12); omega)) u509 (fun z hz hb => by have h9 := hMne z hz hb; have h8 := (hM z hz).2.2.lt; show ¬ (z.g = bk17); omega))
  have D518 := (((mk494.keep u497 (hcl).cellsIn).keep u503 (B501).cellsIn).keep u509 (B507).cellsIn)
  have hmkE := D518
  refine f_retMc3 (v1 := .slice ao2 ys.length c2) (v2 := .int .i64 0) (v3 := .int .i64 0) results89 (.cell D518 rfl isAgg78 B512 rfl) (.cell D518 rfl isAgg3 B513 rfl) (.cell D518 rfl isAgg26 B510 rfl) D518 (fun w516 u517 omw516 => ?_)
  have zu517 := u517.size
  have hr9 : readG LGa s = (ys.map Gau.bare, 0, 0) := (readG_0 hlR).trans hfin
  have hacW := D514.keep omw516 (fun hb9 hd9 => by
    rcases (D514).at_ with ⟨_, _, _, h6⟩ | ⟨_, _, cur, h7, _⟩
    · omega
    · exact hmkE.notCells h7 hd9)
  have hMW := (D515).keep omw516 (fun z hz hb9 hd9 => by
    rcases ((D515) z hz).2.2.at_ with ⟨_, _, _, h6⟩ | ⟨_, _, cur, h7, _⟩
    · omega
    · exact hmkE.notCells h7 hd9)
  obtain ⟨g9, hac9⟩ := (hacW.relowG (w125.heap.size + 2)).lower (base' := w0.heap.size) (by omega) hpos
  exact ⟨⟨ys.map (lowGa (w125.heap.size + 2)), _, g9, _, by rw [hr9, List.length_map], by rw [hr9, lowGa_bare], hac9, hMW.low hpos (by omega) (by omega)⟩, (((((E128.u.next hu1 (fun i hi (h : i = bk7 ∨ i = bk113 ∨ i = b1 ∨ w125.heap.size + 1 ≤ i) => show False by first | omega | assumption)).next u497 (fun i hi h => by omega)).next u503 (fun i hi h => by omega)).next u509 (fun i hi h => by omega)).next u517 (fun i hi (h : w0.heap.size ≤ i) => show False by first | omega | assumption))⟩

theorem ReadGauge_c (s : List UInt8) (w0 : World) (hsl : s.length ≤ 1000000) (hE : ErrV w0) (hT : Tab10 w0) (hpos : 0 < w0.heap.size) :
    CallsV Tryz.prog 45 [.string (strB s)] w0 (fun v w' => (∃ ys a9 g9 c9, v = .tuple #[.slice a9 (List.length ys) c9, .int .i64 (readG LGa s).2.1, .int .i64 (readG LGa s).2.2] ∧ ys.map Gau.bare = (readG LGa s).1 ∧ Acc encGau 3 80 w0.heap.size w' a9 g9 c9 ys ∧ GausM w0.heap.size w' ys) ∧ Ext w0 w') := by
 refine f_n func45 ?_
 refine go ?_
 refine x_c func87 rfl rfl (gauges_c _) ?_
 rintro _ w4 ⟨rfl, u5⟩ zu5
 have E7 := Sc.mk ((Upd.refl (fun _ => False) w0).nx u5)
 refine go ?_
 refine x_c func89 rfl rfl (gthings_c s _ hsl (hE.ext E7.u) (hT.ext E7.u) (by omega)) ?_
 rintro _ w9 ⟨⟨ys, a9, g9, c9, rfl, hyb, haY, hMY⟩, u10⟩ zu10
 refine go ?_
 refine f_ret3 (v1 := .slice a9 ys.length c9) (v2 := .int .i64 ((readG LGa s).2.1)) (v3 := .int .i64 ((readG LGa s).2.2)) results45 rfl rfl rfl ?_
 obtain ⟨g8, ha8⟩ := (haY.relowG _).lower (base' := w0.heap.size) (by omega) hpos
 exact ⟨⟨_, a9, g8, c9, by rw [List.length_map], by rw [lowGa_bare, hyb], ha8, hMY.low hpos (by omega) (by omega)⟩, u_d⟩

end Go.Proofs.YtjdcpnaocjddoaaGreatDoor
