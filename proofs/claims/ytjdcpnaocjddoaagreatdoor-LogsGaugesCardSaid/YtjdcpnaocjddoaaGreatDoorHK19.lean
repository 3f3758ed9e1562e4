/-
  Part 19 of the proof: contracts and plain laws. Conditions: none.
-/
import Derived.Test.YtjdcpnaocjddoaaGreatDoorRows
import Derived.Handed
import Derived.LaidLaws
import Derived.Lib.LaidTab
import Derived.Test.YtjdcpnaocjddoaaGreatDoorHK18
namespace Go.Proofs.YtjdcpnaocjddoaaGreatDoor
open Go Go.RowKit Go.Proofs.Tryz
abbrev LRg : List UInt8 → Gau × Int := lineG parGR
theorem gs_bad {L : List UInt8 → Gau × Int} {ls : List (List UInt8)} {ys : List Gau} (h : goG L [] ls = goG L (ys.map Gau.bare) (ls.drop ys.length)) (hk : ys.length < ls.length) (he : (L (nth ls ys.length)).2 ≠ 0) : goG L [] ls = ([], (ys.length : Int), (L (nth ls ys.length)).2) := by
  rw [h, drop_nth hk, goG_bad he, List.length_map]
theorem gs_twice {L : List UInt8 → Gau × Int} {ls : List (List UInt8)} {ys : List Gau} {y : Gau} (h : goG L [] ls = goG L (ys.map Gau.bare) (ls.drop ys.length)) (hk : ys.length < ls.length) (he : (L (nth ls ys.length)).2 = 0) (hy : y.bare = (L (nth ls ys.length)).1) (h2 : 0 < ys.length ∧ ¬ aftG (nth ys (ys.length - 1)) y) : goG L [] ls = ([], (ys.length : Int), 6) := by
  rw [h, drop_nth hk, goG_twice he (by rw [List.length_map, nth_bareG _ _ (by omega), ← hy]; exact h2), List.length_map]
theorem gs_next {L : List UInt8 → Gau × Int} {ls : List (List UInt8)} {ys : List Gau} {y : Gau} (h : goG L [] ls = goG L (ys.map Gau.bare) (ls.drop ys.length)) (hk : ys.length < ls.length) (he : (L (nth ls ys.length)).2 = 0) (hy : y.bare = (L (nth ls ys.length)).1) (h2 : ¬ (0 < ys.length ∧ ¬ aftG (nth ys (ys.length - 1)) y)) : goG L [] ls = goG L ((ys ++ [y]).map Gau.bare) (ls.drop (ys ++ [y]).length) := by
  rw [h, drop_nth hk, goG_next he (fun q => h2 (by
    rw [List.length_map] at q
    refine ⟨q.1, ?_⟩
    have := q.2
    rw [nth_bareG _ _ (by omega), ← hy] at this
    exact this)), List.map_append, ← hy, List.length_append]; rfl
theorem gs_done {L : List UInt8 → Gau × Int} {ls : List (List UInt8)} {ys : List Gau} (h : goG L [] ls = goG L (ys.map Gau.bare) (ls.drop ys.length)) (hk : ¬ ys.length < ls.length) : goG L [] ls = (ys.map Gau.bare, 0, 0) := by
  rw [h, List.drop_of_length_le (by omega)]; rfl
theorem readG_ok {L : List UInt8 → Gau × Int} {s : List UInt8} (h : (linesR s).2 = 0) : readG L s = goG L [] (linesR s).1 := by unfold readG; rw [if_neg (fun e => e h)]
/-- what the reference's variables hold when k words have been read -/
def ftk (ws : List (List UInt8)) (k : Nat) : List Int × Int := lvF (ws.take k)
theorem ftk_small {ws : List (List UInt8)} {k : Nat} (h : k ≤ 2) : ftk ws k = ([], 0) := by
  unfold ftk lvF
  rw [List.drop_of_length_le (by rw [List.length_take]; omega)]; rfl
theorem ftk_next {ws : List (List UInt8)} {k : Nat} (h : 2 ≤ k) (hk : k < ws.length) : ftk ws (k + 1) = stepR (ftk ws k) (nth ws k) := by
  unfold ftk lvF
  rw [take_nth hk, List.drop_append_of_le_length (by rw [List.length_take]; omega), List.foldl_append]; rfl
theorem ftk_len {ws : List (List UInt8)} : ∀ {k : Nat}, k ≤ ws.length → (ftk ws k).1.length = k - 2
  | 0, _ => by rw [ftk_small (by omega)]; rfl
  | 1, _ => by rw [ftk_small (by omega)]; rfl
  | 2, _ => by rw [ftk_small (by omega)]; rfl
  | k + 3, h => by
    rw [ftk_next (by omega) (by omega)]
    unfold stepR
    rw [List.length_append, ftk_len (k := k + 2) (by omega)]; rfl
theorem ftk_all {ws : List (List UInt8)} {k : Nat} (h : ws.length ≤ k) : ftk ws k = lvF ws := by unfold ftk; rw [List.take_of_length_le h]
/-- the number that a word adds -/
def addR (k : Nat) (w : List UInt8) : Int := if k = 2 then digV 6 0 w else stR w
theorem ftk_step {ws : List (List UInt8)} {k : Nat} (h : 2 ≤ k) (hk : k < ws.length) : ftk ws (k + 1) = ((ftk ws k).1 ++ [(ftk ws k).2 + addR k (nth ws k)], (ftk ws k).2 + addR k (nth ws k)) := by
  have hl := ftk_len (ws := ws) (k := k) (by omega)
  rw [ftk_next h hk]
  unfold stepR addR
  by_cases q : k = 2
  · rw [if_pos q, if_pos (List.eq_nil_of_length_eq_zero (by omega))]
  · rw [if_neg q, if_neg (fun e => by rw [e] at hl; simp at hl; omega)]
theorem digV_rng : ∀ (n : Nat) (v : Int) (s : List UInt8), 0 ≤ v → 0 ≤ digV n v s ∧ digV n v s + 1 ≤ (v + 1) * 10 ^ n
  | 0, v, _, h => by
    show 0 ≤ v ∧ v + 1 ≤ (v + 1) * 1
    omega
  | n + 1, v, [], h => by
    show 0 ≤ v ∧ v + 1 ≤ (v + 1) * 10 ^ (n + 1)
    have h1 : (0 : Int) < 10 ^ (n + 1) := Int.pow_pos (by decide)
    have h2 := Int.mul_le_mul_of_nonneg_left (show (1 : Int) ≤ 10 ^ (n + 1) by omega) (show 0 ≤ v + 1 by omega)
    omega
  | n + 1, v, c :: r, h => by
    show 0 ≤ (if isDg c then _ else v) ∧ (if isDg c then _ else v) + 1 ≤ _
    split
    · rename_i hd
      have hc := isDg_iff.1 hd
      have ih := digV_rng n (10 * v + ((c.toNat : Int) - 48)) r (by omega)
      refine ⟨ih.1, Int.le_trans ih.2 ?_⟩
      have h1 : (0 : Int) ≤ 10 ^ n := Int.le_of_lt (Int.pow_pos (by decide))
      have h2 := Int.mul_le_mul_of_nonneg_right (show 10 * v + ((c.toNat : Int) - 48) + 1 ≤ (v + 1) * 10 by omega) h1
      rw [Int.pow_succ, Int.mul_comm (10 ^ n) 10, ← Int.mul_assoc]; exact h2
    · have h1 : (0 : Int) < 10 ^ (n + 1) := Int.pow_pos (by decide)
      have h2 := Int.mul_le_mul_of_nonneg_left (show (1 : Int) ≤ 10 ^ (n + 1) by omega) (show 0 ≤ v + 1 by omega)
      omega
theorem dig6_rng (s : List UInt8) : 0 ≤ digV 6 0 s ∧ digV 6 0 s ≤ 999999 := by
  have := digV_rng 6 0 s (by decide)
  omega
theorem addR_rng (k : Nat) (w : List UInt8) : -999999 ≤ addR k w ∧ addR k w ≤ 999999 := by
  have h1 := dig6_rng w
  have h2 := dig6_rng (w.drop 1)
  unfold addR stR
  split
  · omega
  · split <;> omega
theorem nth_out {α : Type} [Inhabited α] {l : List α} {k : Nat} (h : l.length ≤ k) : nth l k = default := by
  unfold nth
  rw [List.getD_eq_getElem?_getD, List.getElem?_eq_none h]; rfl
theorem dig_out {ws : List (List UInt8)} {k : Nat} (h : ws.length ≤ k) : digV 6 0 (nth ws k) = 0 := by rw [nth_out h]; rfl
theorem nth_dl {α : Type} [Inhabited α] {l : List α} {k : Nat} (h : k < l.dropLast.length) : nth l.dropLast k = nth l k := by
  rw [List.length_dropLast] at h
  rw [List.dropLast_eq_take, nth_eq (by rw [List.length_take]; omega), nth_eq (by omega), List.getElem_take]
theorem par_fin {ws : List (List UInt8)} {k : Nat} {a0 a1 : Int} {p : List Int × Int} (hk : ws.length ≤ k) (h0 : a0 = if 0 < k ∧ 0 < ws.length then digV 6 0 (nth ws 0) else 0) (h1 : a1 = if 1 < k ∧ 1 < ws.length then digV 6 0 (nth ws 1) else 0) (hp : ftk ws k = p) : a0 = digV 6 0 (nth ws 0) ∧ a1 = digV 6 0 (nth ws 1) ∧ p.1 = (lvF ws).1 := by
  refine ⟨?_, ?_, ?_⟩
  · by_cases q : 0 < ws.length
    · rw [h0, if_pos ⟨by omega, q⟩]
    · rw [h0, if_neg (fun e => q e.2), dig_out (by omega)]
  · by_cases q : 1 < ws.length
    · rw [h1, if_pos ⟨by omega, q⟩]
    · rw [h1, if_neg (fun e => q e.2), dig_out (by omega)]
  · rw [← hp, ftk_all hk]
def SgT (k : Nat) (w : List UInt8) (sg : Int) (tx : List UInt8) : Prop := (k ≤ 2 → sg = 1 ∧ tx = w) ∧ (2 < k → sg * digV 6 0 tx = stR w) ∧ tx.length ≤ w.length
theorem SgT.small {k : Nat} {w : List UInt8} (h : ¬ 2 < k) : SgT k w 1 w := ⟨fun _ => ⟨rfl, rfl⟩, fun q => absurd q h, Nat.le_refl _⟩
theorem SgT.empty {k : Nat} {w : List UInt8} (h : w = []) : SgT k w 1 w := by
  refine ⟨fun _ => ⟨rfl, rfl⟩, fun _ => ?_, Nat.le_refl _⟩
  subst h; rfl
theorem SgT.minus {k : Nat} {w : List UInt8} (hk : 2 < k) (h : nth w 0 = 45) : SgT k w (-1) (w.drop 1) := by
  refine ⟨fun q => absurd hk (by omega), fun _ => ?_, by rw [List.length_drop]; omega⟩
  unfold stR
  rw [if_pos h]
theorem SgT.plus {k : Nat} {w : List UInt8} (hk : 2 < k) (h : nth w 0 ≠ 45) : SgT k w 1 (w.drop 1) := by
  refine ⟨fun q => absurd hk (by omega), fun _ => ?_, by rw [List.length_drop]; omega⟩
  unfold stR
  rw [if_neg h]
theorem SgT.add {k : Nat} {w : List UInt8} {sg : Int} {tx : List UInt8} (h : SgT k w sg tx) (hk : 2 ≤ k) : sg * digV 6 0 tx = addR k w := by
  unfold addR
  by_cases q : k = 2
  · obtain ⟨e1, e2⟩ := h.1 (by omega)
    rw [if_pos q, e1, e2, Int.one_mul]
  · rw [if_neg q]; exact h.2.1 (by omega)
set_option maxRecDepth 20000 in
set_option maxHeartbeats 4000000 in
theorem rReadG_c (s : List UInt8) (w0 : World) (hsl : s.length ≤ 1000000) (hpos : 0 < w0.heap.size) :
    CallsV Tryz.prog 47 [.string (strB s)] w0 (fun v w' => (∃ ys a9 g9 c9, v = .tuple #[.slice a9 (List.length ys) c9, .int .i64 (readG LRg s).2.1, .int .i64 (readG LRg s).2.2] ∧ ys.map Gau.bare = (readG LRg s).1 ∧ Acc encGau 3 80 w0.heap.size w' a9 g9 c9 ys ∧ GausM w0.heap.size w' ys) ∧ Ext w0 w') := by
 refine f_n func47 ?_
 refine go ?_
 refine x_c func83 rfl rfl (lines_c s _ hsl (by omega)) ?_
 rintro _ w4 ⟨⟨aL, gL, cL, rfl, haL⟩, u5⟩ zu5
 have lt_gL := haL.lt
 refine go ?_
 refine q_p (fun g24 => ?_) fun g24 => ?_
 ·
  refine go ?_
  refine f_ret3 (v1 := .slice none 0 0) (v2 := .int .i64 0) (v3 := .int .i64 ((linesR s).2)) results47 rfl rfl rfl ?_
  have hr9 : readG LRg s = ([], 0, (linesR s).2) := readG_e (linesR_err g24) g24
  exact ⟨⟨[], none, 0, 0, by rw [hr9]; rfl, by rw [hr9]; rfl, Acc.nil _ _ _ _ _ hpos (by omega), GausM.nil _ _⟩, u_d⟩
 obtain ⟨hln, hl200, hs12⟩ := linesR_ok (s := s) (by omega)
 have hll : (linesR s).1.length ≤ 200 := by rw [hln]; exact hl200
 refine go ?_
 refine x_l fun bk12 w13 ebk12 sbk12 B14 u15 => ?_
 refine go ?_
 refine x_l2 (fun i => i = bk12 ∨ w13.heap.size ≤ i) [5] (fun (ys : List Gau) (q : (Option Addr × Nat × Nat)) => [(2, .slice none 0 0), (3, .int .i64 0), (4, .int .i64 0), (7, .slice q.1 ys.length q.2.2), (8, .int .i64 (ys.length : Int))]) (fun ys q w => (ys.length ≤ (linesR s).1.length) ∧ (Acc encGau 3 80 w0.heap.size w q.1 q.2.1 q.2.2 ys) ∧ (q.2.1 = bk12 ∨ w13.heap.size ≤ q.2.1) ∧ (GausM w0.heap.size w ys) ∧ (goG LRg [] (linesR s).1 = goG LRg (ys.map Gau.bare) ((linesR s).1.drop ys.length)) ∧ (∀ z ∈ ys, okGau z = true)) (fun ys q => (linesR s).1.length - ys.length) ([]) (some ⟨bk12, 0, none⟩, bk12, 0) ⟨(Nat.zero_le _), (Acc.ofBlk (base := w0.heap.size) (xs := ([] : List Gau)) encGau 3 (fun _ => rfl) B14 (by omega) (by decide)), (.inl rfl), (GausM.nil _ _), rfl, (fun _ h => by cases h)⟩ ?_
 rintro ys q w20 ⟨hyl, hA, hqW, hM, hgo, hko⟩ u21 zu21 K19 hK19
 have lt_q_2_1 := hA.lt
 have hMne := hM.ne hA
 refine go ?_
 refine q_p (fun g30 => ?_) fun g30 => ?_
 ·
  have hUl : (nth (linesR s).1 ys.length).length ≤ 120000 := by
    have h9 : ys.length < (linesP s).length := by rw [← hln]; omega
    have h8 := lines_len h9
    rw [hln]; omega
  refine go ?_
  have D28 := ((haL.keep u15 (fun _ h => h)).keep u21 (fun hb => show ¬ (gL = bk12 ∨ w13.heap.size ≤ gL) by first | omega | assumption))
  refine g_i ys.length (D28.sl (fun _ => rfl)) (fun _ => ?_)
  refine go ?_
  refine x_c func84 rfl rfl (checked_c (nth (linesR s).1 ys.length) _ (by omega)) ?_
  rintro _ w31 ⟨rfl, u32⟩ zu32
  refine go ?_
  refine q_p (fun g39 => ?_) fun g39 => ?_
  ·
   refine go ?_
   refine f_ret3 (v1 := .slice none 0 0) (v2 := .int .i64 (ys.length : Int)) (v3 := .int .i64 (chkdP (nth (linesR s).1 ys.length))) results47 rfl rfl rfl ?_
   have he9 : (LRg (nth (linesR s).1 ys.length)).2 = chkdP (nth (linesR s).1 ys.length) := lineG_c g39
   have hr9 : readG LRg s = ([], (ys.length : Int), chkdP (nth (linesR s).1 ys.length)) := by rw [readG_ok (by omega)]; exact (gs_bad hgo (by omega) (by rw [he9]; exact g39)).trans (by rw [he9])
   exact ⟨⟨[], none, 0, 0, by rw [hr9]; rfl, by rw [hr9]; rfl, Acc.nil _ _ _ _ _ hpos (by omega), GausM.nil _ _⟩, u_d⟩
  have hck : chkdP (nth (linesR s).1 ys.length) = 0 := by omega
  refine go ?_
  have D38 := (D28.keep u32 (fun _ h => h))
  refine g_i ys.length (D38.sl (fun _ => rfl)) (fun _ => ?_)
  refine go ?_
  refine x_c func85 rfl rfl (words_c (nth (linesR s).1 ys.length) _ (by omega) (by omega)) ?_
  rintro _ w41 ⟨⟨aW, gW, cW, rfl, haW⟩, u42⟩ zu42
  have lt_gW := haW.lt
  have hwl := pcs_len 32 (nth (linesR s).1 ys.length)
  have hwp : 1 ≤ (pcs 32 (nth (linesR s).1 ys.length)).length := List.length_pos_iff.2 (pcs_ne 32 _)
  have hdl : ((pcs 32 (nth (linesR s).1 ys.length)).dropLast).length = (pcs 32 (nth (linesR s).1 ys.length)).length - 1 := List.length_dropLast
  refine go ?_
  refine x_n fun bk46 w47 ebk46 sbk46 B48 u49 => ?_
  refine x_s fun w51 sw51 B53 u52 => ?_
  refine go ?_
  refine x_l5 (fun i => i = bk46 ∨ w51.heap.size ≤ i) [2, 3, 4, 5, 7, 8, 10, 11] (fun (k : Nat) (a0 : Int) (a1 : Int) (p : (List Int × Int)) (q2 : (Option Addr × Nat × Nat)) => [(12, .int .i64 p.2), (13, .int .i64 (k : Int))]) (fun k a0 a1 p q2 w => Blk w bk46 80 [.int .i64 a0, .int .i64 a1, .slice q2.1 p.1.length q2.2.2] ∧ (k ≤ ((pcs 32 (nth (linesR s).1 ys.length)).dropLast).length) ∧ (a0 = if 0 < k ∧ 0 < ((pcs 32 (nth (linesR s).1 ys.length)).dropLast).length then digV 6 0 (nth ((pcs 32 (nth (linesR s).1 ys.length)).dropLast) 0) else 0) ∧ (a1 = if 1 < k ∧ 1 < ((pcs 32 (nth (linesR s).1 ys.length)).dropLast).length then digV 6 0 (nth ((pcs 32 (nth (linesR s).1 ys.length)).dropLast) 1) else 0) ∧ (ftk ((pcs 32 (nth (linesR s).1 ys.length)).dropLast) k = p) ∧ (Acc encI 1 3 w0.heap.size w q2.1 q2.2.1 q2.2.2 p.1) ∧ (q2.2.1 = 0 ∨ w51.heap.size ≤ q2.2.1) ∧ (-999999 * (k : Int) ≤ p.2 ∧ p.2 ≤ 999999 * (k : Int))) (fun k a0 a1 p q2 => ((pcs 32 (nth (linesR s).1 ys.length)).dropLast).length - k) 0 0 0 ([], 0) (none, 0, 0) ⟨B53, (Nat.zero_le _), (by rw [if_neg (fun h => absurd h.1 (by decide))]), (by rw [if_neg (fun h => absurd h.1 (by decide))]), (ftk_small (by omega)), (Acc.nil _ _ _ _ _ hpos (by omega)), (.inl rfl), (by decide)⟩ ?_
  rintro k a0 a1 p q2 w58 ⟨I60, hk, ha0, ha1, hp, hA2, hq2, hlb⟩ u59 zu59 K57 hK57
  have lt_q2_2_1 := hA2.lt
  have hpl9 : p.1.length ≤ 1000000 := by have h9 := ftk_len (ws := (pcs 32 (nth (linesR s).1 ys.length)).dropLast) (k := k) (by omega); rw [hp] at h9; omega
  refine go ?_
  refine q_p (fun g52 => ?_) fun g52 => ?_
  ·
   have htw : (nth (pcs 32 (nth (linesR s).1 ys.length)) k).length ≤ 120000 := by
     have h9 := pcs_items 32 (nth (linesR s).1 ys.length) (nth (pcs 32 (nth (linesR s).1 ys.length)) k) (nth_mem (by omega))
     omega
   have hmr := addR_rng k (nth (pcs 32 (nth (linesR s).1 ys.length)) k)
   refine go ?_
   refine c_drawnM follows (fun _ => False) (OTl [0, 2, 4, 6, 8, 10]) (by kernel_rfl) fun w66 u67 => ?_
   have zu67 := u67.size
   refine go ?_
   have D69 := ((((haW.keep u49 (fun _ h => h)).keep u52 (fun hb => show ¬ (gW = bk46) by first | omega | assumption)).keep u59 (fun hb => show ¬ (gW = bk46 ∨ w51.heap.size ≤ gW) by first | omega | assumption)).keep u67 (fun _ h => h))
   refine y_i k (D69.sl (fun _ => rfl)) (fun _ => ?_)
   iterate 5 refine st1 ?_
   refine x_k2 (fun _ => False) [2, 3, 4, 5, 7, 8, 10, 11, 12, 13] (fun (sg : Int) (tx : List UInt8) => [(14, .int .i64 sg), (15, .string (strB tx))]) (fun sg tx w => (SgT k (nth (pcs 32 (nth (linesR s).1 ys.length)) k) sg tx)) (fun K75 hK75 => ?_) ?_
   ·
    refine go ?_
    refine t_splitp 61 rfl (fun g61 => ?_) (fun g61 => ?_)
    ·
     refine go ?_
     refine t_bo (Bo.neS (nth (pcs 32 (nth (linesR s).1 ys.length)) k) ([])) rfl rfl rfl rfl ?_
     refine go ?_
     refine q_p (fun g64 => ?_) fun g64 => ?_
     ·
      have htp : 0 < (nth (pcs 32 (nth (linesR s).1 ys.length)) k).length := List.length_pos_iff.2 (by assumption)
      refine go ?_
      refine t_idxS 0 underlying9 rfl rfl rfl rfl rfl (by omega) ?_
      refine go ?_
      refine q_p (fun g67 => ?_) fun g67 => ?_
      ·
       refine go ?_
       refine t_subS 1 ((nth (pcs 32 (nth (linesR s).1 ys.length)) k).length) underlying9 rfl rfl rfl (.inl ⟨rfl, rfl, by first | rfl | omega⟩) (.inr ⟨rfl, rfl⟩) (k' := .i64) (n := 0) (x2 := .tmp 0) (by omega) (by omega) (t_same 69 (v := .string (strB ((nth (pcs 32 (nth (linesR s).1 ys.length)) k).drop 1))) rfl (congrArg (fun z => Value.string (strB z)) (List.take_of_length_le (by rw [List.length_drop]; exact Nat.le_refl _))) ?_)
       refine go ?_
       exact hK75 (-1) ((nth (pcs 32 (nth (linesR s).1 ys.length)) k).drop 1) (SgT.minus (by omega) (UInt8.toNat_inj.1 (show (nth (nth (pcs 32 (nth (linesR s).1 ys.length)) k) 0).toNat = 45 by omega)))
      refine go ?_
      refine t_subS 1 ((nth (pcs 32 (nth (linesR s).1 ys.length)) k).length) underlying9 rfl rfl rfl (.inl ⟨rfl, rfl, by first | rfl | omega⟩) (.inr ⟨rfl, rfl⟩) (k' := .i64) (n := 0) (x2 := .tmp 0) (by omega) (by omega) (t_same 69 (v := .string (strB ((nth (pcs 32 (nth (linesR s).1 ys.length)) k).drop 1))) rfl (congrArg (fun z => Value.string (strB z)) (List.take_of_length_le (by rw [List.length_drop]; exact Nat.le_refl _))) ?_)
      refine go ?_
      exact hK75 1 ((nth (pcs 32 (nth (linesR s).1 ys.length)) k).drop 1) (SgT.plus (by omega) (fun e => g67 (by rw [e]; rfl)))
     refine go ?_
     exact hK75 1 (nth (pcs 32 (nth (linesR s).1 ys.length)) k) (by first | exact SgT.small (by omega) | exact SgT.empty (Decidable.not_not.1 (by assumption)) | exact SgT.empty (by assumption))
    refine go ?_
    exact hK75 1 (nth (pcs 32 (nth (linesR s).1 ys.length)) k) (by first | exact SgT.small (by omega) | exact SgT.empty (Decidable.not_not.1 (by assumption)) | exact SgT.empty (by assumption))
   rintro sg tx w76 hsg u77 zu77
   have htl := hsg.2.2
   refine go ?_
   refine x_c func86 rfl rfl (digits_c tx _ (by omega)) ?_
   rintro _ w84 ⟨rfl, u85⟩ zu85
   refine go ?_
   refine q_p (fun g76 => ?_) fun g76 => ?_
   ·
    refine go ?_
    refine x_s fun w89 sw89 B91 u90 => ?_
    refine go ?_
    have D93 := ((((hA2.keep u67 (fun _ h => h)).keep u77 (fun _ h => h)).keep u85 (fun _ h => h)).keep u90 (fun hb => show ¬ (q2.2.1 = bk46) by first | omega | assumption))
    exact hK57 (k + 1) (digV 6 0 tx) a1 p q2 ⟨B91, (by omega), (by rw [if_pos ⟨by omega, by omega⟩, (hsg.1 (by omega)).2, nth_dl (by omega)]; rw [show k = 0 by omega]), (by rw [ha1, if_neg (by omega), if_neg (by omega)]), (by rw [← hp, ftk_small (k := k + 1) (by omega), ftk_small (by omega)]), D93, (show q2.2.1 = 0 ∨ w51.heap.size ≤ q2.2.1 by omega), (by have h9 := hlb; show -999999 * ((k + 1 : Nat) : Int) ≤ p.2 ∧ p.2 ≤ 999999 * ((k + 1 : Nat) : Int); omega)⟩
   refine go ?_
   refine q_p (fun g80 => ?_) fun g80 => ?_
   ·
    refine go ?_
    refine x_s fun w95 sw95 B97 u96 => ?_
    refine go ?_
    have D99 := ((((hA2.keep u67 (fun _ h => h)).keep u77 (fun _ h => h)).keep u85 (fun _ h => h)).keep u96 (fun hb => show ¬ (q2.2.1 = bk46) by first | omega | assumption))
    exact hK57 (k + 1) a0 (digV 6 0 tx) p q2 ⟨B97, (by omega), (by rw [ha0]; first | (rw [if_pos ⟨by omega, by omega⟩, if_pos ⟨by omega, by omega⟩]) | (rw [if_neg (by omega), if_neg (by omega)])), (by rw [if_pos ⟨by omega, by omega⟩, (hsg.1 (by omega)).2, nth_dl (by omega)]; rw [show k = 1 by omega]), (by rw [← hp, ftk_small (k := k + 1) (by omega), ftk_small (by omega)]), D99, (show q2.2.1 = 0 ∨ w51.heap.size ≤ q2.2.1 by omega), (by have h9 := hlb; show -999999 * ((k + 1 : Nat) : Int) ≤ p.2 ∧ p.2 ≤ 999999 * ((k + 1 : Nat) : Int); omega)⟩
   have hml := hsg.add (by omega)
   have hml2 : -999999 ≤ sg * digV 6 0 tx ∧ sg * digV 6 0 tx ≤ 999999 := by rw [hml]; exact hmr
   iterate 6 refine st1 ?_
   refine t_same 86 (v := .int .i64 (addR k (nth (pcs 32 (nth (linesR s).1 ys.length)) k))) rfl (congrArg (Value.int .i64) hml) ?_
   refine go ?_
   refine x_l fun bk101 w102 ebk101 sbk101 B103 u104 => ?_
   have D106 := ((((hA2.keep u67 (fun _ h => h)).keep u77 (fun _ h => h)).keep u85 (fun _ h => h)).keep u104 (fun _ h => h))
   refine t_append (z := .int .i64 0) (bytes := 8) (k := 1) (base := w0.heap.size) (p.2 + addR k (nth (pcs 32 (nth (linesR s).1 ys.length)) k)) underlying59 (by kernel_rfl) rfl (by decide) (fun _ => rfl) (by intro x; simp [encI, Value.oneCell']) rfl rfl rfl rfl D106 B103 (by omega) (by omega) (by decide) (fun ao107 gb108 cp109 w110 A111 u112 gegb108 lngb108 => ?_)
   have zu112 := u112.size
   have lt_gb108 := A111.lt
   refine go ?_
   refine x_s fun w114 sw114 B116 u115 => ?_
   refine go ?_
   have D118 := (A111.keep u115 (fun hb => show ¬ (gb108 = bk46) by first | omega | assumption))
   exact hK57 (k + 1) a0 a1 (p.1 ++ [p.2 + addR k (nth (pcs 32 (nth (linesR s).1 ys.length)) k)], p.2 + addR k (nth (pcs 32 (nth (linesR s).1 ys.length)) k)) (ao107, gb108, cp109) ⟨B116, (by omega), (by rw [ha0]; first | (rw [if_pos ⟨by omega, by omega⟩, if_pos ⟨by omega, by omega⟩]) | (rw [if_neg (by omega), if_neg (by omega)])), (by rw [ha1, if_pos ⟨by omega, by omega⟩, if_pos ⟨by omega, by omega⟩]), (by rw [ftk_step (by omega) (by omega), hp, nth_dl (by omega)]), D118, (show gb108 = 0 ∨ w51.heap.size ≤ gb108 by omega), (by have h9 := hlb; show -999999 * ((k + 1 : Nat) : Int) ≤ p.2 + addR k (nth (pcs 32 (nth (linesR s).1 ys.length)) k) ∧ p.2 + addR k (nth (pcs 32 (nth (linesR s).1 ys.length)) k) ≤ 999999 * ((k + 1 : Nat) : Int); omega)⟩
  obtain ⟨hb0, hb1, hb2⟩ := par_fin (ws := (pcs 32 (nth (linesR s).1 ys.length)).dropLast) (k := k) (by omega) ha0 ha1 hp
  have hyb : (⟨a0, a1, p.1, q2.1, q2.2.1, 0, q2.2.2⟩ : Gau).bare = parGR (nth (linesR s).1 ys.length) := by unfold parGR; rw [← hb0, ← hb1, ← hb2]; rfl
  iterate 7 refine st1 ?_
  refine x_k1 (fun _ => False) [2, 3, 4, 5, 7, 8, 11] (fun (z8 : Bool) => [(106, .bool z8)]) (fun z8 w => (z8 = decide (¬ (okGau (⟨a0, a1, p.1, q2.1, q2.2.1, 0, q2.2.2⟩ : Gau) = true ∧ gauP (⟨a0, a1, p.1, q2.1, q2.2.1, 0, q2.2.2⟩ : Gau) = (nth (linesR s).1 ys.length) ++ [10])))) (fun K124 hK124 => ?_) ?_
  ·
   refine c_drawnM follows (fun _ => False) (OTl [0, 3, 4, 6, 8, 12, 14, 16, 18, 20, 11, 22, 24]) (by kernel_rfl) fun w127 u128 => ?_
   have zu128 := u128.size
   refine go ?_
   have D130 := (hA2.keep u128 (fun _ h => h))
   refine x_c func90 rfl rfl (rGauge_c (⟨a0, a1, p.1, q2.1, q2.2.1, 0, q2.2.2⟩ : Gau) _ (D130.sl (fun _ => rfl)) hpl9) ?_
   rintro _ w132 ⟨rfl, u133⟩ zu133
   refine go ?_
   refine y_split 97 rfl (fun g97 => ?_) (fun g97 => ?_)
   ·
    have hx : ¬ okGau (⟨a0, a1, p.1, q2.1, q2.2.1, 0, q2.2.2⟩ : Gau) = true := by simpa using g97
    refine go ?_
    exact hK124 true (by first | exact (decide_eq_true (show ¬ (okGau (⟨a0, a1, p.1, q2.1, q2.2.1, 0, q2.2.2⟩ : Gau) = true ∧ gauP (⟨a0, a1, p.1, q2.1, q2.2.1, 0, q2.2.2⟩ : Gau) = (nth (linesR s).1 ys.length) ++ [10]) from fun h => hx h.1)).symm | exact decide_eq_decide.2 ⟨fun h e => h e.2, fun h e => h ⟨hx, e⟩⟩)
   have hx : okGau (⟨a0, a1, p.1, q2.1, q2.2.1, 0, q2.2.2⟩ : Gau) = true := by simpa using g97
   refine go ?_
   have D136 := (((((D38.keep u42 (fun _ h => h)).keep u49 (fun _ h => h)).keep u52 (fun hb => show ¬ (gL = bk46) by first | omega | assumption)).keep u59 (fun hb => show ¬ (gL = bk46 ∨ w51.heap.size ≤ gL) by first | omega | assumption)).keep u128 (fun _ h => h))
   refine y_i ys.length (D136.sl (fun _ => rfl)) (fun _ => ?_)
   refine go ?_
   refine y_bo (Bo.addS (by simp only [List.length_cons, List.length_nil]; omega)) rfl rfl rfl rfl ?_
   refine go ?_
   have D138 := (D130.keep u133 (fun _ h => h))
   refine x_c func92 rfl rfl (rTextG_c (⟨a0, a1, p.1, q2.1, q2.2.1, 0, q2.2.2⟩ : Gau) _ (D138.sl (fun _ => rfl)) hx) ?_
   rintro _ w140 ⟨rfl, u141⟩ zu141
   refine go ?_
   refine y_bo (Bo.neS (gauP (⟨a0, a1, p.1, q2.1, q2.2.1, 0, q2.2.2⟩ : Gau)) ((nth ((linesR s).1) ys.length) ++ [10])) rfl rfl rfl rfl ?_
   refine go ?_
   exact hK124 (decide ((gauP (⟨a0, a1, p.1, q2.1, q2.2.1, 0, q2.2.2⟩ : Gau)) ≠ ((nth ((linesR s).1) ys.length) ++ [10]))) (by first | exact (decide_eq_true (show ¬ (okGau (⟨a0, a1, p.1, q2.1, q2.2.1, 0, q2.2.2⟩ : Gau) = true ∧ gauP (⟨a0, a1, p.1, q2.1, q2.2.1, 0, q2.2.2⟩ : Gau) = (nth (linesR s).1 ys.length) ++ [10]) from fun h => hx h.1)).symm | exact decide_eq_decide.2 ⟨fun h e => h e.2, fun h e => h ⟨hx, e⟩⟩)
  rintro z8 w125 hz8 u126 zu126
  refine q_b (fun g106 => ?_) fun g106 => ?_
  ·
   have hzc : (¬ (okGau (⟨a0, a1, p.1, q2.1, q2.2.1, 0, q2.2.2⟩ : Gau) = true ∧ gauP (⟨a0, a1, p.1, q2.1, q2.2.1, 0, q2.2.2⟩ : Gau) = (nth (linesR s).1 ys.length) ++ [10])) := by rw [hz8] at g106; exact of_decide_eq_true g106
   refine go ?_
   refine f_ret3 (v1 := .slice none 0 0) (v2 := .int .i64 (ys.length : Int)) (v3 := .int .i64 4) results47 rfl rfl rfl ?_
   have he9 : (LRg (nth (linesR s).1 ys.length)).2 = 4 := lineG_4 hck (by rw [← hyb]; exact hzc)
   have hr9 : readG LRg s = ([], (ys.length : Int), 4) := by rw [readG_ok (by omega)]; exact (gs_bad hgo (by omega) (by rw [he9]; decide)).trans (by rw [he9])
   exact ⟨⟨[], none, 0, 0, by rw [hr9]; rfl, by rw [hr9]; rfl, Acc.nil _ _ _ _ _ hpos (by omega), GausM.nil _ _⟩, u_d⟩
  have hzc : ¬ (¬ (okGau (⟨a0, a1, p.1, q2.1, q2.2.1, 0, q2.2.2⟩ : Gau) = true ∧ gauP (⟨a0, a1, p.1, q2.1, q2.2.1, 0, q2.2.2⟩ : Gau) = (nth (linesR s).1 ys.length) ++ [10])) := by rw [hz8] at g106; exact of_decide_eq_false g106
  have hzz := Decidable.not_not.1 hzc
  have hky : okGau (⟨a0, a1, p.1, q2.1, q2.2.1, 0, q2.2.2⟩ : Gau) = true := hzz.1
  have hlB : LRg (nth (linesR s).1 ys.length) = (parGR (nth (linesR s).1 ys.length), 0) := lineG_0 hck (by rw [← hyb]; exact hzz)
  have hle : (LRg (nth (linesR s).1 ys.length)).2 = 0 := by rw [hlB]
  have hye : (⟨a0, a1, p.1, q2.1, q2.2.1, 0, q2.2.2⟩ : Gau).bare = (LRg (nth (linesR s).1 ys.length)).1 := by rw [hlB]; exact hyb
  iterate 3 refine st1 ?_
  refine x_k1 (fun _ => False) [2, 3, 4, 5, 7, 8, 11] (fun (z7 : Bool) => [(119, .bool z7)]) (fun z7 w => (z7 = decide (0 < ys.length ∧ ¬ aftG (nth ys (ys.length - 1)) (⟨a0, a1, p.1, q2.1, q2.2.1, 0, q2.2.2⟩ : Gau)))) (fun K151 hK151 => ?_) ?_
  ·
   refine c_drawnM follows (fun _ => False) (OTl [0, 2, 4, 6, 8, 10, 12, 14, 16, 19, 20, 22]) (by kernel_rfl) fun w154 u155 => ?_
   have zu155 := u155.size
   refine go ?_
   refine y_splitp 110 rfl (fun g110 => ?_) (fun g110 => ?_)
   ·
    refine go ?_
    have D157 := (((((((hA.keep u32 (fun _ h => h)).keep u42 (fun _ h => h)).keep u49 (fun _ h => h)).keep u52 (fun hb => show ¬ (q.2.1 = bk46) by first | omega | assumption)).keep u59 (fun hb => show ¬ (q.2.1 = bk46 ∨ w51.heap.size ≤ q.2.1) by first | omega | assumption)).keep u126 (fun _ h => h)).keep u155 (fun _ h => h))
    refine y_i (ys.length - 1) (D157.sl (fun _ => rfl)) (fun _ => ?_)
    refine go ?_
    refine x_c func91 rfl rfl (rAfter_c (nth ys (ys.length - 1)) (⟨a0, a1, p.1, q2.1, q2.2.1, 0, q2.2.2⟩ : Gau) _ (hko _ (nth_mem (xs := ys) (i := ys.length - 1) (by omega)))) ?_
    rintro _ w160 ⟨rfl, u161⟩ zu161
    refine go ?_
    exact hK151 (decide (¬ (aftG (nth ys (ys.length - 1)) (⟨a0, a1, p.1, q2.1, q2.2.1, 0, q2.2.2⟩ : Gau)))) (by first | exact (decide_eq_false (by omega)).symm | exact decide_eq_decide.2 ⟨fun h => ⟨by omega, h⟩, fun h => h.2⟩)
   refine go ?_
   exact hK151 false (by first | exact (decide_eq_false (by omega)).symm | exact decide_eq_decide.2 ⟨fun h => ⟨by omega, h⟩, fun h => h.2⟩)
  rintro z7 w152 hz7 u153 zu153
  refine q_b (fun g119 => ?_) fun g119 => ?_
  ·
   have hzt : (0 < ys.length ∧ ¬ aftG (nth ys (ys.length - 1)) (⟨a0, a1, p.1, q2.1, q2.2.1, 0, q2.2.2⟩ : Gau)) := by rw [hz7] at g119; exact of_decide_eq_true g119
   refine go ?_
   refine f_ret3 (v1 := .slice none 0 0) (v2 := .int .i64 (ys.length : Int)) (v3 := .int .i64 6) results47 rfl rfl rfl ?_
   have hr9 : readG LRg s = ([], (ys.length : Int), 6) := by rw [readG_ok (by omega)]; exact gs_twice hgo (by omega) hle hye hzt
   exact ⟨⟨[], none, 0, 0, by rw [hr9]; rfl, by rw [hr9]; rfl, Acc.nil _ _ _ _ _ hpos (by omega), GausM.nil _ _⟩, u_d⟩
  have hzt : ¬ (0 < ys.length ∧ ¬ aftG (nth ys (ys.length - 1)) (⟨a0, a1, p.1, q2.1, q2.2.1, 0, q2.2.2⟩ : Gau)) := by rw [hz7] at g119; exact of_decide_eq_false g119
  refine go ?_
  refine x_l fun bk166 w167 ebk166 sbk166 B168 u169 => ?_
  have D171 := ((((((((hA.keep u32 (fun _ h => h)).keep u42 (fun _ h => h)).keep u49 (fun _ h => h)).keep u52 (fun hb => show ¬ (q.2.1 = bk46) by first | omega | assumption)).keep u59 (fun hb => show ¬ (q.2.1 = bk46 ∨ w51.heap.size ≤ q.2.1) by first | omega | assumption)).keep u126 (fun _ h => h)).keep u153 (fun _ h => h)).keep u169 (fun _ h => h))
  refine t_append (z := .agg #[.int .i64 0, .int .i64 0, .slice none 0 0]) (bytes := 40) (k := 3) (base := w0.heap.size) (⟨a0, a1, p.1, q2.1, q2.2.1, 0, q2.2.2⟩ : Gau) underlying78 (by kernel_rfl) rfl (by decide) (fun _ => rfl) (by intro x; simp [encGau, Value.oneCell']) rfl rfl rfl rfl D171 B168 (by omega) (by omega) (by decide) (fun ao172 gb173 cp174 w175 A176 u177 gegb173 lngb173 => ?_)
  have zu177 := u177.size
  have lt_gb173 := A176.lt
  refine go ?_
  have D179 := (GausM.keep (GausM.keep (GausM.keep (GausM.keep (GausM.keep (GausM.keep (GausM.keep (GausM.keep (GausM.keep hM u32 (fun _ _ _ h => h)) u42 (fun _ _ _ h => h)) u49 (fun _ _ _ h => h)) u52 (fun z hz hb => by have h9 := hMne z hz hb; have h8 := (hM z hz).2.2.lt; show ¬ (z.g = bk46); omega)) u59 (fun z hz hb => by have h9 := hMne z hz hb; have h8 := (hM z hz).2.2.lt; show ¬ (z.g = bk46 ∨ w51.heap.size ≤ z.g); omega)) u126 (fun _ _ _ h => h)) u153 (fun _ _ _ h => h)) u169 (fun _ _ _ h => h)) u177 (fun z hz hb => by have h9 := hMne z hz hb; have h8 := (hM z hz).2.2.lt; show ¬ ((z.g = q.2.1 ∧ w0.heap.size ≤ z.g)); omega))
  have D180 := ((((hA2.keep u126 (fun _ h => h)).keep u153 (fun _ h => h)).keep u169 (fun _ h => h)).keep u177 (fun hb => show ¬ ((q2.2.1 = q.2.1 ∧ w0.heap.size ≤ q2.2.1)) by first | omega | assumption))
  exact hK19 (ys ++ [(⟨a0, a1, p.1, q2.1, q2.2.1, 0, q2.2.2⟩ : Gau)]) (ao172, gb173, cp174) ⟨(by rw [List.length_append, List.length_singleton]; omega), A176, (show gb173 = bk12 ∨ w13.heap.size ≤ gb173 by omega), (GausM.snoc D179 rfl hpl9 D180), (gs_next hgo (by omega) hle hye hzt), (fun z hz => by
    rcases List.mem_append.1 hz with h | h
    · exact hko z h
    · rw [List.mem_singleton.1 h]; exact hky)⟩ (hm := (by show (linesR s).1.length - (ys ++ [_]).length < (linesR s).1.length - ys.length; rw [List.length_append, List.length_singleton]; omega)) (hs := by exact ⟨rfl, rfl, rfl, rfl, (congrArg (fun z => some (Value.int .i64 z)) (by rw [List.length_append, List.length_singleton, Int.natCast_add]; rfl)), rfl, trivial⟩)
 refine go ?_
 refine f_ret3 (v1 := .slice q.1 ys.length q.2.2) (v2 := .int .i64 0) (v3 := .int .i64 0) results47 rfl rfl rfl ?_
 have hr9 : readG LRg s = (ys.map Gau.bare, 0, 0) := by rw [readG_ok (by omega)]; exact gs_done hgo (by omega)
 exact ⟨⟨ys, _, _, _, by rw [hr9], by rw [hr9], hA, hM⟩, u_d⟩

end Go.Proofs.YtjdcpnaocjddoaaGreatDoor
namespace Go.Proofs.YtjdcpnaocjddoaaGreatDoor
open Go Go.RowKit Go.Proofs.Tryz
theorem eqI_c (xs : List Int) (aa : Option Addr) (ba oa ca : Nat) (ab : Option Addr) (bb ob cb : Nat) (w0 : World) (ha : Sl encI 1 w0 aa ba oa xs) (hb : Sl encI 1 w0 ab bb ob xs) (hxl : xs.length ≤ 1000000) :
    CallsV Tryz.prog 33 [.slice aa xs.length ca, .slice ab xs.length cb] w0 (fun v w' => v = .bool true ∧ Ext w0 w') := by
 refine f_n func33 ?_
 iterate 13 refine st1 ?_
 refine t_samehd (v := .bool false) (by simp) ?_
 refine go ?_
 refine x_l1 (fun _ => False) [0, 1] (fun (j : Nat) => [(5, .int .i64 (j : Int))]) (fun j w => (j ≤ xs.length)) (fun j => xs.length - j) 0 (Nat.zero_le _) ?_
 rintro j w7 hj u8 zu8 K6 hK6
 refine go ?_
 refine q_p (fun g14 => ?_) fun g14 => ?_
 ·
  refine go ?_
  refine c_drawnM follows (fun _ => False) (OTl [0, 2, 4, 6, 8, 10, 12, 14, 16]) (by kernel_rfl) fun w14 u15 => ?_
  have zu15 := u15.size
  have E16 := Sc.mk (((Upd.refl (fun _ => False) w0).nx u8).nx u15)
  refine go ?_
  refine y_i j (ha.keep E16.u (fun _ h => h)) (fun _ => ?_)
  refine go ?_
  refine y_i j (hb.keep E16.u (fun _ h => h)) (fun _ => ?_)
  iterate 2 refine st1 ?_
  refine y_samehd (v := .bool false) (by simp) ?_
  refine go ?_
  exact hK6 (j + 1) (by omega)
 refine go ?_
 refine f_1 results33 ?_
 exact ⟨rfl, u_d⟩

end Go.Proofs.YtjdcpnaocjddoaaGreatDoor
namespace Go.Proofs.YtjdcpnaocjddoaaGreatDoor
open Go Go.RowKit Go.Proofs.Tryz
theorem Acc.lowH {α : Type} {enc : α → List Value} {k : Nat} {e : TypeId} {base base' : Nat} {w : World} {ao : Option Addr} {g cap : Nat} {xs : List α} (h : Acc enc k e base w ao g cap xs) (hb : base' ≤ base) (h0 : 0 < base') : ∃ g', Acc enc k e base' w ao g' cap xs ∧ (base' ≤ g' → base ≤ g') := by
  rcases h.at_ with ⟨h1, h2, h3, h4⟩ | ⟨h1, h2, h3⟩
  · exact ⟨0, ⟨Nat.lt_of_le_of_lt (Nat.zero_le _) h.lt, .inl ⟨h1, h2, h3, h0⟩⟩, fun q => absurd q (by omega)⟩
  · exact ⟨g, ⟨h.lt, .inr ⟨h1, by omega, h3⟩⟩, fun _ => h2⟩
def SlB (W : World) (ys : List Bil) : Prop := ∀ z ∈ ys, Sl encI 1 W z.ao z.g z.ob z.s ∧ z.s.length ≤ 1000000
theorem SlB.ext {W W' : World} {ys : List Bil} (h : SlB W ys) (u : Ext W W') : SlB W' ys := fun z hz => ⟨(h z hz).1.keep u (fun _ h => h), (h z hz).2⟩
theorem eqI_d (xs ys : List Int) (he : xs = ys) (aa : Option Addr) (ba oa ca : Nat) (ab : Option Addr) (bb ob cb : Nat) (w0 : World) (h1 : Sl encI 1 w0 aa ba oa xs) (h2 : Sl encI 1 w0 ab bb ob ys) (hl : xs.length ≤ 1000000) : CallsV Tryz.prog 33 [.slice aa xs.length ca, .slice ab ys.length cb] w0 fun v w' => v = .bool true ∧ Ext w0 w' := by
  subst he
  exact eqI_c xs aa ba oa ca ab bb ob cb w0 h1 h2 hl
theorem ints_c (xs : List Int) (aa : Option Addr) (ba oa ca : Nat) (w0 : World) (hs : Sl encI 1 w0 aa ba oa xs) (hxl : xs.length ≤ 1000000) (hpos : 0 < w0.heap.size) :
    CallsV Tryz.prog 77 [.slice aa xs.length ca] w0 (fun v w' => (∃ a9 g9 c9, v = .slice a9 (List.length xs) c9 ∧ Acc encI 1 3 w0.heap.size w' a9 g9 c9 xs) ∧ Ext w0 w') := by
 refine f_n func77 ?_
 refine go ?_
 refine x_l fun bk3 w4 ebk3 sbk3 B5 u6 => ?_
 refine go ?_
 refine t_copy (enc := encI) (z := .int .i64 0) (bytes := 8) (k := 1) (ys := xs) underlying59 (by kernel_rfl) rfl (by decide) (fun _ => rfl) (by intro x; simp [encI, Value.oneCell']) rfl rfl rfl rfl B5 (hs.keep ((Upd.refl (fun _ => False) w0).nx u6) (fun _ h => h)) (by omega) (by decide) (fun ao8 gb9 cp10 w11 A12 u13 gegb9 => ?_)
 have zu13 := u13.size
 have lt_gb9 := A12.lt
 refine go ?_
 refine f_1 results77 ?_
 obtain ⟨g9, h9⟩ := Acc.lower (base' := w0.heap.size) A12 (by omega) hpos
 exact ⟨⟨_, g9, _, rfl, h9⟩, u_d⟩

end Go.Proofs.YtjdcpnaocjddoaaGreatDoor
namespace Go.Proofs.YtjdcpnaocjddoaaGreatDoor
open Go Go.RowKit Go.Proofs.Tryz
theorem GausM.slG {B : Nat} {W : World} {ys : List Gau} (h : GausM B W ys) : SlG W ys := fun z hz => by
  obtain ⟨h1, h2, h3⟩ := h z hz
  refine ⟨?_, h3.cap_le, h2⟩
  rw [h1]; exact h3.sl (fun _ => rfl)
theorem bare_atG {ys zs : List Gau} (h : ys.map Gau.bare = zs.map Gau.bare) {i : Nat} (hi : i < ys.length) : (nth ys i).st = (nth zs i).st ∧ (nth ys i).hr = (nth zs i).hr ∧ (nth ys i).s = (nth zs i).s := by
  have hl : ys.length = zs.length := by have h9 := congrArg List.length h; rwa [List.length_map, List.length_map] at h9
  have h1 := nth_bareG ys i hi
  have h2 := nth_bareG zs i (by omega)
  rw [h] at h1
  have e : (nth ys i).bare = (nth zs i).bare := h1.symm.trans h2
  unfold Gau.bare at e
  injection e with a1 a2 a3
  exact ⟨a1, a2, a3⟩
theorem aftO_bare (p : Option Gau) (y : Gau) : aftO (p.map Gau.bare) y.bare ↔ aftO p y := by cases p <;> exact Iff.rfl
theorem chkGa_bare : ∀ {ys zs : List Gau} {p q : Option Gau}, p.map Gau.bare = q.map Gau.bare → ys.map Gau.bare = zs.map Gau.bare → chkGa p ys = chkGa q zs
  | [], [], _, _, _, _ => rfl
  | [], _ :: _, _, _, _, h => by cases h
  | _ :: _, [], _, _, _, h => by cases h
  | y :: ys, z :: zs, p, q, hp, h => by
    have h := List.cons.inj (show y.bare :: ys.map Gau.bare = z.bare :: zs.map Gau.bare from h)
    have e : okGau y = okGau z := by rw [← okGau_bare y, h.1, okGau_bare]
    have ea : aftO p y ↔ aftO q z := (aftO_bare p y).symm.trans (by rw [hp, h.1]; exact aftO_bare q z)
    show (if okGau y = true then (if aftO p y then chkGa (some y) ys else 6) else 2) = (if okGau z = true then (if aftO q z then chkGa (some z) zs else 6) else 2)
    rw [e]
    by_cases hx : aftO p y
    · rw [if_pos hx, if_pos (ea.1 hx), chkGa_bare (p := some y) (q := some z) (congrArg some h.1) h.2]
    · rw [if_neg hx, if_neg (fun k => hx (ea.2 k))]
theorem flatG_bare : ∀ {ys zs : List Gau}, ys.map Gau.bare = zs.map Gau.bare → ys.flatMap gauP = zs.flatMap gauP
  | [], [], _ => rfl
  | [], _ :: _, h => by cases h
  | _ :: _, [], h => by cases h
  | y :: ys, z :: zs, h => by
    have h := List.cons.inj (show y.bare :: ys.map Gau.bare = z.bare :: zs.map Gau.bare from h)
    rw [List.flatMap_cons, List.flatMap_cons, flatG_bare h.2, ← gauP_bare y, h.1, gauP_bare]
theorem textG_bare {ys zs : List Gau} (h : ys.map Gau.bare = zs.map Gau.bare) : textG ys = textG zs := by
  have hl : ys.length = zs.length := by have h9 := congrArg List.length h; rwa [List.length_map, List.length_map] at h9
  unfold textG
  rw [hl, chkGa_bare (p := none) (q := none) rfl h, flatG_bare h]
theorem goG_len (L : List UInt8 → Gau × Int) : ∀ (ls : List (List UInt8)) (acc : List Gau), (goG L acc ls).1.length ≤ acc.length + ls.length
  | [], acc => Nat.le_refl _
  | s :: r, acc => by
    unfold goG
    split
    · exact Nat.zero_le _
    · split
      · exact Nat.zero_le _
      · have := goG_len L r (acc ++ [(L s).1])
        rw [List.length_append, List.length_singleton] at this
        rw [List.length_cons]; omega
theorem readG_len (L : List UInt8 → Gau × Int) (s : List UInt8) : (readG L s).1.length ≤ 200 := by
  unfold readG
  split
  · exact Nat.zero_le _
  · rename_i h
    have h9 := linesR_ok (Decidable.not_not.1 h)
    have := goG_len L (linesR s).1 []
    rw [h9.1] at this ⊢
    have h0 : ([] : List Gau).length = 0 := rfl
    omega
set_option maxHeartbeats 4000000 in
theorem gcopy_c (l : List Gau) (al : Option Addr) (bl ol cl : Nat) (w0 : World) (hl : Sl encGau 3 w0 al bl ol l) (hll : l.length ≤ 1000000) (hss : SlG w0 l) (hpos : 0 < w0.heap.size) :
    CallsV Tryz.prog 43 [.slice al l.length cl] w0 (fun v w' => (∃ ys a9 g9 c9, v = .slice a9 (List.length ys) c9 ∧ ys.map Gau.bare = l.map Gau.bare ∧ Acc encGau 3 80 w0.heap.size w' a9 g9 c9 ys ∧ GausM w0.heap.size w' ys) ∧ Ext w0 w') := by
 refine f_n func43 ?_
 refine go ?_
 refine x_l fun bk3 w4 ebk3 sbk3 B5 u6 => ?_
 refine go ?_
 refine x_l2 (fun i => i = bk3 ∨ w4.heap.size ≤ i) [0] (fun (ys : List Gau) (q : (Option Addr × Nat × Nat)) => [(3, .slice q.1 ys.length q.2.2), (4, .int .i64 (ys.length : Int))]) (fun ys q w => (ys.length ≤ l.length) ∧ (Acc encGau 3 80 w0.heap.size w q.1 q.2.1 q.2.2 ys) ∧ (q.2.1 = bk3 ∨ w4.heap.size ≤ q.2.1) ∧ (GausM w0.heap.size w ys) ∧ (ys.map Gau.bare = (l.take ys.length).map Gau.bare)) (fun ys q => l.length - ys.length) ([]) (some ⟨bk3, 0, none⟩, bk3, 0) ⟨(Nat.zero_le _), (Acc.ofBlk (base := w0.heap.size) (xs := ([] : List Gau)) encGau 3 (fun _ => rfl) B5 (by omega) (by decide)), (.inl rfl), (GausM.nil _ _), rfl⟩ ?_
 rintro ys q w11 ⟨hyl, hA, hqW, hM, hcy⟩ u12 zu12 K10 hK10
 have E13 := Sc.mk (((Upd.refl (fun _ => False) w0).nx u6).next u12 (fun i hi h => by omega))
 have lt_q_2_1 := hA.lt
 have hMne := hM.ne hA
 refine go ?_
 refine q_p (fun g10 => ?_) fun g10 => ?_
 ·
  obtain ⟨hsx9, _, hxs9⟩ := hss _ (nth_mem (xs := l) (i := ys.length) (by omega))
  refine go ?_
  refine g_i ys.length (hl.keep E13.u (fun _ h => h)) (fun _ => ?_)
  refine go ?_
  refine x_n fun bk19 w20 ebk19 sbk19 B21 u22 => ?_
  refine x_s fun w24 sw24 B26 u25 => ?_
  refine go ?_
  refine x_c func77 rfl rfl (ints_c (nth l ys.length).s (nth l ys.length).ao (nth l ys.length).g (nth l ys.length).ob (nth l ys.length).cp _ (hsx9.keep ((E13.u.nx u22).next u25 (fun i hi h => by omega)) (fun _ h => h)) hxs9 (by omega)) ?_
  rintro _ w30 ⟨⟨ai, gi9, ci, rfl, haci⟩, u31⟩ zu31
  have D34 := (((hA.keep u22 (fun _ h => h)).keep u25 (fun hb => show ¬ (q.2.1 = bk19) by first | omega | assumption)).keep u31 (fun _ h => h))
  obtain ⟨gi, hac, hgiw⟩ := Acc.lowH (base' := w0.heap.size) haci (by omega) hpos
  have hgi : gi < w30.heap.size := hac.lt
  have hgq : w0.heap.size ≤ gi → gi ≠ q.2.1 := fun hb => (GausM.snoc (GausM.nil w0.heap.size _) (y := (⟨(nth l ys.length).st, (nth l ys.length).hr, (nth l ys.length).s, ai, gi, 0, ci⟩ : Gau)) rfl hxs9 hac).ne D34 (⟨(nth l ys.length).st, (nth l ys.length).hr, (nth l ys.length).s, ai, gi, 0, ci⟩ : Gau) (by simp) hb
  have lt_gi := hac.lt
  refine go ?_
  refine x_s fun w35 sw35 B37 u36 => ?_
  refine go ?_
  refine x_l fun bk39 w40 ebk39 sbk39 B41 u42 => ?_
  have D44 := ((D34.keep u36 (fun hb => show ¬ (q.2.1 = bk19) by first | omega | assumption)).keep u42 (fun _ h => h))
  refine t_append (z := .agg #[.int .i64 0, .int .i64 0, .slice none 0 0]) (bytes := 40) (k := 3) (base := w0.heap.size) (⟨(nth l ys.length).st, (nth l ys.length).hr, (nth l ys.length).s, ai, gi, 0, ci⟩ : Gau) underlying78 (by kernel_rfl) rfl (by decide) (fun _ => rfl) (by intro x; simp [encGau, Value.oneCell']) rfl rfl rfl rfl D44 B41 (by omega) (by omega) (by decide) (fun ao45 gb46 cp47 w48 A49 u50 gegb46 lngb46 => ?_)
  have zu50 := u50.size
  have lt_gb46 := A49.lt
  refine go ?_
  have D52 := (GausM.keep (GausM.keep (GausM.keep (GausM.keep (GausM.keep (GausM.keep hM u22 (fun _ _ _ h => h)) u25 (fun z hz hb => by have h9 := hMne z hz hb; have h8 := (hM z hz).2.2.lt; show ¬ (z.g = bk19); omega)) u31 (fun _ _ _ h => h)) u36 (fun z hz hb => by have h9 := hMne z hz hb; have h8 := (hM z hz).2.2.lt; show ¬ (z.g = bk19); omega)) u42 (fun _ _ _ h => h)) u50 (fun z hz hb => by have h9 := hMne z hz hb; have h8 := (hM z hz).2.2.lt; show ¬ ((z.g = q.2.1 ∧ w0.heap.size ≤ z.g)); omega))
  have D53 := (((hac.keep u36 (fun hb => show ¬ (gi = bk19) by first | omega | assumption)).keep u42 (fun _ h => h)).keep u50 (fun hb => show ¬ ((gi = q.2.1 ∧ w0.heap.size ≤ gi)) by first | omega | assumption))
  exact hK10 (ys ++ [(⟨(nth l ys.length).st, (nth l ys.length).hr, (nth l ys.length).s, ai, gi, 0, ci⟩ : Gau)]) (ao45, gb46, cp47) ⟨(by rw [List.length_append, List.length_singleton]; omega), A49, (show gb46 = bk3 ∨ w4.heap.size ≤ gb46 by omega), (GausM.snoc D52 rfl hxs9 D53), (by rw [List.length_append, List.map_append, hcy]; show _ = (l.take (ys.length + 1)).map Gau.bare; rw [take_nth (show ys.length < l.length by omega), List.map_append]; rfl)⟩ (hm := (by show l.length - (ys ++ [_]).length < l.length - ys.length; rw [List.length_append, List.length_singleton]; omega)) (hs := by exact ⟨rfl, (congrArg (fun z => some (Value.int .i64 z)) (by rw [List.length_append, List.length_singleton, Int.natCast_add]; rfl)), rfl, trivial⟩)
 rw [List.take_of_length_le (show l.length ≤ ys.length by omega)] at hcy
 refine go ?_
 refine f_1 results43 ?_
 exact ⟨⟨ys, _, _, _, rfl, hcy, hA, hM⟩, u_d⟩

theorem sameGa_c (ys zs : List Gau) (ay : Option Addr) (by_ oy cy : Nat) (az : Option Addr) (bz oz cz : Nat) (w0 : World) (hy : Sl encGau 3 w0 ay by_ oy ys) (hz : Sl encGau 3 w0 az bz oz zs) (hb : ys.map Gau.bare = zs.map Gau.bare) (hsy : SlG w0 ys) (hsz : SlG w0 zs) (hyn : ys.length ≤ 1000000) :
    CallsV Tryz.prog 48 [.slice ay ys.length cy, .slice az zs.length cz] w0 (fun v w' => v = .bool true ∧ Ext w0 w') := by
 have hyz : ys.length = zs.length := by have h9 := congrArg List.length hb; rwa [List.length_map, List.length_map] at h9
 refine f_n func48 ?_
 refine go ?_
 refine q_p (fun g10 => ?_) fun g10 => ?_
 ·
  omega
 refine go ?_
 refine x_l1 (fun _ => False) [0, 1] (fun (i : Nat) => [(5, .int .i64 (i : Int))]) (fun i w => (i ≤ ys.length)) (fun i => ys.length - i) 0 (Nat.zero_le _) ?_
 rintro i w7 hi u8 zu8 K6 hK6
 refine go ?_
 refine q_p (fun g14 => ?_) fun g14 => ?_
 ·
  obtain ⟨hn9, hr9, hs9⟩ := bare_atG hb (show i < ys.length by omega)
  have hbly := hy.lt (show 0 < ys.length by omega)
  have hblz := hz.lt (show 0 < zs.length by omega)
  refine go ?_
  refine c_drawnM follows (fun _ => False) (OTl [0, 2, 4, 6, 8, 10, 12, 14, 16, 18, 20, 22, 24, 26, 28, 30, 32, 34, 36, 38, 40, 42, 44, 46, 48, 50, 52, 54, 56, 58, 60, 62, 64, 66, 68, 71, 72, 74]) (by kernel_rfl) fun w14 u15 => ?_
  have zu15 := u15.size
  have E16 := Sc.mk (((Upd.refl (fun _ => False) w0).nx u8).nx u15)
  refine go ?_
  refine y_i i (hy.keep E16.u (fun _ h => h)) (fun _ => ?_)
  refine go ?_
  refine y_i i (hz.keep E16.u (fun _ h => h)) (fun _ => ?_)
  iterate 3 refine st1 ?_
  refine y_same 27 (v := .bool false) rfl (congrArg Value.bool (decide_eq_false (fun h => h hn9))) ?_
  refine go ?_
  refine y_i i (hy.keep E16.u (fun _ h => h)) (fun _ => ?_)
  refine go ?_
  refine y_i i (hz.keep E16.u (fun _ h => h)) (fun _ => ?_)
  iterate 3 refine st1 ?_
  refine y_same 39 (v := .bool false) rfl (congrArg Value.bool (decide_eq_false (fun h => h hr9))) ?_
  refine go ?_
  refine y_i i (hy.keep E16.u (fun _ h => h)) (fun _ => ?_)
  refine go ?_
  refine y_i i (hz.keep E16.u (fun _ h => h)) (fun _ => ?_)
  refine go ?_
  refine x_c func33 rfl rfl (eqI_d (nth ys i).s (nth zs i).s hs9 _ _ _ _ _ _ _ _ _ ((hsy _ (nth_mem (xs := ys) (i := i) (by omega))).1.keep E16.u (fun _ h => h)) ((hsz _ (nth_mem (xs := zs) (i := i) (by omega))).1.keep E16.u (fun _ h => h)) (hsy _ (nth_mem (xs := ys) (i := i) (by omega))).2.2) ?_
  rintro _ w24 ⟨rfl, u25⟩ zu25
  refine go ?_
  exact hK6 (i + 1) (by omega)
 refine go ?_
 refine f_1 results48 ?_
 exact ⟨rfl, u_d⟩

end Go.Proofs.YtjdcpnaocjddoaaGreatDoor
namespace Go.Proofs.YtjdcpnaocjddoaaGreatDoor
open Go Go.RowKit Go.Proofs.Tryz
set_option maxHeartbeats 4000000 in
set_option maxRecDepth 20000 in
theorem LogsGauges_c (l : List Gau) (al : Option Addr) (bl ol cl : Nat) (s : List UInt8) (w0 : World) (hl : Sl encGau 3 w0 al bl ol l) (hss : ∀ x ∈ l, Sl encI 1 w0 x.ao x.g x.ob x.s ∧ x.s.length ≤ x.cp ∧ x.s.length ≤ 9223372036854775807) (hll : l.length ≤ 9223372036854775807) (hsl0 : s.length ≤ 9223372036854775807) (hE : ErrV w0) (hT : Tab10 w0) (hpos : 0 < w0.heap.size) :
    CallsV Tryz.prog 10 [.slice al l.length cl, .string (strB s)] w0 (fun v w' => v = .bool true ∧ Ext w0 w') := by
 refine f_n func10 ?_
 iterate 6 refine st1 ?_
 refine x_k1 (fun _ => False) [0, 1] (fun (z9 : Bool) => [(44, .bool z9)]) (fun z9 w => (z9 = decide ((30 < l.length ∧ l.length ≤ 200) ∨ 210 < l.length ∨ (3000 < s.length ∧ s.length ≤ 120000) ∨ 120100 < s.length))) (fun K7 hK7 => ?_) ?_
 ·
  refine go ?_
  refine t_splitp 20 rfl (fun g20 => ?_) (fun g20 => ?_)
  ·
   refine go ?_
   refine t_splitp 25 rfl (fun g25 => ?_) (fun g25 => ?_)
   ·
    refine go ?_
    exact hK7 true (by first | exact (decide_eq_false (by omega)).symm | exact (decide_eq_true (by omega)).symm | exact decide_eq_decide.2 (by omega))
   refine go ?_
   refine t_splitp 30 rfl (fun g30 => ?_) (fun g30 => ?_)
   ·
    refine go ?_
    exact hK7 true (by first | exact (decide_eq_false (by omega)).symm | exact (decide_eq_true (by omega)).symm | exact decide_eq_decide.2 (by omega))
   refine go ?_
   refine t_lenS underlying9 rfl rfl rfl rfl ?_
   refine go ?_
   refine t_splitp 34 rfl (fun g34 => ?_) (fun g34 => ?_)
   ·
    refine go ?_
    refine t_lenS underlying9 rfl rfl rfl rfl ?_
    refine go ?_
    refine t_splitp 40 rfl (fun g40 => ?_) (fun g40 => ?_)
    ·
     refine go ?_
     exact hK7 true (by first | exact (decide_eq_false (by omega)).symm | exact (decide_eq_true (by omega)).symm | exact decide_eq_decide.2 (by omega))
    refine go ?_
    refine t_lenS underlying9 rfl rfl rfl rfl ?_
    refine go ?_
    exact hK7 (decide (120100 < (s.length : Int))) (by first | exact (decide_eq_false (by omega)).symm | exact (decide_eq_true (by omega)).symm | exact decide_eq_decide.2 (by omega))
   refine go ?_
   refine t_lenS underlying9 rfl rfl rfl rfl ?_
   refine go ?_
   exact hK7 (decide (120100 < (s.length : Int))) (by first | exact (decide_eq_false (by omega)).symm | exact (decide_eq_true (by omega)).symm | exact decide_eq_decide.2 (by omega))
  refine go ?_
  refine t_splitp 30 rfl (fun g30 => ?_) (fun g30 => ?_)
  ·
   refine go ?_
   exact hK7 true (by first | exact (decide_eq_false (by omega)).symm | exact (decide_eq_true (by omega)).symm | exact decide_eq_decide.2 (by omega))
  refine go ?_
  refine t_lenS underlying9 rfl rfl rfl rfl ?_
  refine go ?_
  refine t_splitp 34 rfl (fun g34 => ?_) (fun g34 => ?_)
  ·
   refine go ?_
   refine t_lenS underlying9 rfl rfl rfl rfl ?_
   refine go ?_
   refine t_splitp 40 rfl (fun g40 => ?_) (fun g40 => ?_)
   ·
    refine go ?_
    exact hK7 true (by first | exact (decide_eq_false (by omega)).symm | exact (decide_eq_true (by omega)).symm | exact decide_eq_decide.2 (by omega))
   refine go ?_
   refine t_lenS underlying9 rfl rfl rfl rfl ?_
   refine go ?_
   exact hK7 (decide (120100 < (s.length : Int))) (by first | exact (decide_eq_false (by omega)).symm | exact (decide_eq_true (by omega)).symm | exact decide_eq_decide.2 (by omega))
  refine go ?_
  refine t_lenS underlying9 rfl rfl rfl rfl ?_
  refine go ?_
  exact hK7 (decide (120100 < (s.length : Int))) (by first | exact (decide_eq_false (by omega)).symm | exact (decide_eq_true (by omega)).symm | exact decide_eq_decide.2 (by omega))
 rintro z9 w8 hz9 u9 zu9
 have E10 := Sc.mk ((Upd.refl (fun _ => False) w0).nx u9)
 refine q_b (fun g44 => ?_) fun g44 => ?_
 ·
  have hzb : ((30 < l.length ∧ l.length ≤ 200) ∨ 210 < l.length ∨ (3000 < s.length ∧ s.length ≤ 120000) ∨ 120100 < s.length) := by rw [hz9] at g44; exact of_decide_eq_true g44
  refine go ?_
  refine x_c func13 rfl rfl (known_c _ (hT.ext E10.u) (by omega)) ?_
  rintro _ w13 ⟨rfl, u14⟩ zu14
  refine go ?_
  refine f_1 results10 ?_
  exact ⟨rfl, u_d⟩
 have hzb : ¬ ((30 < l.length ∧ l.length ≤ 200) ∨ 210 < l.length ∨ (3000 < s.length ∧ s.length ≤ 120000) ∨ 120100 < s.length) := by rw [hz9] at g44; exact of_decide_eq_false g44
 refine go ?_
 refine x_l1 (fun _ => False) [0, 1] (fun (i : Nat) => [(5, .int .i64 (i : Int))]) (fun i w => (i ≤ l.length) ∧ (∀ j, j < i → (nth l j).s.length ≤ 40)) (fun i => l.length - i) 0 ⟨(Nat.zero_le _), (fun j h => absurd h (Nat.not_lt_zero _))⟩ ?_
 rintro i w20 ⟨hi, h20⟩ u21 zu21 K19 hK19
 have E22 := Sc.mk (E10.u.nx u21)
 refine go ?_
 refine q_p (fun g49 => ?_) fun g49 => ?_
 ·
  have hss9 := (hss _ (nth_mem (xs := l) (i := i) (by omega))).2.2
  refine go ?_
  refine g_i i (hl.keep E22.u (fun _ h => h)) (fun _ => ?_)
  refine go ?_
  refine q_p (fun g58 => ?_) fun g58 => ?_
  ·
   refine go ?_
   refine x_c func13 rfl rfl (known_c _ (hT.ext E22.u) (by omega)) ?_
   rintro _ w30 ⟨rfl, u31⟩ zu31
   refine go ?_
   refine f_1 results10 ?_
   exact ⟨rfl, u_d⟩
  refine go ?_
  exact hK19 (i + 1) ⟨(by omega), (fun j hj => by
    rcases Nat.lt_or_ge j i with h | h
    · exact h20 j h
    · rw [show j = i by omega]; omega)⟩
 have hSB : SlG w0 l := fun z hz => ⟨(hss z hz).1, (hss z hz).2.1, by
   obtain ⟨j, hj, rfl⟩ := List.mem_iff_getElem.1 hz
   have h9 := h20 j (by omega)
   rw [nth_eq hj] at h9; omega⟩
 refine go ?_
 refine x_c func43 rfl rfl (gcopy_c l al bl ol cl _ (hl.keep E22.u (fun _ h => h)) (by omega) (hSB.ext E22.u) (by omega)) ?_
 rintro _ w36 ⟨⟨ys, a1, g1, c1, rfl, hb1, hA1, hM1⟩, u37⟩ zu37
 have E39 := Sc.mk (E22.u.nx u37)
 have lt_g1 := hA1.lt
 have hsB1 := hM1.slG
 have hyl1 : ys.length = l.length := by have h9 := congrArg List.length hb1; rwa [List.length_map, List.length_map] at h9
 have htx := textG_bare hb1
 refine go ?_
 refine x_c func44 rfl rfl (WriteGauge_c ys a1 g1 0 c1 _ (hA1.sl (fun _ => rfl)) (hsB1.ext (Upd.refl (fun _ => False) _)) (by omega) (hT.ext E39.u) (by omega)) ?_
 rintro _ w42 ⟨rfl, u43⟩ zu43
 have E45 := Sc.mk (E39.u.nx u43)
 refine go ?_
 refine x_c func45 rfl rfl (ReadGauge_c s _ (by omega) (hE.ext E45.u) (hT.ext E45.u) (by omega)) ?_
 rintro _ w48 ⟨⟨ms, a2, g2, c2, rfl, hb2, hA2, hM2⟩, u49⟩ zu49
 have E51 := Sc.mk (E45.u.nx u49)
 have lt_g2 := hA2.lt
 have hsB2 := hM2.slG
 refine go ?_
 refine x_c func46 rfl rfl (rWriteG_c l al bl ol cl _ (hl.keep E51.u (fun _ h => h)) (hSB.ext E51.u) (by omega)) ?_
 rintro _ w54 ⟨rfl, u55⟩ zu55
 refine go ?_
 refine x_c func47 rfl rfl (rReadG_c s _ (by omega) (by omega)) ?_
 rintro _ w60 ⟨⟨ns, a3, g3, c3, rfl, hb3, hA3, hM3⟩, u61⟩ zu61
 have E63 := Sc.mk ((E51.u.nx u55).nx u61)
 have lt_g3 := hA3.lt
 have hsB3 := hM3.slG
 have hbb : ms.map Gau.bare = ns.map Gau.bare := by rw [hb2, hb3, readG_same]
 refine go ?_
 have D65 := ((((hA1.keep u43 (fun _ h => h)).keep u49 (fun _ h => h)).keep u55 (fun _ h => h)).keep u61 (fun _ h => h))
 refine x_c func48 rfl rfl (sameGa_c ys l a1 g1 0 c1 al bl ol cl _ (D65.sl (fun _ => rfl)) (hl.keep E63.u (fun _ h => h)) hb1 (hsB1.ext (((((Upd.refl (fun _ => False) _).nx u43).nx u49).nx u55).nx u61)) (hSB.ext E63.u) (by omega)) ?_
 rintro _ w67 ⟨rfl, u68⟩ zu68
 iterate 4 refine st1 ?_
 refine t_same 90 (v := .bool true) rfl (congrArg Value.bool (decide_eq_true (by rw [htx]))) ?_
 refine go ?_
 refine t_bo (Bo.eqS ((textG ys).1) ((textG l).1)) rfl rfl rfl rfl (t_same 95 (v := .bool true) rfl (congrArg Value.bool (decide_eq_true (by rw [htx]))) ?_)
 iterate 5 refine st1 ?_
 refine t_same 100 (v := .bool true) rfl (congrArg Value.bool (decide_eq_true (by rw [readG_same]))) ?_
 iterate 5 refine st1 ?_
 refine t_same 105 (v := .bool true) rfl (congrArg Value.bool (decide_eq_true (by rw [readG_same]))) ?_
 refine go ?_
 have D71 := (((hA2.keep u55 (fun _ h => h)).keep u61 (fun _ h => h)).keep u68 (fun _ h => h))
 have D72 := (hA3.keep u68 (fun _ h => h))
 refine x_c func48 rfl rfl (sameGa_c ms ns a2 g2 0 c2 a3 g3 0 c3 _ (D71.sl (fun _ => rfl)) (D72.sl (fun _ => rfl)) hbb (hsB2.ext ((((Upd.refl (fun _ => False) _).nx u55).nx u61).nx u68)) (hsB3.ext ((Upd.refl (fun _ => False) _).nx u68)) (by have h9 := readG_len LGa s; have h8 := congrArg List.length hb2; rw [List.length_map] at h8; omega)) ?_
 rintro _ w74 ⟨rfl, u75⟩ zu75
 refine go ?_
 refine x_c func13 rfl rfl (known_c _ (hT.ext ((E63.u.nx u68).nx u75)) (by omega)) ?_
 rintro _ w79 ⟨rfl, u80⟩ zu80
 refine go ?_
 refine f_1 results10 ?_
 exact ⟨rfl, u_d⟩

end Go.Proofs.YtjdcpnaocjddoaaGreatDoor
namespace Go.Proofs.YtjdcpnaocjddoaaGreatDoor
open Go Go.RowKit Go.Proofs.Tryz
end Go.Proofs.YtjdcpnaocjddoaaGreatDoor
namespace Go.Proofs.YtjdcpnaocjddoaaGreatDoor
open Go Go.RowKit
/-! ### the witness: a world in which the listed variables hold what is told of them -/
def litC : DataW Unit → Value
  | .lit (.int k n) => .int k n
  | _ => .int .i64 0
def aggC : DataW Unit → List Value
  | .agg l => l.map litC
  | _ => []
def aggD : DataW Unit → List Value
  | .agg l => l.flatMap aggC
  | _ => []
def strC : DataW Unit → Value
  | .iface _ (.ptr (.agg [.lit (.string s)])) => .string ⟨s.toArray⟩
  | _ => .int .i64 0
def setC (cs : List Value) : Obj → Obj
  | .cells _ t f => .cells cs.toArray t f
  | o => o
noncomputable def laidWorld (os : Os) : World :=
  { World.holding Tryz.prog os ⟨#[], #[], []⟩ with heap := (((((((((World.holding Tryz.prog os ⟨#[], #[], []⟩).heap.modify 6 (setC (aggC Rows.laid_math_bits_deBruijn32tab))).modify 7 (setC (aggC Rows.laid_math_bits_deBruijn64tab))).modify 5 (setC (aggC Rows.laid_internal_strconv_uint64pow10))).modify 4 (setC (aggD Rows.laid_unicode_utf8_acceptRanges))).modify 3 (setC (aggC Rows.laid_unicode_utf8_first))).modify 2 (setC [.iface 261 (.pointer (some ⟨13, 0, none⟩))])).modify 1 (setC [.iface 261 (.pointer (some ⟨14, 0, none⟩))])).push (.cells #[strC Rows.laid_strconv_ErrRange] 263 (0, 0))).push (.cells #[strC Rows.laid_strconv_ErrSyntax] 263 (0, 0)) }
theorem laid_met (os : Os) (args : Array Value) : laidMet Tryz.prog Rows.logsCodesRow.laid ((laidWorld os).forCall (fun _ _ => 0) ⟨#[], args, []⟩).memory :=
  laidMet_of_run' 8 (by kernel_rfl) (by kernel_rfl)
theorem glob5 : Tryz.prog.globalNamed "internal/strconv.uint64pow10" = some 5 := by kernel_rfl
theorem glob5t : (Tryz.prog.globals[5]?).map (·.type) = some 266 := by kernel_rfl
theorem tab_of_laid {W : World} (h : laidMet Tryz.prog Rows.logsCodesRow.laid W) : Tab10 W := by
  have e : (Rows.laid_internal_strconv_uint64pow10 : DataW Unit) = Lib.tabData .u64 Lib.pow10Tab := by kernel_rfl
  obtain ⟨ps, ⟨_, _, _, _, _, _, _, _, _, _, ⟨_, _, _, _, _, _, _, _, _, _, ⟨g', t', cs, fuel, p, q, hg', ht', hvar, hd, _, _⟩, _⟩, _⟩, _⟩ := h
  obtain rfl := Option.some.inj (glob5.symm.trans hg')
  obtain rfl := Option.some.inj (glob5t.symm.trans ht')
  unfold Tab10 Lib.TabIs
  rw [hvar, ← Lib.cells_of_tab (t := 266) (e := 214) (n := 20) (k := .u64) (zs := Lib.pow10Tab) Tryz.underlying266 Tryz.underlying214 (by kernel_rfl) (by kernel_rfl) (by rw [← e]; exact hd)]
theorem tab_pos {w : World} (h : Tab10 w) : 0 < w.heap.size := by
  unfold Tab10 Lib.TabIs World.var? at h
  rw [glob5] at h
  simp only [Option.bind_some] at h
  rcases Nat.lt_or_ge 5 w.heap.size with q | q
  · omega
  · rw [Array.getElem?_eq_none q] at h; cases h

end Go.Proofs.YtjdcpnaocjddoaaGreatDoor
namespace Go.Proofs.YtjdcpnaocjddoaaGreatDoor
open Go Go.RowKit
theorem iface_of {W : World} {t : TypeId} {ms : Array (String × TypeId)} (ht : Tryz.prog.underlying t = some (.interface ms)) {sp : Nat → Bool} {n : Nat} {cs : List Value} {d : DataW Unit} {p : List MemPlace} (h : DataW.trod (fun _ => ()) Tryz.prog W 0 sp false n t cs = some (d, p)) : ∃ E, cs = [E] ∧ (E = .nilIface ∨ ∃ te pe, E = .iface te pe) := by
  cases n with
  | zero => simp [DataW.trod] at h
  | succ n =>
    cases cs with
    | nil => simp [DataW.trod, ht] at h
    | cons E r =>
      cases r with
      | nil =>
        refine ⟨E, rfl, ?_⟩
        cases E with
        | nilIface => exact .inl rfl
        | iface u v => exact .inr ⟨u, v, rfl⟩
        | _ => simp [DataW.trod, ht] at h
      | cons E2 r => simp [DataW.trod, ht] at h
theorem var_cell {W : World} {n : String} {g : Nat} {cs : Array Value} {E : Value} (hg : Tryz.prog.globalNamed n = some g) (hv : W.var? Tryz.prog n = some cs) (he : cs.toList = [E]) : W.cell? ⟨g, 0, none⟩ = some E := by
  unfold World.var? at hv
  rw [hg] at hv
  have hv : (match W.heap[g]? with | some (.cells cs _ _) => some cs | _ => none) = some cs := hv
  cases hh : W.heap[g]? with
  | none => rw [hh] at hv; cases hv
  | some o =>
    rw [hh] at hv
    cases o with
    | cells c t f =>
      injection hv with hv
      subst hv
      have h0 : c[0]? = some E := by rw [← Array.getElem?_toList, he]; rfl
      simp [World.cell?, hh, h0]
    | _ => cases hv
theorem globS : Tryz.prog.globalNamed "strconv.ErrSyntax" = some (layAtoi_ren.g 15) := by kernel_rfl
theorem globR : Tryz.prog.globalNamed "strconv.ErrRange" = some (layAtoi_ren.g 16) := by kernel_rfl
theorem globSt : (Tryz.prog.globals[layAtoi_ren.g 15]?).map (·.type) = some 192 := by kernel_rfl
theorem globRt : (Tryz.prog.globals[layAtoi_ren.g 16]?).map (·.type) = some 192 := by kernel_rfl
theorem err_of_laid {W : World} (h : laidMet Tryz.prog Rows.logsCodesRow.laid W) : ErrV W := by
  obtain ⟨ps, ⟨_, _, _, _, _, _, _, _, _, _, ⟨_, _, _, _, _, _, _, _, _, _, ⟨_, _, _, _, _, _, _, _, _, _, ⟨_, _, _, _, _, _, _, _, _, _, ⟨g', t', cs, fuel, p, q, hg', ht', hvar, hd, ⟨g2, t2, cs2, fuel2, p2, q2, hg2, ht2, hvar2, hd2, _, _⟩, _⟩, _⟩, _⟩, _⟩, _⟩, _⟩ := h
  obtain rfl := Option.some.inj (globR.symm.trans hg')
  obtain rfl := Option.some.inj (globRt.symm.trans ht')
  obtain rfl := Option.some.inj (globS.symm.trans hg2)
  obtain rfl := Option.some.inj (globSt.symm.trans ht2)
  obtain ⟨E1, e1, f1⟩ := iface_of Tryz.underlying192 hd
  obtain ⟨E2, e2, f2⟩ := iface_of Tryz.underlying192 hd2
  exact ⟨E2, E1, var_cell globS hvar2 e2, f2, var_cell globR hvar e1, f1⟩

end Go.Proofs.YtjdcpnaocjddoaaGreatDoor
namespace Go.Proofs.YtjdcpnaocjddoaaGreatDoor
open Go Go.RowKit

end Go.Proofs.YtjdcpnaocjddoaaGreatDoor
