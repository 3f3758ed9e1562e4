/-
  Part 18 of the proof: contracts and plain laws. Conditions: none.
-/
import Derived.Test.YtjdcpnaocjddoaaGreatDoorRows
import Derived.Handed
import Derived.LaidLaws
import Derived.Lib.LaidTab
import Derived.Test.YtjdcpnaocjddoaaGreatDoorGK17
namespace Go.Proofs.YtjdcpnaocjddoaaGreatDoor
open Go Go.RowKit Go.Proofs.Tryz
abbrev LR : List UInt8 → Bil × Int := lineB parR
theorem linesR_err {s : List UInt8} (h : (linesR s).2 ≠ 0) : linesR s = ([], (linesR s).2) := by
  unfold linesR at h ⊢
  split
  · rfl
  · split
    · rfl
    · split
      · rfl
      · rename_i h1 h2 h3
        rw [if_neg h1, if_neg h2, if_neg h3] at h
        exact absurd rfl h
theorem linesR_ok {s : List UInt8} (h : (linesR s).2 = 0) : (linesR s).1 = linesP s ∧ (linesP s).length ≤ 200 ∧ s.length ≤ 120000 := by
  unfold linesR at h ⊢
  split at h
  · cases h
  · split at h
    · cases h
    · split at h
      · cases h
      · rename_i h1 h2 h3
        rw [if_neg h1, if_neg h2, if_neg h3]
        exact ⟨rfl, by omega, by omega⟩
theorem lines_len {s : List UInt8} {k : Nat} (hk : k < (linesP s).length) : (nth (linesP s) k).length ≤ s.length := pcs_items 10 s _ (List.dropLast_subset _ (nth_mem hk))
theorem gr_bad {L : List UInt8 → Bil × Int} {ls : List (List UInt8)} {ys : List Bil} (h : goB L [] ls = goB L (ys.map Bil.bare) (ls.drop ys.length)) (hk : ys.length < ls.length) (he : (L (nth ls ys.length)).2 ≠ 0) : goB L [] ls = ([], (ys.length : Int), (L (nth ls ys.length)).2) := by
  rw [h, drop_nth hk, goB_bad he, List.length_map]
theorem gr_twice {L : List UInt8 → Bil × Int} {ls : List (List UInt8)} {ys : List Bil} {y : Bil} (h : goB L [] ls = goB L (ys.map Bil.bare) (ls.drop ys.length)) (hk : ys.length < ls.length) (he : (L (nth ls ys.length)).2 = 0) (hy : y.bare = (L (nth ls ys.length)).1) (h2 : 0 < ys.length ∧ ¬ (nth ys (ys.length - 1)).n < y.n) : goB L [] ls = ([], (ys.length : Int), 6) := by
  rw [h, drop_nth hk, goB_twice he (by rw [List.length_map, nth_bare _ _ (by omega), ← hy]; exact h2), List.length_map]
theorem gr_next {L : List UInt8 → Bil × Int} {ls : List (List UInt8)} {ys : List Bil} {y : Bil} (h : goB L [] ls = goB L (ys.map Bil.bare) (ls.drop ys.length)) (hk : ys.length < ls.length) (he : (L (nth ls ys.length)).2 = 0) (hy : y.bare = (L (nth ls ys.length)).1) (h2 : ¬ (0 < ys.length ∧ ¬ (nth ys (ys.length - 1)).n < y.n)) : goB L [] ls = goB L ((ys ++ [y]).map Bil.bare) (ls.drop (ys ++ [y]).length) := by
  rw [h, drop_nth hk, goB_next he (fun q => h2 (by
    rw [List.length_map] at q
    refine ⟨q.1, ?_⟩
    have := q.2
    rw [nth_bare _ _ (by omega), ← hy] at this
    exact this)), List.map_append, ← hy, List.length_append]; rfl
theorem gr_done {L : List UInt8 → Bil × Int} {ls : List (List UInt8)} {ys : List Bil} (h : goB L [] ls = goB L (ys.map Bil.bare) (ls.drop ys.length)) (hk : ¬ ys.length < ls.length) : goB L [] ls = (ys.map Bil.bare, 0, 0) := by
  rw [h, List.drop_of_length_le (by omega)]; rfl
theorem readB_ok {L : List UInt8 → Bil × Int} {s : List UInt8} (h : (linesR s).2 = 0) : readB L s = goB L [] (linesR s).1 := by unfold readB; rw [if_neg (fun e => e h)]
theorem digC_le : ∀ (k : Nat) (s : List UInt8), digC k s ≤ s.length
  | 0, _ => Nat.zero_le _
  | _ + 1, [] => Nat.le_refl _
  | k + 1, c :: r => by
    show (if isDg c then digC k r + 1 else 0) ≤ r.length + 1
    have := digC_le k r
    split <;> omega
theorem sealD_step {s : List UInt8} {k : Nat} (hk : k < s.length) : sealD (s.drop k) = (if 0 < digC 6 (s.drop k) then [digV 6 0 (s.drop k)] else []) ++ sealD (s.drop (k + digC 6 (s.drop k) + 1)) := by
  have hp : s.drop k ≠ [] := fun e => by
    have := congrArg List.length e
    rw [List.length_drop] at this
    simp at this; omega
  rw [sealD_cons hp, List.drop_drop, Nat.add_assoc]
theorem sealD_end {s : List UInt8} {k : Nat} (hk : ¬ k < s.length) : sealD (s.drop k) = [] := by
  rw [List.drop_of_length_le (by omega), sealD_nil]
set_option maxRecDepth 20000 in
set_option maxHeartbeats 4000000 in
theorem rReadB_c (s : List UInt8) (w0 : World) (hsl : s.length ≤ 1000000) (hpos : 0 < w0.heap.size) :
    CallsV Tryz.prog 41 [.string (strB s)] w0 (fun v w' => (∃ ys a9 g9 c9, v = .tuple #[.slice a9 (List.length ys) c9, .int .i64 (readB LR s).2.1, .int .i64 (readB LR s).2.2] ∧ ys.map Bil.bare = (readB LR s).1 ∧ Acc encBil 6 71 w0.heap.size w' a9 g9 c9 ys ∧ BilsM w0.heap.size w' ys) ∧ Ext w0 w') := by
 refine f_n func41 ?_
 refine go ?_
 refine x_c func83 rfl rfl (lines_c s _ hsl (by omega)) ?_
 rintro _ w4 ⟨⟨aL, gL, cL, rfl, haL⟩, u5⟩ zu5
 have lt_gL := haL.lt
 refine go ?_
 refine q_p (fun g23 => ?_) fun g23 => ?_
 ·
  refine go ?_
  refine f_ret3 (v1 := .slice none 0 0) (v2 := .int .i64 0) (v3 := .int .i64 ((linesR s).2)) results41 rfl rfl rfl ?_
  have hr9 : readB LR s = ([], 0, (linesR s).2) := readB_e (linesR_err g23) g23
  exact ⟨⟨[], none, 0, 0, by rw [hr9]; rfl, by rw [hr9]; rfl, Acc.nil _ _ _ _ _ hpos (by omega), BilsM.nil _ _⟩, u_d⟩
 obtain ⟨hln, hl200, hs12⟩ := linesR_ok (s := s) (by omega)
 have hll : (linesR s).1.length ≤ 200 := by rw [hln]; exact hl200
 refine go ?_
 refine x_l fun bk12 w13 ebk12 sbk12 B14 u15 => ?_
 refine go ?_
 refine x_l2 (fun i => i = bk12 ∨ w13.heap.size ≤ i) [5] (fun (ys : List Bil) (q : (Option Addr × Nat × Nat)) => [(2, .slice none 0 0), (3, .int .i64 0), (4, .int .i64 0), (7, .slice q.1 ys.length q.2.2), (8, .int .i64 (ys.length : Int))]) (fun ys q w => (ys.length ≤ (linesR s).1.length) ∧ (Acc encBil 6 71 w0.heap.size w q.1 q.2.1 q.2.2 ys) ∧ (q.2.1 = bk12 ∨ w13.heap.size ≤ q.2.1) ∧ (BilsM w0.heap.size w ys) ∧ (goB LR [] (linesR s).1 = goB LR (ys.map Bil.bare) ((linesR s).1.drop ys.length))) (fun ys q => (linesR s).1.length - ys.length) ([]) (some ⟨bk12, 0, none⟩, bk12, 0) ⟨(Nat.zero_le _), (Acc.ofBlk (base := w0.heap.size) (xs := ([] : List Bil)) encBil 6 (fun _ => rfl) B14 (by omega) (by decide)), (.inl rfl), (BilsM.nil _ _), rfl⟩ ?_
 rintro ys q w20 ⟨hyl, hA, hqW, hM, hgo⟩ u21 zu21 K19 hK19
 have lt_q_2_1 := hA.lt
 have hMne := hM.ne hA
 refine go ?_
 refine q_p (fun g29 => ?_) fun g29 => ?_
 ·
  have hUl : (nth (linesR s).1 ys.length).length ≤ 120000 := by
    have h9 : ys.length < (linesP s).length := by rw [← hln]; omega
    have h8 := lines_len h9
    rw [hln]; omega
  refine go ?_
  have D28 := ((haL.keep u15 (fun _ h => h)).keep u21 (fun hb => show ¬ (gL = bk12 ∨ w13.heap.size ≤ gL) by first | omega | assumption))
  refine g_i ys.length (D28.sl (fun _ => rfl)) (fun _ => ?_)
  refine go ?_
  refine x_c func84 rfl rfl (checked_c (nth (linesR s).1 ys.length) _ (by omega)) ?_
  rintro _ w31 ⟨rfl, u32⟩ zu32
  refine go ?_
  refine q_p (fun g38 => ?_) fun g38 => ?_
  ·
   refine go ?_
   refine f_ret3 (v1 := .slice none 0 0) (v2 := .int .i64 (ys.length : Int)) (v3 := .int .i64 (chkdP (nth (linesR s).1 ys.length))) results41 rfl rfl rfl ?_
   have he9 : (LR (nth (linesR s).1 ys.length)).2 = chkdP (nth (linesR s).1 ys.length) := lineB_c g38
   have hr9 : readB LR s = ([], (ys.length : Int), chkdP (nth (linesR s).1 ys.length)) := by rw [readB_ok (by omega)]; exact (gr_bad hgo (by omega) (by rw [he9]; exact g38)).trans (by rw [he9])
   exact ⟨⟨[], none, 0, 0, by rw [hr9]; rfl, by rw [hr9]; rfl, Acc.nil _ _ _ _ _ hpos (by omega), BilsM.nil _ _⟩, u_d⟩
  have hck : chkdP (nth (linesR s).1 ys.length) = 0 := by omega
  refine go ?_
  have D38 := (D28.keep u32 (fun _ h => h))
  refine g_i ys.length (D38.sl (fun _ => rfl)) (fun _ => ?_)
  refine go ?_
  refine x_c func85 rfl rfl (words_c (nth (linesR s).1 ys.length) _ (by omega) (by omega)) ?_
  rintro _ w41 ⟨⟨aW, gW, cW, rfl, haW⟩, u42⟩ zu42
  have lt_gW := haW.lt
  have hwl := pcs_len 32 (nth (linesR s).1 ys.length)
  refine go ?_
  refine x_n fun bk46 w47 ebk46 sbk46 B48 u49 => ?_
  refine x_s fun w51 sw51 B53 u52 => ?_
  iterate 2 refine st1 ?_
  refine x_k1 (fun i => i = bk46 ∨ w51.heap.size ≤ i) [2, 3, 4, 5, 7, 8, 11] (fun (y : Bil) => []) (fun y w => Blk w bk46 71 [.int .i64 y.n, .int .i64 y.c, .int .i64 y.t, .int .i64 y.f, .int .i64 y.o, .slice y.ao y.s.length y.cp] ∧ (y.bare = parR (nth (linesR s).1 ys.length)) ∧ (y.ob = 0) ∧ (y.s.length ≤ 1000000) ∧ (Acc encI 1 3 w0.heap.size w y.ao y.g y.cp y.s) ∧ (y.g = 0 ∨ w51.heap.size ≤ y.g)) (fun K59 hK59 => ?_) ?_
  ·
   refine go ?_
   refine q_p (fun g49 => ?_) fun g49 => ?_
   ·
    have hw0 : (nth (pcs 32 (nth (linesR s).1 ys.length)) 0).length ≤ 120000 := by
      have h9 := pcs_items 32 (nth (linesR s).1 ys.length) (nth (pcs 32 (nth (linesR s).1 ys.length)) 0) (nth_mem (by omega))
      omega
    have hw1 : (nth (pcs 32 (nth (linesR s).1 ys.length)) 1).length ≤ 120000 := by
      have h9 := pcs_items 32 (nth (linesR s).1 ys.length) (nth (pcs 32 (nth (linesR s).1 ys.length)) 1) (nth_mem (by omega))
      omega
    have hw2 : (nth (pcs 32 (nth (linesR s).1 ys.length)) 2).length ≤ 120000 := by
      have h9 := pcs_items 32 (nth (linesR s).1 ys.length) (nth (pcs 32 (nth (linesR s).1 ys.length)) 2) (nth_mem (by omega))
      omega
    have hw3 : (nth (pcs 32 (nth (linesR s).1 ys.length)) 3).length ≤ 120000 := by
      have h9 := pcs_items 32 (nth (linesR s).1 ys.length) (nth (pcs 32 (nth (linesR s).1 ys.length)) 3) (nth_mem (by omega))
      omega
    have hw4 : (nth (pcs 32 (nth (linesR s).1 ys.length)) 4).length ≤ 120000 := by
      have h9 := pcs_items 32 (nth (linesR s).1 ys.length) (nth (pcs 32 (nth (linesR s).1 ys.length)) 4) (nth_mem (by omega))
      omega
    have hdc3 := digC_le 6 (nth (pcs 32 (nth (linesR s).1 ys.length)) 3)
    refine go ?_
    have D64 := ((haW.keep u49 (fun _ h => h)).keep u52 (fun hb => show ¬ (gW = bk46) by first | omega | assumption))
    refine g_i 0 (D64.sl (fun _ => rfl)) (fun _ => ?_)
    refine go ?_
    refine x_c func86 rfl rfl (digits_c (nth (pcs 32 (nth (linesR s).1 ys.length)) 0) _ (by first | omega | (rw [List.length_drop]; omega))) ?_
    rintro _ w67 ⟨rfl, u68⟩ zu68
    refine go ?_
    refine x_s fun w71 sw71 B73 u72 => ?_
    refine go ?_
    have D76 := ((D64.keep u68 (fun _ h => h)).keep u72 (fun hb => show ¬ (gW = bk46) by first | omega | assumption))
    refine g_i 1 (D76.sl (fun _ => rfl)) (fun _ => ?_)
    refine go ?_
    refine x_c func86 rfl rfl (digits_c (nth (pcs 32 (nth (linesR s).1 ys.length)) 1) _ (by first | omega | (rw [List.length_drop]; omega))) ?_
    rintro _ w79 ⟨rfl, u80⟩ zu80
    refine go ?_
    refine x_s fun w83 sw83 B85 u84 => ?_
    refine go ?_
    have D88 := ((D76.keep u80 (fun _ h => h)).keep u84 (fun hb => show ¬ (gW = bk46) by first | omega | assumption))
    refine g_i 2 (D88.sl (fun _ => rfl)) (fun _ => ?_)
    refine go ?_
    refine x_c func86 rfl rfl (digits_c (nth (pcs 32 (nth (linesR s).1 ys.length)) 2) _ (by first | omega | (rw [List.length_drop]; omega))) ?_
    rintro _ w91 ⟨rfl, u92⟩ zu92
    refine go ?_
    refine x_s fun w95 sw95 B97 u96 => ?_
    refine go ?_
    have D100 := ((D88.keep u92 (fun _ h => h)).keep u96 (fun hb => show ¬ (gW = bk46) by first | omega | assumption))
    refine g_i 3 (D100.sl (fun _ => rfl)) (fun _ => ?_)
    refine go ?_
    refine x_c func86 rfl rfl (digits_c (nth (pcs 32 (nth (linesR s).1 ys.length)) 3) _ (by first | omega | (rw [List.length_drop]; omega))) ?_
    rintro _ w103 ⟨rfl, u104⟩ zu104
    refine go ?_
    refine x_s fun w108 sw108 B110 u109 => ?_
    refine go ?_
    refine c_drawnM follows (fun i => i = bk46) (OTl [0, 2, 4, 6, 8, 10, 12, 14, 16, 18, 20, 23, 24, 26, 28, 30, 33]) (by kernel_rfl) fun w113 u114 => ?_
    have zu114 := u114.size
    refine go ?_
    have D116 := (((D100.keep u104 (fun _ h => h)).keep u109 (fun hb => show ¬ (gW = bk46) by first | omega | assumption)).keep u114 (fun _ h => h))
    refine y_i 3 (D116.sl (fun _ => rfl)) (fun _ => ?_)
    refine go ?_
    refine y_i 3 (D116.sl (fun _ => rfl)) (fun _ => ?_)
    refine go ?_
    refine y_lenS underlying9 rfl rfl rfl rfl (y_min rfl rfl rfl rfl (y_same 93 (v := .int .i64 ((min (digC 6 (nth (pcs 32 (nth (linesR s).1 ys.length)) 3) + 1) (nth (pcs 32 (nth (linesR s).1 ys.length)) 3).length : Nat) : Int)) rfl (congrArg (Value.int .i64) (by omega)) (y_subS (min (digC 6 (nth (pcs 32 (nth (linesR s).1 ys.length)) 3) + 1) (nth (pcs 32 (nth (linesR s).1 ys.length)) 3).length) ((nth (pcs 32 (nth (linesR s).1 ys.length)) 3).length) underlying9 rfl rfl rfl (.inl ⟨rfl, rfl, by first | rfl | omega⟩) (.inr ⟨rfl, rfl⟩) (k' := .i64) (n := 0) (x2 := .tmp 0) (by omega) (by omega) (y_same 94 (v := .string (strB ((nth (pcs 32 (nth (linesR s).1 ys.length)) 3).drop (min (digC 6 (nth (pcs 32 (nth (linesR s).1 ys.length)) 3) + 1) (nth (pcs 32 (nth (linesR s).1 ys.length)) 3).length)))) rfl (congrArg (fun z => Value.string (strB z)) (List.take_of_length_le (by rw [List.length_drop]; exact Nat.le_refl _))) ?_))))
    refine go ?_
    refine x_c func86 rfl rfl (digits_c ((nth (pcs 32 (nth (linesR s).1 ys.length)) 3).drop (min (digC 6 (nth (pcs 32 (nth (linesR s).1 ys.length)) 3) + 1) (nth (pcs 32 (nth (linesR s).1 ys.length)) 3).length)) _ (by first | omega | (rw [List.length_drop]; omega))) ?_
    rintro _ w120 ⟨rfl, u121⟩ zu121
    refine go ?_
    refine x_s fun w124 sw124 B126 u125 => ?_
    refine go ?_
    refine x_l3 (fun i => i = bk46 ∨ w124.heap.size ≤ i) [2, 3, 4, 5, 7, 8, 10, 11] (fun (k : Nat) (ns : List Int) (q2 : (Option Addr × Nat × Nat)) => [(14, .int .i64 (k : Int))]) (fun k ns q2 w => Blk w bk46 71 [.int .i64 (digV 6 0 (nth (pcs 32 (nth (linesR s).1 ys.length)) 0)), .int .i64 (digV 6 0 (nth (pcs 32 (nth (linesR s).1 ys.length)) 1)), .int .i64 (digV 6 0 (nth (pcs 32 (nth (linesR s).1 ys.length)) 2)), .int .i64 (digV 6 0 (nth (pcs 32 (nth (linesR s).1 ys.length)) 3)), .int .i64 (digV 6 0 ((nth (pcs 32 (nth (linesR s).1 ys.length)) 3).drop (min (digC 6 (nth (pcs 32 (nth (linesR s).1 ys.length)) 3) + 1) (nth (pcs 32 (nth (linesR s).1 ys.length)) 3).length))), .slice q2.1 ns.length q2.2.2] ∧ (k ≤ (nth (pcs 32 (nth (linesR s).1 ys.length)) 4).length + 1) ∧ (sealD (nth (pcs 32 (nth (linesR s).1 ys.length)) 4) = ns ++ sealD ((nth (pcs 32 (nth (linesR s).1 ys.length)) 4).drop k)) ∧ (Acc encI 1 3 w0.heap.size w q2.1 q2.2.1 q2.2.2 ns) ∧ (q2.2.1 = 0 ∨ w124.heap.size ≤ q2.2.1) ∧ (ns.length ≤ k)) (fun k ns q2 => (nth (pcs 32 (nth (linesR s).1 ys.length)) 4).length + 1 - k) 0 ([]) (none, 0, 0) ⟨B126, (Nat.zero_le _), (by rw [List.nil_append, List.drop_zero]), (Acc.nil _ _ _ _ _ hpos (by omega)), (.inl rfl), (Nat.le_refl _)⟩ ?_
    rintro k ns q2 w130 ⟨I132, hk, hns, hA2, hq2, hnl⟩ u131 zu131 K129 hK129
    have lt_q2_2_1 := hA2.lt
    have hdc := digC_le 6 ((nth (pcs 32 (nth (linesR s).1 ys.length)) 4).drop k)
    rw [List.length_drop] at hdc
    refine go ?_
    have D136 := (((D116.keep u121 (fun _ h => h)).keep u125 (fun hb => show ¬ (gW = bk46) by first | omega | assumption)).keep u131 (fun hb => show ¬ (gW = bk46 ∨ w124.heap.size ≤ gW) by first | omega | assumption))
    refine g_i 4 (D136.sl (fun _ => rfl)) (fun _ => ?_)
    refine go ?_
    refine t_lenS underlying9 rfl rfl rfl rfl ?_
    refine go ?_
    refine q_p (fun g104 => ?_) fun g104 => ?_
    ·
     refine go ?_
     refine g_i 4 (D136.sl (fun _ => rfl)) (fun _ => ?_)
     refine go ?_
     refine t_subS k ((nth (pcs 32 (nth (linesR s).1 ys.length)) 4).length) underlying9 rfl rfl rfl (.inl ⟨rfl, rfl, by first | rfl | omega⟩) (.inr ⟨rfl, rfl⟩) (k' := .i64) (n := 0) (x2 := .tmp 0) (by omega) (by omega) (t_same 112 (v := .string (strB ((nth (pcs 32 (nth (linesR s).1 ys.length)) 4).drop k))) rfl (congrArg (fun z => Value.string (strB z)) (List.take_of_length_le (by rw [List.length_drop]; exact Nat.le_refl _))) ?_)
     refine x_c func86 rfl rfl (digits_c ((nth (pcs 32 (nth (linesR s).1 ys.length)) 4).drop k) _ (by first | omega | (rw [List.length_drop]; omega))) ?_
     rintro _ w142 ⟨rfl, u143⟩ zu143
     refine go ?_
     refine q_p (fun g117 => ?_) fun g117 => ?_
     ·
      refine go ?_
      refine x_l fun bk148 w149 ebk148 sbk148 B150 u151 => ?_
      have D153 := ((hA2.keep u143 (fun _ h => h)).keep u151 (fun _ h => h))
      refine t_append (z := .int .i64 0) (bytes := 8) (k := 1) (base := w0.heap.size) (digV 6 0 ((nth (pcs 32 (nth (linesR s).1 ys.length)) 4).drop k)) underlying59 (by kernel_rfl) rfl (by decide) (fun _ => rfl) (by intro x; simp [encI, Value.oneCell']) rfl rfl rfl rfl D153 B150 (by omega) (by omega) (by decide) (fun ao154 gb155 cp156 w157 A158 u159 gegb155 lngb155 => ?_)
      have zu159 := u159.size
      have lt_gb155 := A158.lt
      refine go ?_
      refine x_s fun w161 sw161 B163 u162 => ?_
      refine go ?_
      have D165 := (A158.keep u162 (fun hb => show ¬ (gb155 = bk46) by first | omega | assumption))
      exact hK129 (k + digC 6 ((nth (pcs 32 (nth (linesR s).1 ys.length)) 4).drop k) + 1) (ns ++ [digV 6 0 ((nth (pcs 32 (nth (linesR s).1 ys.length)) 4).drop k)]) (ao154, gb155, cp156) ⟨B163, (by omega), (by rw [hns, sealD_step (by omega), if_pos (by omega), ← List.append_assoc]), D165, (show gb155 = 0 ∨ w124.heap.size ≤ gb155 by omega), (by rw [List.length_append, List.length_singleton]; omega)⟩ (hm := (by show (nth (pcs 32 (nth (linesR s).1 ys.length)) 4).length + 1 - (k + digC 6 ((nth (pcs 32 (nth (linesR s).1 ys.length)) 4).drop k) + 1) < (nth (pcs 32 (nth (linesR s).1 ys.length)) 4).length + 1 - k; omega))
     refine go ?_
     have B166 := (I132.kx u143)
     have D167 := (hA2.keep u143 (fun _ h => h))
     exact hK129 (k + digC 6 ((nth (pcs 32 (nth (linesR s).1 ys.length)) 4).drop k) + 1) ns q2 ⟨B166, (by omega), (by rw [hns, sealD_step (by omega), if_neg (by omega), ← List.append_assoc]; rw [List.append_nil]), D167, (show q2.2.1 = 0 ∨ w124.heap.size ≤ q2.2.1 by omega), (by omega)⟩ (hm := (by show (nth (pcs 32 (nth (linesR s).1 ys.length)) 4).length + 1 - (k + digC 6 ((nth (pcs 32 (nth (linesR s).1 ys.length)) 4).drop k) + 1) < (nth (pcs 32 (nth (linesR s).1 ys.length)) 4).length + 1 - k; omega))
    refine go ?_
    exact hK59 (⟨digV 6 0 (nth (pcs 32 (nth (linesR s).1 ys.length)) 0), digV 6 0 (nth (pcs 32 (nth (linesR s).1 ys.length)) 1), digV 6 0 (nth (pcs 32 (nth (linesR s).1 ys.length)) 2), digV 6 0 (nth (pcs 32 (nth (linesR s).1 ys.length)) 3), digV 6 0 ((nth (pcs 32 (nth (linesR s).1 ys.length)) 3).drop (min (digC 6 (nth (pcs 32 (nth (linesR s).1 ys.length)) 3) + 1) (nth (pcs 32 (nth (linesR s).1 ys.length)) 3).length)), ns, q2.1, q2.2.1, 0, q2.2.2⟩) ⟨I132, (by unfold parR; rw [if_neg (by omega), hns, sealD_end (by omega), List.append_nil]; rfl), rfl, (show ns.length ≤ 1000000 by omega), hA2, (show q2.2.1 = 0 ∨ w51.heap.size ≤ q2.2.1 by omega)⟩
   refine go ?_
   exact hK59 bil0 ⟨B53, (by unfold parR; rw [if_pos (by omega)]; rfl), rfl, (by decide), (Acc.nil _ _ _ _ _ hpos (by omega)), (.inl rfl)⟩
  rintro y w60 ⟨I168, hyb, hob, hyl2, haY, hyg⟩ u61 zu61
  have lt_y_g := haY.lt
  refine st1 ?_
  refine x_k1 (fun _ => False) [2, 3, 4, 5, 7, 8, 11] (fun (z8 : Bool) => [(139, .bool z8)]) (fun z8 w => (z8 = decide (¬ (okBill y = true ∧ billP y = (nth (linesR s).1 ys.length) ++ [10])))) (fun K175 hK175 => ?_) ?_
  ·
   refine c_drawnM follows (fun _ => False) (OTl [0, 3, 4, 6, 8, 12, 14, 16, 18, 20, 11, 22, 24]) (by kernel_rfl) fun w178 u179 => ?_
   have zu179 := u179.size
   refine go ?_
   have D181 := (haY.keep u179 (fun _ h => h))
   refine x_c func81 rfl rfl (rBill_c y _ (by rw [hob]; exact (D181.sl (fun _ => rfl))) hyl2) ?_
   rintro _ w183 ⟨rfl, u184⟩ zu184
   refine go ?_
   refine y_split 130 rfl (fun g130 => ?_) (fun g130 => ?_)
   ·
    have hx : ¬ okBill y = true := by simpa using g130
    refine go ?_
    exact hK175 true (by first | exact (decide_eq_true (show ¬ (okBill y = true ∧ billP y = (nth (linesR s).1 ys.length) ++ [10]) from fun h => hx h.1)).symm | exact decide_eq_decide.2 ⟨fun h e => h e.2, fun h e => h ⟨hx, e⟩⟩)
   have hx : okBill y = true := by simpa using g130
   refine go ?_
   have D187 := (((((D38.keep u42 (fun _ h => h)).keep u49 (fun _ h => h)).keep u52 (fun hb => show ¬ (gL = bk46) by first | omega | assumption)).keep u61 (fun hb => show ¬ (gL = bk46 ∨ w51.heap.size ≤ gL) by first | omega | assumption)).keep u179 (fun _ h => h))
   refine y_i ys.length (D187.sl (fun _ => rfl)) (fun _ => ?_)
   refine go ?_
   refine y_bo (Bo.addS (by simp only [List.length_cons, List.length_nil]; omega)) rfl rfl rfl rfl ?_
   refine go ?_
   have D189 := (D181.keep u184 (fun _ h => h))
   refine x_c func82 rfl rfl (rText_c y _ (by rw [hob]; exact (D189.sl (fun _ => rfl))) hx) ?_
   rintro _ w191 ⟨rfl, u192⟩ zu192
   refine go ?_
   refine y_bo (Bo.neS (billP y) ((nth ((linesR s).1) ys.length) ++ [10])) rfl rfl rfl rfl ?_
   refine go ?_
   exact hK175 (decide ((billP y) ≠ ((nth ((linesR s).1) ys.length) ++ [10]))) (by first | exact (decide_eq_true (show ¬ (okBill y = true ∧ billP y = (nth (linesR s).1 ys.length) ++ [10]) from fun h => hx h.1)).symm | exact decide_eq_decide.2 ⟨fun h e => h e.2, fun h e => h ⟨hx, e⟩⟩)
  rintro z8 w176 hz8 u177 zu177
  refine q_b (fun g139 => ?_) fun g139 => ?_
  ·
   have hzc : (¬ (okBill y = true ∧ billP y = (nth (linesR s).1 ys.length) ++ [10])) := by rw [hz8] at g139; exact of_decide_eq_true g139
   refine go ?_
   refine f_ret3 (v1 := .slice none 0 0) (v2 := .int .i64 (ys.length : Int)) (v3 := .int .i64 4) results41 rfl rfl rfl ?_
   have he9 : (LR (nth (linesR s).1 ys.length)).2 = 4 := lineB_4 hck (by rw [← hyb]; exact hzc)
   have hr9 : readB LR s = ([], (ys.length : Int), 4) := by rw [readB_ok (by omega)]; exact (gr_bad hgo (by omega) (by rw [he9]; decide)).trans (by rw [he9])
   exact ⟨⟨[], none, 0, 0, by rw [hr9]; rfl, by rw [hr9]; rfl, Acc.nil _ _ _ _ _ hpos (by omega), BilsM.nil _ _⟩, u_d⟩
  have hzc : ¬ (¬ (okBill y = true ∧ billP y = (nth (linesR s).1 ys.length) ++ [10])) := by rw [hz8] at g139; exact of_decide_eq_false g139
  have hlB : LR (nth (linesR s).1 ys.length) = (parR (nth (linesR s).1 ys.length), 0) := lineB_0 hck (by rw [← hyb]; exact Decidable.not_not.1 hzc)
  have hle : (LR (nth (linesR s).1 ys.length)).2 = 0 := by rw [hlB]
  have hye : y.bare = (LR (nth (linesR s).1 ys.length)).1 := by rw [hlB]; exact hyb
  iterate 3 refine st1 ?_
  refine x_k1 (fun _ => False) [2, 3, 4, 5, 7, 8, 11] (fun (z7 : Bool) => [(153, .bool z7)]) (fun z7 w => (z7 = decide (0 < ys.length ∧ ¬ (nth ys (ys.length - 1)).n < y.n))) (fun K202 hK202 => ?_) ?_
  ·
   refine c_drawnM follows (fun _ => False) (OTl [0, 2, 4, 6, 8, 10, 12, 14, 16, 18, 20, 22, 24]) (by kernel_rfl) fun w205 u206 => ?_
   have zu206 := u206.size
   refine go ?_
   refine y_splitp 143 rfl (fun g143 => ?_) (fun g143 => ?_)
   ·
    refine go ?_
    have D208 := (((((((hA.keep u32 (fun _ h => h)).keep u42 (fun _ h => h)).keep u49 (fun _ h => h)).keep u52 (fun hb => show ¬ (q.2.1 = bk46) by first | omega | assumption)).keep u61 (fun hb => show ¬ (q.2.1 = bk46 ∨ w51.heap.size ≤ q.2.1) by first | omega | assumption)).keep u177 (fun _ h => h)).keep u206 (fun _ h => h))
    refine y_i (ys.length - 1) (D208.sl (fun _ => rfl)) (fun _ => ?_)
    refine go ?_
    exact hK202 (decide (y.n ≤ (nth ys (ys.length - 1)).n)) (by first | exact (decide_eq_false (by omega)).symm | exact (decide_eq_true (by omega)).symm | exact decide_eq_decide.2 (by omega))
   refine go ?_
   exact hK202 false (by first | exact (decide_eq_false (by omega)).symm | exact (decide_eq_true (by omega)).symm | exact decide_eq_decide.2 (by omega))
  rintro z7 w203 hz7 u204 zu204
  refine q_b (fun g153 => ?_) fun g153 => ?_
  ·
   have hzt : (0 < ys.length ∧ ¬ (nth ys (ys.length - 1)).n < y.n) := by rw [hz7] at g153; exact of_decide_eq_true g153
   refine go ?_
   refine f_ret3 (v1 := .slice none 0 0) (v2 := .int .i64 (ys.length : Int)) (v3 := .int .i64 6) results41 rfl rfl rfl ?_
   have hr9 : readB LR s = ([], (ys.length : Int), 6) := by rw [readB_ok (by omega)]; exact gr_twice hgo (by omega) hle hye hzt
   exact ⟨⟨[], none, 0, 0, by rw [hr9]; rfl, by rw [hr9]; rfl, Acc.nil _ _ _ _ _ hpos (by omega), BilsM.nil _ _⟩, u_d⟩
  have hzt : ¬ (0 < ys.length ∧ ¬ (nth ys (ys.length - 1)).n < y.n) := by rw [hz7] at g153; exact of_decide_eq_false g153
  refine go ?_
  refine x_l fun bk212 w213 ebk212 sbk212 B214 u215 => ?_
  have D217 := ((((((((hA.keep u32 (fun _ h => h)).keep u42 (fun _ h => h)).keep u49 (fun _ h => h)).keep u52 (fun hb => show ¬ (q.2.1 = bk46) by first | omega | assumption)).keep u61 (fun hb => show ¬ (q.2.1 = bk46 ∨ w51.heap.size ≤ q.2.1) by first | omega | assumption)).keep u177 (fun _ h => h)).keep u204 (fun _ h => h)).keep u215 (fun _ h => h))
  refine t_append (z := .agg #[.int .i64 0, .int .i64 0, .int .i64 0, .int .i64 0, .int .i64 0, .slice none 0 0]) (bytes := 64) (k := 6) (base := w0.heap.size) y underlying69 (by kernel_rfl) rfl (by decide) (fun _ => rfl) (by intro x; simp [encBil, Value.oneCell']) rfl rfl rfl rfl D217 B214 (by omega) (by omega) (by decide) (fun ao218 gb219 cp220 w221 A222 u223 gegb219 lngb219 => ?_)
  have zu223 := u223.size
  have lt_gb219 := A222.lt
  refine go ?_
  have D225 := (BilsM.keep (BilsM.keep (BilsM.keep (BilsM.keep (BilsM.keep (BilsM.keep (BilsM.keep (BilsM.keep (BilsM.keep hM u32 (fun _ _ _ h => h)) u42 (fun _ _ _ h => h)) u49 (fun _ _ _ h => h)) u52 (fun z hz hb => by have h9 := hMne z hz hb; have h8 := (hM z hz).2.2.lt; show ¬ (z.g = bk46); omega)) u61 (fun z hz hb => by have h9 := hMne z hz hb; have h8 := (hM z hz).2.2.lt; show ¬ (z.g = bk46 ∨ w51.heap.size ≤ z.g); omega)) u177 (fun _ _ _ h => h)) u204 (fun _ _ _ h => h)) u215 (fun _ _ _ h => h)) u223 (fun z hz hb => by have h9 := hMne z hz hb; have h8 := (hM z hz).2.2.lt; show ¬ ((z.g = q.2.1 ∧ w0.heap.size ≤ z.g)); omega))
  have D226 := ((((haY.keep u177 (fun _ h => h)).keep u204 (fun _ h => h)).keep u215 (fun _ h => h)).keep u223 (fun hb => show ¬ ((y.g = q.2.1 ∧ w0.heap.size ≤ y.g)) by first | omega | assumption))
  exact hK19 (ys ++ [y]) (ao218, gb219, cp220) ⟨(by rw [List.length_append, List.length_singleton]; omega), A222, (show gb219 = bk12 ∨ w13.heap.size ≤ gb219 by omega), (BilsM.snoc D225 hob hyl2 D226), (gr_next hgo (by omega) hle hye hzt)⟩ (hm := (by show (linesR s).1.length - (ys ++ [y]).length < (linesR s).1.length - ys.length; rw [List.length_append, List.length_singleton]; omega)) (hs := by exact ⟨rfl, rfl, rfl, rfl, (congrArg (fun z => some (Value.int .i64 z)) (by rw [List.length_append, List.length_singleton, Int.natCast_add]; rfl)), rfl, trivial⟩)
 refine go ?_
 refine f_ret3 (v1 := .slice q.1 ys.length q.2.2) (v2 := .int .i64 0) (v3 := .int .i64 0) results41 rfl rfl rfl ?_
 have hr9 : readB LR s = (ys.map Bil.bare, 0, 0) := by rw [readB_ok (by omega)]; exact gr_done hgo (by omega)
 exact ⟨⟨ys, _, _, _, by rw [hr9], by rw [hr9], hA, hM⟩, u_d⟩

end Go.Proofs.YtjdcpnaocjddoaaGreatDoor
namespace Go.Proofs.YtjdcpnaocjddoaaGreatDoor
open Go Go.RowKit Go.Proofs.Tryz
theorem eqI_c (xs : List Int) (aa : Option Addr) (ba oa ca : Nat) (ab : Option Addr) (bb ob cb : Nat) (w0 : World) (ha : Sl encI 1 w0 aa ba oa xs) (hb : Sl encI 1 w0 ab bb ob xs) (hxl : xs.length ≤ 1000000) :
    CallsV Tryz.prog 33 [.slice aa xs.length ca, .slice ab xs.length cb] w0 (fun v w' => v = .bool true ∧ Ext w0 w') := by
 refine f_n func33 ?_
 iterate 13 refine st1 ?_
 refine t_samehd (v := .bool false) (by simp) ?_
 refine go ?_
 refine x_l1 (fun _ => False) [0, 1] (fun (j : Nat) => [(5, .int .i64 (j : Int))]) (fun j w => (j ≤ xs.length)) (fun j => xs.length - j) 0 (Nat.zero_le _) ?_
 rintro j w7 hj u8 zu8 K6 hK6
 refine go ?_
 refine q_p (fun g14 => ?_) fun g14 => ?_
 ·
  refine go ?_
  refine c_drawnM follows (fun _ => False) (OTl [0, 2, 4, 6, 8, 10, 12, 14, 16]) (by kernel_rfl) fun w14 u15 => ?_
  have zu15 := u15.size
  have E16 := Sc.mk (((Upd.refl (fun _ => False) w0).nx u8).nx u15)
  refine go ?_
  refine y_i j (ha.keep E16.u (fun _ h => h)) (fun _ => ?_)
  refine go ?_
  refine y_i j (hb.keep E16.u (fun _ h => h)) (fun _ => ?_)
  iterate 2 refine st1 ?_
  refine y_samehd (v := .bool false) (by simp) ?_
  refine go ?_
  exact hK6 (j + 1) (by omega)
 refine go ?_
 refine f_1 results33 ?_
 exact ⟨rfl, u_d⟩

end Go.Proofs.YtjdcpnaocjddoaaGreatDoor
namespace Go.Proofs.YtjdcpnaocjddoaaGreatDoor
open Go Go.RowKit Go.Proofs.Tryz
theorem Acc.lowH {α : Type} {enc : α → List Value} {k : Nat} {e : TypeId} {base base' : Nat} {w : World} {ao : Option Addr} {g cap : Nat} {xs : List α} (h : Acc enc k e base w ao g cap xs) (hb : base' ≤ base) (h0 : 0 < base') : ∃ g', Acc enc k e base' w ao g' cap xs ∧ (base' ≤ g' → base ≤ g') := by
  rcases h.at_ with ⟨h1, h2, h3, h4⟩ | ⟨h1, h2, h3⟩
  · exact ⟨0, ⟨Nat.lt_of_le_of_lt (Nat.zero_le _) h.lt, .inl ⟨h1, h2, h3, h0⟩⟩, fun q => absurd q (by omega)⟩
  · exact ⟨g, ⟨h.lt, .inr ⟨h1, by omega, h3⟩⟩, fun _ => h2⟩
def SlB (W : World) (ys : List Bil) : Prop := ∀ z ∈ ys, Sl encI 1 W z.ao z.g z.ob z.s ∧ z.s.length ≤ 1000000
theorem BilsM.slB {B : Nat} {W : World} {ys : List Bil} (h : BilsM B W ys) : SlB W ys := fun z hz => by
  obtain ⟨h1, h2, h3⟩ := h z hz
  refine ⟨?_, h2⟩
  rw [h1]; exact h3.sl (fun _ => rfl)
theorem SlB.ext {W W' : World} {ys : List Bil} (h : SlB W ys) (u : Ext W W') : SlB W' ys := fun z hz => ⟨(h z hz).1.keep u (fun _ h => h), (h z hz).2⟩
theorem eqI_d (xs ys : List Int) (he : xs = ys) (aa : Option Addr) (ba oa ca : Nat) (ab : Option Addr) (bb ob cb : Nat) (w0 : World) (h1 : Sl encI 1 w0 aa ba oa xs) (h2 : Sl encI 1 w0 ab bb ob ys) (hl : xs.length ≤ 1000000) : CallsV Tryz.prog 33 [.slice aa xs.length ca, .slice ab ys.length cb] w0 fun v w' => v = .bool true ∧ Ext w0 w' := by
  subst he
  exact eqI_c xs aa ba oa ca ab bb ob cb w0 h1 h2 hl
theorem bare_at {ys zs : List Bil} (h : ys.map Bil.bare = zs.map Bil.bare) {i : Nat} (hi : i < ys.length) : (nth ys i).n = (nth zs i).n ∧ (nth ys i).c = (nth zs i).c ∧ (nth ys i).t = (nth zs i).t ∧ (nth ys i).f = (nth zs i).f ∧ (nth ys i).o = (nth zs i).o ∧ (nth ys i).s = (nth zs i).s := by
  have hl : ys.length = zs.length := by have h9 := congrArg List.length h; rwa [List.length_map, List.length_map] at h9
  have h1 := nth_bare ys i hi
  have h2 := nth_bare zs i (by omega)
  rw [h] at h1
  have e : (nth ys i).bare = (nth zs i).bare := h1.symm.trans h2
  unfold Bil.bare at e
  injection e with a1 a2 a3 a4 a5 a6
  exact ⟨a1, a2, a3, a4, a5, a6⟩
theorem ints_c (xs : List Int) (aa : Option Addr) (ba oa ca : Nat) (w0 : World) (hs : Sl encI 1 w0 aa ba oa xs) (hxl : xs.length ≤ 1000000) (hpos : 0 < w0.heap.size) :
    CallsV Tryz.prog 77 [.slice aa xs.length ca] w0 (fun v w' => (∃ a9 g9 c9, v = .slice a9 (List.length xs) c9 ∧ Acc encI 1 3 w0.heap.size w' a9 g9 c9 xs) ∧ Ext w0 w') := by
 refine f_n func77 ?_
 refine go ?_
 refine x_l fun bk3 w4 ebk3 sbk3 B5 u6 => ?_
 refine go ?_
 refine t_copy (enc := encI) (z := .int .i64 0) (bytes := 8) (k := 1) (ys := xs) underlying59 (by kernel_rfl) rfl (by decide) (fun _ => rfl) (by intro x; simp [encI, Value.oneCell']) rfl rfl rfl rfl B5 (hs.keep ((Upd.refl (fun _ => False) w0).nx u6) (fun _ h => h)) (by omega) (by decide) (fun ao8 gb9 cp10 w11 A12 u13 gegb9 => ?_)
 have zu13 := u13.size
 have lt_gb9 := A12.lt
 refine go ?_
 refine f_1 results77 ?_
 obtain ⟨g9, h9⟩ := Acc.lower (base' := w0.heap.size) A12 (by omega) hpos
 exact ⟨⟨_, g9, _, rfl, h9⟩, u_d⟩

set_option maxHeartbeats 4000000 in
theorem bcopy_c (l : List Bil) (al : Option Addr) (bl ol cl : Nat) (w0 : World) (hl : Sl encBil 6 w0 al bl ol l) (hll : l.length ≤ 1000000) (hss : SlB w0 l) (hpos : 0 < w0.heap.size) :
    CallsV Tryz.prog 37 [.slice al l.length cl] w0 (fun v w' => (∃ ys a9 g9 c9, v = .slice a9 (List.length ys) c9 ∧ ys.map Bil.bare = l.map Bil.bare ∧ Acc encBil 6 71 w0.heap.size w' a9 g9 c9 ys ∧ BilsM w0.heap.size w' ys) ∧ Ext w0 w') := by
 refine f_n func37 ?_
 refine go ?_
 refine x_l fun bk3 w4 ebk3 sbk3 B5 u6 => ?_
 refine go ?_
 refine x_l2 (fun i => i = bk3 ∨ w4.heap.size ≤ i) [0] (fun (ys : List Bil) (q : (Option Addr × Nat × Nat)) => [(3, .slice q.1 ys.length q.2.2), (4, .int .i64 (ys.length : Int))]) (fun ys q w => (ys.length ≤ l.length) ∧ (Acc encBil 6 71 w0.heap.size w q.1 q.2.1 q.2.2 ys) ∧ (q.2.1 = bk3 ∨ w4.heap.size ≤ q.2.1) ∧ (BilsM w0.heap.size w ys) ∧ (ys.map Bil.bare = (l.take ys.length).map Bil.bare)) (fun ys q => l.length - ys.length) ([]) (some ⟨bk3, 0, none⟩, bk3, 0) ⟨(Nat.zero_le _), (Acc.ofBlk (base := w0.heap.size) (xs := ([] : List Bil)) encBil 6 (fun _ => rfl) B5 (by omega) (by decide)), (.inl rfl), (BilsM.nil _ _), rfl⟩ ?_
 rintro ys q w11 ⟨hyl, hA, hqW, hM, hcy⟩ u12 zu12 K10 hK10
 have E13 := Sc.mk (((Upd.refl (fun _ => False) w0).nx u6).next u12 (fun i hi h => by omega))
 have lt_q_2_1 := hA.lt
 have hMne := hM.ne hA
 refine go ?_
 refine q_p (fun g10 => ?_) fun g10 => ?_
 ·
  obtain ⟨hsx9, hxs9⟩ := hss _ (nth_mem (xs := l) (i := ys.length) (by omega))
  refine go ?_
  refine g_i ys.length (hl.keep E13.u (fun _ h => h)) (fun _ => ?_)
  refine go ?_
  refine x_n fun bk19 w20 ebk19 sbk19 B21 u22 => ?_
  refine x_s fun w24 sw24 B26 u25 => ?_
  refine go ?_
  refine x_c func77 rfl rfl (ints_c (nth l ys.length).s (nth l ys.length).ao (nth l ys.length).g (nth l ys.length).ob (nth l ys.length).cp _ (hsx9.keep ((E13.u.nx u22).next u25 (fun i hi h => by omega)) (fun _ h => h)) hxs9 (by omega)) ?_
  rintro _ w30 ⟨⟨ai, gi9, ci, rfl, haci⟩, u31⟩ zu31
  have D34 := (((hA.keep u22 (fun _ h => h)).keep u25 (fun hb => show ¬ (q.2.1 = bk19) by first | omega | assumption)).keep u31 (fun _ h => h))
  obtain ⟨gi, hac, hgiw⟩ := Acc.lowH (base' := w0.heap.size) haci (by omega) hpos
  have hgi : gi < w30.heap.size := hac.lt
  have hgq : w0.heap.size ≤ gi → gi ≠ q.2.1 := fun hb => (BilsM.snoc (BilsM.nil w0.heap.size _) (y := (⟨(nth l ys.length).n, (nth l ys.length).c, (nth l ys.length).t, (nth l ys.length).f, (nth l ys.length).o, (nth l ys.length).s, ai, gi, 0, ci⟩ : Bil)) rfl hxs9 hac).ne D34 (⟨(nth l ys.length).n, (nth l ys.length).c, (nth l ys.length).t, (nth l ys.length).f, (nth l ys.length).o, (nth l ys.length).s, ai, gi, 0, ci⟩ : Bil) (by simp) hb
  have lt_gi := hac.lt
  refine go ?_
  refine x_s fun w35 sw35 B37 u36 => ?_
  refine go ?_
  refine x_l fun bk39 w40 ebk39 sbk39 B41 u42 => ?_
  have D44 := ((D34.keep u36 (fun hb => show ¬ (q.2.1 = bk19) by first | omega | assumption)).keep u42 (fun _ h => h))
  refine t_append (z := .agg #[.int .i64 0, .int .i64 0, .int .i64 0, .int .i64 0, .int .i64 0, .slice none 0 0]) (bytes := 64) (k := 6) (base := w0.heap.size) (⟨(nth l ys.length).n, (nth l ys.length).c, (nth l ys.length).t, (nth l ys.length).f, (nth l ys.length).o, (nth l ys.length).s, ai, gi, 0, ci⟩ : Bil) underlying69 (by kernel_rfl) rfl (by decide) (fun _ => rfl) (by intro x; simp [encBil, Value.oneCell']) rfl rfl rfl rfl D44 B41 (by omega) (by omega) (by decide) (fun ao45 gb46 cp47 w48 A49 u50 gegb46 lngb46 => ?_)
  have zu50 := u50.size
  have lt_gb46 := A49.lt
  refine go ?_
  have D52 := (BilsM.keep (BilsM.keep (BilsM.keep (BilsM.keep (BilsM.keep (BilsM.keep hM u22 (fun _ _ _ h => h)) u25 (fun z hz hb => by have h9 := hMne z hz hb; have h8 := (hM z hz).2.2.lt; show ¬ (z.g = bk19); omega)) u31 (fun _ _ _ h => h)) u36 (fun z hz hb => by have h9 := hMne z hz hb; have h8 := (hM z hz).2.2.lt; show ¬ (z.g = bk19); omega)) u42 (fun _ _ _ h => h)) u50 (fun z hz hb => by have h9 := hMne z hz hb; have h8 := (hM z hz).2.2.lt; show ¬ ((z.g = q.2.1 ∧ w0.heap.size ≤ z.g)); omega))
  have D53 := (((hac.keep u36 (fun hb => show ¬ (gi = bk19) by first | omega | assumption)).keep u42 (fun _ h => h)).keep u50 (fun hb => show ¬ ((gi = q.2.1 ∧ w0.heap.size ≤ gi)) by first | omega | assumption))
  exact hK10 (ys ++ [(⟨(nth l ys.length).n, (nth l ys.length).c, (nth l ys.length).t, (nth l ys.length).f, (nth l ys.length).o, (nth l ys.length).s, ai, gi, 0, ci⟩ : Bil)]) (ao45, gb46, cp47) ⟨(by rw [List.length_append, List.length_singleton]; omega), A49, (show gb46 = bk3 ∨ w4.heap.size ≤ gb46 by omega), (BilsM.snoc D52 rfl hxs9 D53), (by rw [List.length_append, List.map_append, hcy]; show _ = (l.take (ys.length + 1)).map Bil.bare; rw [take_nth (show ys.length < l.length by omega), List.map_append]; rfl)⟩ (hm := (by show l.length - (ys ++ [_]).length < l.length - ys.length; rw [List.length_append, List.length_singleton]; omega)) (hs := by exact ⟨rfl, (congrArg (fun z => some (Value.int .i64 z)) (by rw [List.length_append, List.length_singleton, Int.natCast_add]; rfl)), rfl, trivial⟩)
 rw [List.take_of_length_le (show l.length ≤ ys.length by omega)] at hcy
 refine go ?_
 refine f_1 results37 ?_
 exact ⟨⟨ys, _, _, _, rfl, hcy, hA, hM⟩, u_d⟩

set_option maxHeartbeats 4000000 in
theorem sameB_c (ys zs : List Bil) (ay : Option Addr) (by_ oy cy : Nat) (az : Option Addr) (bz oz cz : Nat) (w0 : World) (hy : Sl encBil 6 w0 ay by_ oy ys) (hz : Sl encBil 6 w0 az bz oz zs) (hb : ys.map Bil.bare = zs.map Bil.bare) (hsy : SlB w0 ys) (hsz : SlB w0 zs) (hyn : ys.length ≤ 1000000) :
    CallsV Tryz.prog 42 [.slice ay ys.length cy, .slice az zs.length cz] w0 (fun v w' => v = .bool true ∧ Ext w0 w') := by
 have hyz : ys.length = zs.length := by have h9 := congrArg List.length hb; rwa [List.length_map, List.length_map] at h9
 refine f_n func42 ?_
 refine go ?_
 refine q_p (fun g12 => ?_) fun g12 => ?_
 ·
  omega
 refine go ?_
 refine x_l1 (fun _ => False) [0, 1] (fun (i : Nat) => [(5, .int .i64 (i : Int))]) (fun i w => (i ≤ ys.length)) (fun i => ys.length - i) 0 (Nat.zero_le _) ?_
 rintro i w7 hi u8 zu8 K6 hK6
 refine go ?_
 refine q_p (fun g16 => ?_) fun g16 => ?_
 ·
  obtain ⟨hn9, hc9, ht9, hf9, ho9, hs9⟩ := bare_at hb (show i < ys.length by omega)
  have hbly := hy.lt (show 0 < ys.length by omega)
  have hblz := hz.lt (show 0 < zs.length by omega)
  refine go ?_
  refine c_drawnM follows (fun _ => False) (.look 0 (.look 1 (.look 2 (.look 3 (.look 4 (.look 5 (.look 6 (.look 7 (.act 8 (.act 9 (.act 10 (.act 11 .done .stop) .stop) .stop) (.act 9 (.act 8 (.act 10 (.act 11 .done .stop) .stop) .stop) .stop)))))))))) (by kernel_rfl) fun w14 u15 => ?_
  have zu15 := u15.size
  have E16 := Sc.mk (((Upd.refl (fun _ => False) w0).nx u8).nx u15)
  refine go ?_
  refine y_i i (hy.keep E16.u (fun _ h => h)) (fun _ => ?_)
  refine go ?_
  refine y_i i (hz.keep E16.u (fun _ h => h)) (fun _ => ?_)
  refine go ?_
  refine s_or ?_ ?_
  ·
   refine go ?_
   refine x_n fun bk19 w20 ebk19 sbk19 B21 u22 => ?_
   refine go ?_
   refine x_n fun bk24 w25 ebk24 sbk24 B26 u27 => ?_
   refine go ?_
   refine x_s fun w29 sw29 B31 u30 => ?_
   refine go ?_
   refine x_s fun w33 sw33 B35 u34 => ?_
   have E36 := Sc.mk ((((E16.u.nx u22).nx u27).next u30 (fun i hi h => by omega)).next u34 (fun i hi h => by omega))
   iterate 10 refine st1 ?_
   refine t_same 31 (v := .bool false) rfl (congrArg Value.bool (decide_eq_false (fun h => h hn9))) ?_
   iterate 6 refine st1 ?_
   refine t_same 37 (v := .bool false) rfl (congrArg Value.bool (decide_eq_false (fun h => h hc9))) ?_
   iterate 7 refine st1 ?_
   refine t_same 44 (v := .bool false) rfl (congrArg Value.bool (decide_eq_false (fun h => h ht9))) ?_
   iterate 7 refine st1 ?_
   refine t_same 51 (v := .bool false) rfl (congrArg Value.bool (decide_eq_false (fun h => h hf9))) ?_
   iterate 7 refine st1 ?_
   refine t_same 58 (v := .bool false) rfl (congrArg Value.bool (decide_eq_false (fun h => h ho9))) ?_
   refine go ?_
   refine x_c func33 rfl rfl (eqI_d (nth ys i).s (nth zs i).s hs9 _ _ _ _ _ _ _ _ _ ((hsy _ (nth_mem (xs := ys) (i := i) (by omega))).1.keep E36.u (fun _ h => h)) ((hsz _ (nth_mem (xs := zs) (i := i) (by omega))).1.keep E36.u (fun _ h => h)) (hsy _ (nth_mem (xs := ys) (i := i) (by omega))).2) ?_
   rintro _ w39 ⟨rfl, u40⟩ zu40
   refine go ?_
   exact hK6 (i + 1) (by omega)
  refine go ?_
  refine x_n fun bk43 w44 ebk43 sbk43 B45 u46 => ?_
  refine go ?_
  refine x_n fun bk48 w49 ebk48 sbk48 B50 u51 => ?_
  refine go ?_
  refine x_s fun w53 sw53 B55 u54 => ?_
  refine go ?_
  refine x_s fun w57 sw57 B59 u58 => ?_
  have E60 := Sc.mk ((((E16.u.nx u46).nx u51).next u54 (fun i hi h => by omega)).next u58 (fun i hi h => by omega))
  iterate 10 refine st1 ?_
  refine t_same 31 (v := .bool false) rfl (congrArg Value.bool (decide_eq_false (fun h => h hn9))) ?_
  iterate 6 refine st1 ?_
  refine t_same 37 (v := .bool false) rfl (congrArg Value.bool (decide_eq_false (fun h => h hc9))) ?_
  iterate 7 refine st1 ?_
  refine t_same 44 (v := .bool false) rfl (congrArg Value.bool (decide_eq_false (fun h => h ht9))) ?_
  iterate 7 refine st1 ?_
  refine t_same 51 (v := .bool false) rfl (congrArg Value.bool (decide_eq_false (fun h => h hf9))) ?_
  iterate 7 refine st1 ?_
  refine t_same 58 (v := .bool false) rfl (congrArg Value.bool (decide_eq_false (fun h => h ho9))) ?_
  refine go ?_
  refine x_c func33 rfl rfl (eqI_d (nth ys i).s (nth zs i).s hs9 _ _ _ _ _ _ _ _ _ ((hsy _ (nth_mem (xs := ys) (i := i) (by omega))).1.keep E60.u (fun _ h => h)) ((hsz _ (nth_mem (xs := zs) (i := i) (by omega))).1.keep E60.u (fun _ h => h)) (hsy _ (nth_mem (xs := ys) (i := i) (by omega))).2) ?_
  rintro _ w63 ⟨rfl, u64⟩ zu64
  refine go ?_
  exact hK6 (i + 1) (by omega)
 refine go ?_
 refine f_1 results42 ?_
 exact ⟨rfl, u_d⟩

end Go.Proofs.YtjdcpnaocjddoaaGreatDoor
namespace Go.Proofs.YtjdcpnaocjddoaaGreatDoor
open Go Go.RowKit Go.Proofs.Tryz
theorem chkB_bare : ∀ {ys zs : List Bil} {m : Int}, ys.map Bil.bare = zs.map Bil.bare → chkB m ys = chkB m zs
  | [], [], _, _ => rfl
  | [], _ :: _, _, h => by cases h
  | _ :: _, [], _, h => by cases h
  | y :: ys, z :: zs, m, h => by
    have h := List.cons.inj (show y.bare :: ys.map Bil.bare = z.bare :: zs.map Bil.bare from h)
    have e : okBill y = okBill z := by rw [← okBill_bare y, h.1, okBill_bare]
    have en : y.n = z.n := (congrArg Bil.n h.1 : y.bare.n = z.bare.n)
    show (if _ then _ else _) = (if _ then _ else _)
    rw [e, en, chkB_bare h.2]
theorem flat_bare : ∀ {ys zs : List Bil}, ys.map Bil.bare = zs.map Bil.bare → ys.flatMap billP = zs.flatMap billP
  | [], [], _ => rfl
  | [], _ :: _, h => by cases h
  | _ :: _, [], h => by cases h
  | y :: ys, z :: zs, h => by
    have h := List.cons.inj (show y.bare :: ys.map Bil.bare = z.bare :: zs.map Bil.bare from h)
    rw [List.flatMap_cons, List.flatMap_cons, flat_bare h.2, ← billP_bare y, h.1, billP_bare]
theorem textP_bare {ys zs : List Bil} (h : ys.map Bil.bare = zs.map Bil.bare) : textP ys = textP zs := by
  have hl : ys.length = zs.length := by have h9 := congrArg List.length h; rwa [List.length_map, List.length_map] at h9
  unfold textP
  rw [hl, chkB_bare h, flat_bare h]
theorem goB_len (L : List UInt8 → Bil × Int) : ∀ (ls : List (List UInt8)) (acc : List Bil), (goB L acc ls).1.length ≤ acc.length + ls.length
  | [], acc => Nat.le_refl _
  | s :: r, acc => by
    unfold goB
    split
    · exact Nat.zero_le _
    · split
      · exact Nat.zero_le _
      · have := goB_len L r (acc ++ [(L s).1])
        rw [List.length_append, List.length_singleton] at this
        rw [List.length_cons]; omega
theorem readB_len (L : List UInt8 → Bil × Int) (s : List UInt8) : (readB L s).1.length ≤ 200 := by
  unfold readB
  split
  · exact Nat.zero_le _
  · rename_i h
    have h9 := linesR_ok (Decidable.not_not.1 h)
    have := goB_len L (linesR s).1 []
    rw [h9.1] at this ⊢
    have h0 : ([] : List Bil).length = 0 := rfl
    omega

set_option maxHeartbeats 4000000 in
set_option maxRecDepth 20000 in
theorem LogsBills_c (l : List Bil) (al : Option Addr) (bl ol cl : Nat) (s : List UInt8) (w0 : World) (hl : Sl encBil 6 w0 al bl ol l) (hss : ∀ x ∈ l, Sl encI 1 w0 x.ao x.g x.ob x.s ∧ x.s.length ≤ 9223372036854775807) (hll : l.length ≤ 9223372036854775807) (hsl0 : s.length ≤ 9223372036854775807) (hE : ErrV w0) (hT : Tab10 w0) (hpos : 0 < w0.heap.size) :
    CallsV Tryz.prog 9 [.slice al l.length cl, .string (strB s)] w0 (fun v w' => v = .bool true ∧ Ext w0 w') := by
 refine f_n func9 ?_
 iterate 6 refine st1 ?_
 refine x_k1 (fun _ => False) [0, 1] (fun (z9 : Bool) => [(44, .bool z9)]) (fun z9 w => (z9 = decide ((30 < l.length ∧ l.length ≤ 200) ∨ 210 < l.length ∨ (3000 < s.length ∧ s.length ≤ 120000) ∨ 120100 < s.length))) (fun K7 hK7 => ?_) ?_
 ·
  refine go ?_
  refine t_splitp 20 rfl (fun g20 => ?_) (fun g20 => ?_)
  ·
   refine go ?_
   refine t_splitp 25 rfl (fun g25 => ?_) (fun g25 => ?_)
   ·
    refine go ?_
    exact hK7 true (by first | exact (decide_eq_false (by omega)).symm | exact (decide_eq_true (by omega)).symm | exact decide_eq_decide.2 (by omega))
   refine go ?_
   refine t_splitp 30 rfl (fun g30 => ?_) (fun g30 => ?_)
   ·
    refine go ?_
    exact hK7 true (by first | exact (decide_eq_false (by omega)).symm | exact (decide_eq_true (by omega)).symm | exact decide_eq_decide.2 (by omega))
   refine go ?_
   refine t_lenS underlying9 rfl rfl rfl rfl ?_
   refine go ?_
   refine t_splitp 34 rfl (fun g34 => ?_) (fun g34 => ?_)
   ·
    refine go ?_
    refine t_lenS underlying9 rfl rfl rfl rfl ?_
    refine go ?_
    refine t_splitp 40 rfl (fun g40 => ?_) (fun g40 => ?_)
    ·
     refine go ?_
     exact hK7 true (by first | exact (decide_eq_false (by omega)).symm | exact (decide_eq_true (by omega)).symm | exact decide_eq_decide.2 (by omega))
    refine go ?_
    refine t_lenS underlying9 rfl rfl rfl rfl ?_
    refine go ?_
    exact hK7 (decide (120100 < (s.length : Int))) (by first | exact (decide_eq_false (by omega)).symm | exact (decide_eq_true (by omega)).symm | exact decide_eq_decide.2 (by omega))
   refine go ?_
   refine t_lenS underlying9 rfl rfl rfl rfl ?_
   refine go ?_
   exact hK7 (decide (120100 < (s.length : Int))) (by first | exact (decide_eq_false (by omega)).symm | exact (decide_eq_true (by omega)).symm | exact decide_eq_decide.2 (by omega))
  refine go ?_
  refine t_splitp 30 rfl (fun g30 => ?_) (fun g30 => ?_)
  ·
   refine go ?_
   exact hK7 true (by first | exact (decide_eq_false (by omega)).symm | exact (decide_eq_true (by omega)).symm | exact decide_eq_decide.2 (by omega))
  refine go ?_
  refine t_lenS underlying9 rfl rfl rfl rfl ?_
  refine go ?_
  refine t_splitp 34 rfl (fun g34 => ?_) (fun g34 => ?_)
  ·
   refine go ?_
   refine t_lenS underlying9 rfl rfl rfl rfl ?_
   refine go ?_
   refine t_splitp 40 rfl (fun g40 => ?_) (fun g40 => ?_)
   ·
    refine go ?_
    exact hK7 true (by first | exact (decide_eq_false (by omega)).symm | exact (decide_eq_true (by omega)).symm | exact decide_eq_decide.2 (by omega))
   refine go ?_
   refine t_lenS underlying9 rfl rfl rfl rfl ?_
   refine go ?_
   exact hK7 (decide (120100 < (s.length : Int))) (by first | exact (decide_eq_false (by omega)).symm | exact (decide_eq_true (by omega)).symm | exact decide_eq_decide.2 (by omega))
  refine go ?_
  refine t_lenS underlying9 rfl rfl rfl rfl ?_
  refine go ?_
  exact hK7 (decide (120100 < (s.length : Int))) (by first | exact (decide_eq_false (by omega)).symm | exact (decide_eq_true (by omega)).symm | exact decide_eq_decide.2 (by omega))
 rintro z9 w8 hz9 u9 zu9
 have E10 := Sc.mk ((Upd.refl (fun _ => False) w0).nx u9)
 refine q_b (fun g44 => ?_) fun g44 => ?_
 ·
  have hzb : ((30 < l.length ∧ l.length ≤ 200) ∨ 210 < l.length ∨ (3000 < s.length ∧ s.length ≤ 120000) ∨ 120100 < s.length) := by rw [hz9] at g44; exact of_decide_eq_true g44
  refine go ?_
  refine x_c func13 rfl rfl (known_c _ (hT.ext E10.u) (by omega)) ?_
  rintro _ w13 ⟨rfl, u14⟩ zu14
  refine go ?_
  refine f_1 results9 ?_
  exact ⟨rfl, u_d⟩
 have hzb : ¬ ((30 < l.length ∧ l.length ≤ 200) ∨ 210 < l.length ∨ (3000 < s.length ∧ s.length ≤ 120000) ∨ 120100 < s.length) := by rw [hz9] at g44; exact of_decide_eq_false g44
 refine go ?_
 refine x_l1 (fun _ => False) [0, 1] (fun (i : Nat) => [(5, .int .i64 (i : Int))]) (fun i w => (i ≤ l.length) ∧ (∀ j, j < i → (nth l j).s.length ≤ 20)) (fun i => l.length - i) 0 ⟨(Nat.zero_le _), (fun j h => absurd h (Nat.not_lt_zero _))⟩ ?_
 rintro i w20 ⟨hi, h20⟩ u21 zu21 K19 hK19
 have E22 := Sc.mk (E10.u.nx u21)
 refine go ?_
 refine q_p (fun g49 => ?_) fun g49 => ?_
 ·
  have hss9 := (hss _ (nth_mem (xs := l) (i := i) (by omega))).2
  refine go ?_
  refine g_i i (hl.keep E22.u (fun _ h => h)) (fun _ => ?_)
  refine go ?_
  refine q_p (fun g58 => ?_) fun g58 => ?_
  ·
   refine go ?_
   refine x_c func13 rfl rfl (known_c _ (hT.ext E22.u) (by omega)) ?_
   rintro _ w30 ⟨rfl, u31⟩ zu31
   refine go ?_
   refine f_1 results9 ?_
   exact ⟨rfl, u_d⟩
  refine go ?_
  exact hK19 (i + 1) ⟨(by omega), (fun j hj => by
    rcases Nat.lt_or_ge j i with h | h
    · exact h20 j h
    · rw [show j = i by omega]; omega)⟩
 have hSB : SlB w0 l := fun z hz => ⟨(hss z hz).1, by
   obtain ⟨j, hj, rfl⟩ := List.mem_iff_getElem.1 hz
   have h9 := h20 j (by omega)
   rw [nth_eq hj] at h9; omega⟩
 refine go ?_
 refine x_c func37 rfl rfl (bcopy_c l al bl ol cl _ (hl.keep E22.u (fun _ h => h)) (by omega) (hSB.ext E22.u) (by omega)) ?_
 rintro _ w36 ⟨⟨ys, a1, g1, c1, rfl, hb1, hA1, hM1⟩, u37⟩ zu37
 have E39 := Sc.mk (E22.u.nx u37)
 have lt_g1 := hA1.lt
 have hsB1 := hM1.slB
 have hyl1 : ys.length = l.length := by have h9 := congrArg List.length hb1; rwa [List.length_map, List.length_map] at h9
 have htx := textP_bare hb1
 refine go ?_
 refine x_c func38 rfl rfl (WriteBills_c ys a1 g1 0 c1 _ (hA1.sl (fun _ => rfl)) (hsB1.ext (Upd.refl (fun _ => False) _)) (by omega) (hT.ext E39.u) (by omega)) ?_
 rintro _ w42 ⟨rfl, u43⟩ zu43
 have E45 := Sc.mk (E39.u.nx u43)
 refine go ?_
 refine x_c func39 rfl rfl (ReadBills_c s _ (by omega) (hE.ext E45.u) (hT.ext E45.u) (by omega)) ?_
 rintro _ w48 ⟨⟨ms, a2, g2, c2, rfl, hb2, hA2, hM2⟩, u49⟩ zu49
 have E51 := Sc.mk (E45.u.nx u49)
 have lt_g2 := hA2.lt
 have hsB2 := hM2.slB
 refine go ?_
 refine x_c func40 rfl rfl (rWrite_c l al bl ol cl _ (hl.keep E51.u (fun _ h => h)) (hSB.ext E51.u) (by omega)) ?_
 rintro _ w54 ⟨rfl, u55⟩ zu55
 refine go ?_
 refine x_c func41 rfl rfl (rReadB_c s _ (by omega) (by omega)) ?_
 rintro _ w60 ⟨⟨ns, a3, g3, c3, rfl, hb3, hA3, hM3⟩, u61⟩ zu61
 have E63 := Sc.mk ((E51.u.nx u55).nx u61)
 have lt_g3 := hA3.lt
 have hsB3 := hM3.slB
 have hbb : ms.map Bil.bare = ns.map Bil.bare := by rw [hb2, hb3, readB_same]
 refine go ?_
 have D65 := ((((hA1.keep u43 (fun _ h => h)).keep u49 (fun _ h => h)).keep u55 (fun _ h => h)).keep u61 (fun _ h => h))
 refine x_c func42 rfl rfl (sameB_c ys l a1 g1 0 c1 al bl ol cl _ (D65.sl (fun _ => rfl)) (hl.keep E63.u (fun _ h => h)) hb1 (hsB1.ext (((((Upd.refl (fun _ => False) _).nx u43).nx u49).nx u55).nx u61)) (hSB.ext E63.u) (by omega)) ?_
 rintro _ w67 ⟨rfl, u68⟩ zu68
 iterate 4 refine st1 ?_
 refine t_same 90 (v := .bool true) rfl (congrArg Value.bool (decide_eq_true (by rw [htx]))) ?_
 refine go ?_
 refine t_bo (Bo.eqS ((textP ys).1) ((textP l).1)) rfl rfl rfl rfl (t_same 95 (v := .bool true) rfl (congrArg Value.bool (decide_eq_true (by rw [htx]))) ?_)
 iterate 5 refine st1 ?_
 refine t_same 100 (v := .bool true) rfl (congrArg Value.bool (decide_eq_true (by rw [readB_same]))) ?_
 iterate 5 refine st1 ?_
 refine t_same 105 (v := .bool true) rfl (congrArg Value.bool (decide_eq_true (by rw [readB_same]))) ?_
 refine go ?_
 have D71 := (((hA2.keep u55 (fun _ h => h)).keep u61 (fun _ h => h)).keep u68 (fun _ h => h))
 have D72 := (hA3.keep u68 (fun _ h => h))
 refine x_c func42 rfl rfl (sameB_c ms ns a2 g2 0 c2 a3 g3 0 c3 _ (D71.sl (fun _ => rfl)) (D72.sl (fun _ => rfl)) hbb (hsB2.ext ((((Upd.refl (fun _ => False) _).nx u55).nx u61).nx u68)) (hsB3.ext ((Upd.refl (fun _ => False) _).nx u68)) (by have h9 := readB_len LB s; have h8 := congrArg List.length hb2; rw [List.length_map] at h8; omega)) ?_
 rintro _ w74 ⟨rfl, u75⟩ zu75
 refine go ?_
 refine x_c func13 rfl rfl (known_c _ (hT.ext ((E63.u.nx u68).nx u75)) (by omega)) ?_
 rintro _ w79 ⟨rfl, u80⟩ zu80
 refine go ?_
 refine f_1 results9 ?_
 exact ⟨rfl, u_d⟩

end Go.Proofs.YtjdcpnaocjddoaaGreatDoor
namespace Go.Proofs.YtjdcpnaocjddoaaGreatDoor
open Go Go.RowKit Go.Proofs.Tryz
end Go.Proofs.YtjdcpnaocjddoaaGreatDoor
namespace Go.Proofs.YtjdcpnaocjddoaaGreatDoor
open Go Go.RowKit
/-! ### the witness: a world in which the listed variables hold what is told of them -/
def litC : DataW Unit → Value
  | .lit (.int k n) => .int k n
  | _ => .int .i64 0
def aggC : DataW Unit → List Value
  | .agg l => l.map litC
  | _ => []
def aggD : DataW Unit → List Value
  | .agg l => l.flatMap aggC
  | _ => []
def strC : DataW Unit → Value
  | .iface _ (.ptr (.agg [.lit (.string s)])) => .string ⟨s.toArray⟩
  | _ => .int .i64 0
def setC (cs : List Value) : Obj → Obj
  | .cells _ t f => .cells cs.toArray t f
  | o => o
noncomputable def laidWorld (os : Os) : World :=
  { World.holding Tryz.prog os ⟨#[], #[], []⟩ with heap := (((((((((World.holding Tryz.prog os ⟨#[], #[], []⟩).heap.modify 6 (setC (aggC Rows.laid_math_bits_deBruijn32tab))).modify 7 (setC (aggC Rows.laid_math_bits_deBruijn64tab))).modify 5 (setC (aggC Rows.laid_internal_strconv_uint64pow10))).modify 4 (setC (aggD Rows.laid_unicode_utf8_acceptRanges))).modify 3 (setC (aggC Rows.laid_unicode_utf8_first))).modify 2 (setC [.iface 261 (.pointer (some ⟨13, 0, none⟩))])).modify 1 (setC [.iface 261 (.pointer (some ⟨14, 0, none⟩))])).push (.cells #[strC Rows.laid_strconv_ErrRange] 263 (0, 0))).push (.cells #[strC Rows.laid_strconv_ErrSyntax] 263 (0, 0)) }
theorem laid_met (os : Os) (args : Array Value) : laidMet Tryz.prog Rows.logsCodesRow.laid ((laidWorld os).forCall (fun _ _ => 0) ⟨#[], args, []⟩).memory :=
  laidMet_of_run' 8 (by kernel_rfl) (by kernel_rfl)
theorem glob5 : Tryz.prog.globalNamed "internal/strconv.uint64pow10" = some 5 := by kernel_rfl
theorem glob5t : (Tryz.prog.globals[5]?).map (·.type) = some 266 := by kernel_rfl
theorem tab_of_laid {W : World} (h : laidMet Tryz.prog Rows.logsCodesRow.laid W) : Tab10 W := by
  have e : (Rows.laid_internal_strconv_uint64pow10 : DataW Unit) = Lib.tabData .u64 Lib.pow10Tab := by kernel_rfl
  obtain ⟨ps, ⟨_, _, _, _, _, _, _, _, _, _, ⟨_, _, _, _, _, _, _, _, _, _, ⟨g', t', cs, fuel, p, q, hg', ht', hvar, hd, _, _⟩, _⟩, _⟩, _⟩ := h
  obtain rfl := Option.some.inj (glob5.symm.trans hg')
  obtain rfl := Option.some.inj (glob5t.symm.trans ht')
  unfold Tab10 Lib.TabIs
  rw [hvar, ← Lib.cells_of_tab (t := 266) (e := 214) (n := 20) (k := .u64) (zs := Lib.pow10Tab) Tryz.underlying266 Tryz.underlying214 (by kernel_rfl) (by kernel_rfl) (by rw [← e]; exact hd)]
theorem tab_pos {w : World} (h : Tab10 w) : 0 < w.heap.size := by
  unfold Tab10 Lib.TabIs World.var? at h
  rw [glob5] at h
  simp only [Option.bind_some] at h
  rcases Nat.lt_or_ge 5 w.heap.size with q | q
  · omega
  · rw [Array.getElem?_eq_none q] at h; cases h

end Go.Proofs.YtjdcpnaocjddoaaGreatDoor
namespace Go.Proofs.YtjdcpnaocjddoaaGreatDoor
open Go Go.RowKit
theorem iface_of {W : World} {t : TypeId} {ms : Array (String × TypeId)} (ht : Tryz.prog.underlying t = some (.interface ms)) {sp : Nat → Bool} {n : Nat} {cs : List Value} {d : DataW Unit} {p : List MemPlace} (h : DataW.trod (fun _ => ()) Tryz.prog W 0 sp false n t cs = some (d, p)) : ∃ E, cs = [E] ∧ (E = .nilIface ∨ ∃ te pe, E = .iface te pe) := by
  cases n with
  | zero => simp [DataW.trod] at h
  | succ n =>
    cases cs with
    | nil => simp [DataW.trod, ht] at h
    | cons E r =>
      cases r with
      | nil =>
        refine ⟨E, rfl, ?_⟩
        cases E with
        | nilIface => exact .inl rfl
        | iface u v => exact .inr ⟨u, v, rfl⟩
        | _ => simp [DataW.trod, ht] at h
      | cons E2 r => simp [DataW.trod, ht] at h
theorem var_cell {W : World} {n : String} {g : Nat} {cs : Array Value} {E : Value} (hg : Tryz.prog.globalNamed n = some g) (hv : W.var? Tryz.prog n = some cs) (he : cs.toList = [E]) : W.cell? ⟨g, 0, none⟩ = some E := by
  unfold World.var? at hv
  rw [hg] at hv
  have hv : (match W.heap[g]? with | some (.cells cs _ _) => some cs | _ => none) = some cs := hv
  cases hh : W.heap[g]? with
  | none => rw [hh] at hv; cases hv
  | some o =>
    rw [hh] at hv
    cases o with
    | cells c t f =>
      injection hv with hv
      subst hv
      have h0 : c[0]? = some E := by rw [← Array.getElem?_toList, he]; rfl
      simp [World.cell?, hh, h0]
    | _ => cases hv
theorem globS : Tryz.prog.globalNamed "strconv.ErrSyntax" = some (layAtoi_ren.g 15) := by kernel_rfl
theorem globR : Tryz.prog.globalNamed "strconv.ErrRange" = some (layAtoi_ren.g 16) := by kernel_rfl
theorem globSt : (Tryz.prog.globals[layAtoi_ren.g 15]?).map (·.type) = some 192 := by kernel_rfl
theorem globRt : (Tryz.prog.globals[layAtoi_ren.g 16]?).map (·.type) = some 192 := by kernel_rfl
theorem err_of_laid {W : World} (h : laidMet Tryz.prog Rows.logsCodesRow.laid W) : ErrV W := by
  obtain ⟨ps, ⟨_, _, _, _, _, _, _, _, _, _, ⟨_, _, _, _, _, _, _, _, _, _, ⟨_, _, _, _, _, _, _, _, _, _, ⟨_, _, _, _, _, _, _, _, _, _, ⟨g', t', cs, fuel, p, q, hg', ht', hvar, hd, ⟨g2, t2, cs2, fuel2, p2, q2, hg2, ht2, hvar2, hd2, _, _⟩, _⟩, _⟩, _⟩, _⟩, _⟩, _⟩ := h
  obtain rfl := Option.some.inj (globR.symm.trans hg')
  obtain rfl := Option.some.inj (globRt.symm.trans ht')
  obtain rfl := Option.some.inj (globS.symm.trans hg2)
  obtain rfl := Option.some.inj (globSt.symm.trans ht2)
  obtain ⟨E1, e1, f1⟩ := iface_of Tryz.underlying192 hd
  obtain ⟨E2, e2, f2⟩ := iface_of Tryz.underlying192 hd2
  exact ⟨E2, E1, var_cell globS hvar2 e2, f2, var_cell globR hvar e1, f1⟩

end Go.Proofs.YtjdcpnaocjddoaaGreatDoor
namespace Go.Proofs.YtjdcpnaocjddoaaGreatDoor
open Go Go.RowKit

end Go.Proofs.YtjdcpnaocjddoaaGreatDoor
