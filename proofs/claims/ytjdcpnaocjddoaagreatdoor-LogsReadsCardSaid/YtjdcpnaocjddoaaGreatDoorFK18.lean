/-
  Part 18 of the proof: contracts and plain laws. Conditions: none.
-/
import Derived.Test.YtjdcpnaocjddoaaGreatDoorFK17
namespace Go.Proofs.YtjdcpnaocjddoaaGreatDoor
open Go Go.RowKit Go.Proofs.Tryz
/-! ### the reference restores a log group by group -/
def badFrom (V : List Bk) (f : Nat) : List Nat := (List.range' f (V.length - f)).filter (badB V)
theorem badFrom_zero (V : List Bk) : badFrom V 0 = badP V := by unfold badFrom badP; rw [Nat.sub_zero, List.range_eq_range']
theorem badFrom_cons {V : List Bk} {b : Nat} (h : b < V.length) : badFrom V b = if badB V b = true then b :: badFrom V (b + 1) else badFrom V (b + 1) := by
  unfold badFrom
  rw [show V.length - b = (V.length - (b + 1)) + 1 by omega, List.range'_succ, List.filter_cons]
theorem badFrom_end {V : List Bk} {f : Nat} (h : V.length ≤ f) : badFrom V f = [] := by
  unfold badFrom
  rw [show V.length - f = 0 by omega]; rfl
theorem badFrom_skip {V : List Bk} : ∀ (n f : Nat), f + n ≤ V.length → (∀ k, f ≤ k → k < f + n → badB V k = false) → badFrom V f = badFrom V (f + n)
  | 0, _, _, _ => rfl
  | n + 1, f, h, hb => by
    rw [badFrom_cons (by omega), if_neg (by rw [hb f (Nat.le_refl _) (by omega)]; decide), badFrom_skip n (f + 1) (by omega) (fun k h1 h2 => hb k (by omega) (by omega)), show f + 1 + n = f + (n + 1) by omega]
theorem badFrom_one {V : List Bk} {f b e : Nat} (h1 : f ≤ b) (h2 : b < e) (he : e ≤ V.length) (hb : badB V b = true) (hn : ∀ k, f ≤ k → k < e → k ≠ b → badB V k = false) : badFrom V f = b :: badFrom V e := by
  have e1 := badFrom_skip (V := V) (b - f) f (by omega) (fun k q1 q2 => hn k q1 (by omega) (by omega))
  rw [show f + (b - f) = b by omega] at e1
  have e2 := badFrom_skip (V := V) (e - (b + 1)) (b + 1) (by omega) (fun k q1 q2 => hn k (by omega) (by omega) (by omega))
  rw [show b + 1 + (e - (b + 1)) = e by omega] at e2
  rw [e1, badFrom_cons (by omega), if_pos hb, e2]
theorem badFrom_mem {V : List Bk} {f k : Nat} (h1 : f ≤ k) (h2 : k < V.length) (hb : badB V k = true) : k ∈ badFrom V f := by
  unfold badFrom
  rw [List.mem_filter, List.mem_range'_1]
  exact ⟨⟨h1, by omega⟩, hb⟩
theorem badFrom_sorted (V : List Bk) (f : Nat) : (badFrom V f).Pairwise (· < ·) := by
  unfold badFrom
  exact List.Pairwise.filter _ List.pairwise_lt_range'
/-- what is done when groups before f are done -/
structure RSt (V : List Bk) (f : Nat) (p : Int) (u : List Bk) (ks : List Nat) : Prop where
  len : u.length = V.length
  pl : p < (f : Int)
  same : ∀ k, f ≤ k → nth u k = nth V k
  fix : fixG (-1) V (badP V) = fixG p u (badFrom V f)
  bad : badP V = ks ++ badFrom V f
theorem RSt.nil (V : List Bk) : RSt V 0 (-1) V [] := ⟨rfl, by decide, fun _ _ => rfl, by rw [badFrom_zero], by rw [badFrom_zero]; rfl⟩
theorem RSt.skip {V u : List Bk} {f e : Nat} {p : Int} {ks : List Nat} (h : RSt V f p u ks) (h1 : f ≤ e) (he : e ≤ V.length) (hn : ∀ k, f ≤ k → k < e → badB V k = false) (e' : Nat) (h2 : e ≤ e') (h3 : badFrom V e = badFrom V e') : RSt V e' p u ks := by
  have e1 := badFrom_skip (V := V) (e - f) f (by omega) (fun k q1 q2 => hn k q1 (by omega))
  rw [show f + (e - f) = e by omega, h3] at e1
  exact ⟨h.len, by have := h.pl; omega, fun k hk => h.same k (by omega), by rw [h.fix, e1], by rw [h.bad, e1]⟩
theorem RSt.one {V u : List Bk} {f b e : Nat} {p : Int} {ks : List Nat} (h : RSt V f p u ks) (h5 : f % 5 = 0) (h1 : f ≤ b) (h2 : b < e) (hef : e = min (f + 5) V.length) (hb : badB V b = true) (hn : ∀ k, f ≤ k → k < e → k ≠ b → badB V k = false) (e' : Nat) (h4 : e ≤ e') (h3 : badFrom V e = badFrom V e') :
    RSt V e' (b : Int) (u.set b ((mixG V b f (e - f)).shutB b)) (ks ++ [b]) := by
  have hp := h.pl
  have e1 := badFrom_one h1 h2 (by omega) hb hn
  have hg : gF b = f := by unfold gF; omega
  have hr : rst u b = (mixG V b f (e - f)).shutB b := by
    unfold rst
    rw [hg, h.len, show gL V.length b + 1 - f = e - f by unfold gL gF; omega]
    congr 1
    exact mixG_congr fun o _ _ => h.same (f + o) (by omega)
  refine ⟨by rw [List.length_set]; exact h.len, by omega, fun k hk => ?_, ?_, ?_⟩
  · rw [nth_setN (by omega)]; exact h.same k (by omega)
  · rw [h.fix, e1, fix_step (by omega), hr, h3]
  · rw [h.bad, e1, h3, List.append_assoc]; rfl
theorem RSt.two {V u : List Bk} {f a b : Nat} {p : Int} {ks : List Nat} (h : RSt V f p u ks) (h1 : f ≤ a) (hab : a < b) (hb5 : gF b ≤ f) (hbl : b < V.length) (ha : badB V a = true) (hb : badB V b = true) : fixG (-1) V (badP V) = none := by
  rw [h.fix]
  exact fix_two _ _ _ (badFrom_sorted V f) a b (badFrom_mem h1 (by omega) ha) (badFrom_mem (by omega) hbl hb) hab (by omega)
theorem RSt.done {V u : List Bk} {f : Nat} {p : Int} {ks : List Nat} (h : RSt V f p u ks) (hf : V.length ≤ f) : fixG (-1) V (badP V) = some u ∧ badP V = ks := by
  have e := badFrom_end hf
  refine ⟨by rw [h.fix, e]; rfl, by rw [h.bad, e, List.append_nil]⟩
theorem badFrom_past {V : List Bk} {e f : Nat} (h : e = min (f + 5) V.length) : badFrom V e = badFrom V (f + 5) := by
  by_cases q : f + 5 ≤ V.length
  · rw [show e = f + 5 by omega]
  · rw [badFrom_end (by omega), badFrom_end (by omega)]
/-- the first j bytes are B's -/
def Bk.cpy (b B : Bk) (j : Nat) : Bk := ⟨B.l.take j ++ b.l.drop j, by have := b.h; have := B.h; rw [List.length_append, List.length_take, List.length_drop]; omega⟩
theorem cpy_zero (b B : Bk) : b.cpy B 0 = b := Bk.ext' rfl
theorem cpy_full (b B : Bk) : b.cpy B 32 = B := by
  have hb := b.h
  have hB := B.h
  apply Bk.ext'
  show B.l.take 32 ++ b.l.drop 32 = B.l
  rw [List.take_of_length_le (by omega), List.drop_of_length_le (by omega), List.append_nil]
theorem cpy_succ (b B : Bk) {j : Nat} (h : j < 32) : (b.cpy B j).put j (nth B.l j) = b.cpy B (j + 1) := by
  have hb := b.h
  have hB := B.h
  have hl : (B.l.take j).length = j := by rw [List.length_take]; omega
  apply Bk.ext'
  show (B.l.take j ++ b.l.drop j).set j (nth B.l j) = B.l.take (j + 1) ++ b.l.drop (j + 1)
  rw [List.set_append_right _ _ (by omega), hl, Nat.sub_self, drop_nth (show j < b.l.length by omega), List.set_cons_zero, take_nth (show j < B.l.length by omega), List.append_assoc]
  rfl
/-- one block more is mixed -/
theorem mixG_take {V : List Bk} {z f j : Nat} (hf : f ≤ j) : (mixG V z f (j + 1 - f)).l.take 30 = if j = z then (mixG V z f (j - f)).l.take 30 else mixK 30 ((mixG V z f (j - f)).l.take 30) ((nth V j).l.take 30) := by
  rw [show j + 1 - f = (j - f) + 1 by omega]
  conv => lhs; unfold mixG
  rw [show f + (j - f) = j by omega]
  split
  · rfl
  · rw [mix_take, mixK_fullN (blk30 _) (blk30 _)]
/-- of blocks f .. k-1 none is unsound (y is -1), or y alone -/
def Seen (V : List Bk) (f k : Nat) (y : Int) : Prop := (y = -1 ∧ ∀ i, f ≤ i → i < k → badB V i = false) ∨ ∃ z : Nat, y = (z : Int) ∧ f ≤ z ∧ z < k ∧ badB V z = true ∧ ∀ i, f ≤ i → i < k → i ≠ z → badB V i = false
theorem Seen.nil (V : List Bk) (f : Nat) : Seen V f f (-1) := .inl ⟨rfl, fun i h1 h2 => by omega⟩
theorem Seen.neg {V : List Bk} {f k : Nat} {y : Int} (h : Seen V f k y) (hy : y < 0) : ∀ i, f ≤ i → i < k → badB V i = false := by
  rcases h with ⟨_, h⟩ | ⟨z, h1, _⟩
  · exact h
  · omega
theorem Seen.pos {V : List Bk} {f k : Nat} {y : Int} (h : Seen V f k y) (hy : ¬ y < 0) : ∃ z : Nat, y = (z : Int) ∧ f ≤ z ∧ z < k ∧ badB V z = true ∧ ∀ i, f ≤ i → i < k → i ≠ z → badB V i = false := by
  rcases h with ⟨h1, _⟩ | h
  · omega
  · exact h
theorem Seen.new {V : List Bk} {f k : Nat} {y : Int} (h : Seen V f k y) (hy : y < 0) (hf : f ≤ k) (hb : badB V k = true) : Seen V f (k + 1) (k : Int) :=
  .inr ⟨k, rfl, hf, Nat.lt_succ_self k, hb, fun i h1 h2 h3 => h.neg hy i h1 (by omega)⟩
theorem Seen.ok {V : List Bk} {f k : Nat} {y : Int} (h : Seen V f k y) (hb : badB V k = false) : Seen V f (k + 1) y := by
  rcases h with ⟨h1, h2⟩ | ⟨z, h1, h2, h3, h4, h5⟩
  · refine .inl ⟨h1, fun i q1 q2 => ?_⟩
    by_cases e : i = k
    · rw [e]; exact hb
    · exact h2 i q1 (by omega)
  · refine .inr ⟨z, h1, h2, by omega, h4, fun i q1 q2 q3 => ?_⟩
    by_cases e : i = k
    · rw [e]; exact hb
    · exact h5 i q1 (by omega) q3
set_option maxHeartbeats 4000000 in
theorem rRepair_c (xs : List UInt8) (ab : Option Addr) (bb ob cb : Nat) (w0 : World) (hs : Sl encY 1 w0 ab bb ob xs) (hcb : xs.length ≤ cb) (hxl : xs.length ≤ 1000000) (hpos : 0 < w0.heap.size) :
    CallsV Tryz.prog 36 [.slice ab xs.length cb] w0 (fun v w' => (∃ a9 g9 c9 a8 g8 c8, v = .tuple #[.slice a9 (List.length (repR xs).1) c9, .slice a8 (List.length (repR xs).2.1) c8, .int .i64 (repR xs).2.2] ∧ Acc encY 1 5 w0.heap.size w' a9 g9 c9 (repR xs).1 ∧ Acc encI 1 3 w0.heap.size w' a8 g8 c8 (repR xs).2.1) ∧ Ext w0 w') := by
 refine f_n func36 ?_
 refine go ?_
 refine x_c func74 rfl rfl (length_c xs ab cb _ (by omega)) ?_
 rintro _ w5 ⟨rfl, u6⟩ zu6
 refine go ?_
 refine q_p (fun g20 => ?_) fun g20 => ?_
 ·
  refine go ?_
  refine f_ret3 (v1 := .slice none 0 0) (v2 := .slice none 0 0) (v3 := .int .i64 (opE xs)) results36 rfl rfl rfl ?_
  have he : repR xs = ([], [], opE xs) := by unfold repR; rw [if_pos g20]
  exact ⟨⟨none, 0, 0, none, 0, 0, by rw [he]; rfl, by rw [he]; exact (Acc.nil _ _ _ _ _ hpos (by omega)), by rw [he]; exact (Acc.nil _ _ _ _ _ hpos (by omega))⟩, u_d⟩
 have hE0 : opE xs = 0 := by omega
 have hok := opE_ok hE0
 have hVl : (opP xs).length = xs.length / 32 := by unfold opP; rw [if_pos hE0, blksP_len]
 refine go ?_
 refine x_l fun bk12 w13 ebk12 sbk12 B14 u15 => ?_
 have E16 := Sc.mk (((Upd.refl (fun _ => False) w0).nx u6).nx u15)
 refine go ?_
 refine t_copy (enc := encY) (z := .int .u8 0) (bytes := 1) (k := 1) (ys := xs) underlying25 (by kernel_rfl) rfl (by decide) (fun _ => rfl) (by intro x; simp [encY, Value.oneCell']) rfl rfl rfl rfl B14 (hs.keep E16.u (fun _ h => h)) (by omega) (by decide) (fun ao17 gb18 cp19 w20 A21 u22 gegb18 => ?_)
 have zu22 := u22.size
 have lt_gb18 := A21.lt
 refine x_l fun bk24 w25 ebk24 sbk24 B26 u27 => ?_
 refine go ?_
 have D31 := (A21.keep u27 (fun _ h => h))
 refine x_l5 (fun i => i = bk24 ∨ (i = gb18 ∧ bk12 ≤ i) ∨ w25.heap.size ≤ i) [0] (fun (f : Nat) (p : Int) (u : List Bk) (ks : List Nat) (q : (Option Addr × Nat × Nat)) => [(2, .slice none 0 0), (3, .slice none 0 0), (4, .int .i64 0), (6, .slice ao17 xs.length cp19), (7, .slice q.1 ((nats ks).length) q.2.2), (8, .int .i64 (f : Int))]) (fun f p u ks q w => (f % 5 = 0) ∧ (f ≤ (opP xs).length + 4) ∧ (Acc encY 1 5 bk12 w ao17 gb18 cp19 (bytesP u)) ∧ (Acc encI 1 3 bk24 w q.1 q.2.1 q.2.2 (nats ks)) ∧ (q.2.1 = bk24 ∨ w25.heap.size ≤ q.2.1) ∧ (RSt (opP xs) f p u ks)) (fun f p u ks q => (opP xs).length + 5 - f) 0 (-1) (opP xs) ([]) (some ⟨bk24, 0, none⟩, bk24, 0) ⟨rfl, (Nat.zero_le _), (by rw [opP_bytes hE0]; exact D31), (Acc.ofBlk (xs := ([] : List Int)) encI 1 (fun _ => rfl) B26 (Nat.le_refl _) (by decide)), (.inl rfl), (RSt.nil _)⟩ ?_
 rintro f p u ks q w33 ⟨hf5, hfl, hB, hA, hqW, hR⟩ u34 zu34 K32 hK32
 have lt_gb18 := hB.lt
 have lt_q_2_1 := hA.lt
 have hgl := hA.lt
 have hnl := nats_len ks
 have hul := hR.len
 have hbu := bytesP_len u
 have hkl2 : ks.length ≤ (opP xs).length := by have h9 := congrArg List.length hR.bad; rw [List.length_append] at h9; have h8 := badP_le (opP xs); omega
 refine go ?_
 refine t_quo rfl rfl rfl rfl (by omega) (by omega) (t_same 29 (v := .int .i64 ((xs.length / 32 : Nat) : Int)) rfl (congrArg (Value.int .i64) (by omega)) ?_)
 refine go ?_
 refine q_p (fun g30 => ?_) fun g30 => ?_
 ·
  obtain ⟨e, he9⟩ : ∃ e, e = min (f + 5) (opP xs).length := ⟨_, rfl⟩
  refine go ?_
  refine t_quo rfl rfl rfl rfl (by omega) (by omega) (t_same 37 (v := .int .i64 ((xs.length / 32 : Nat) : Int)) rfl (congrArg (Value.int .i64) (by omega)) (t_min rfl rfl rfl rfl (t_same 38 (v := .int .i64 (e : Int)) rfl (congrArg (Value.int .i64) (by omega)) ?_)))
  refine go ?_
  refine x_l2 (fun _ => False) [0, 6, 7, 8, 10] (fun (k : Nat) (y : Int) => [(2, .slice none 0 0), (3, .slice none 0 0), (4, .int .i64 0), (9, .int .i64 y), (11, .int .i64 (k : Int))]) (fun k y w => (f ≤ k) ∧ (k ≤ e) ∧ (Seen (opP xs) f k y)) (fun k y => e - k) f (-1) ⟨(Nat.le_refl _), (by omega), (Seen.nil _ _)⟩ ?_
  rintro k y w43 ⟨hfk, hke, hy⟩ u44 zu44 K42 hK42
  have E45 := Sc.mk ((((E16.u.next u22 (fun i hi h => by omega)).nx u27).next u34 (fun i hi h => by omega)).nx u44)
  refine go ?_
  refine q_p (fun g42 => ?_) fun g42 => ?_
  ·
   refine go ?_
   refine x_c func75 rfl rfl (soundR_c xs ab bb ob cb k _ (hs.keep E45.u (fun _ h => h)) (by omega) (by omega) (by omega) hE0 (by omega)) ?_
   rintro _ w51 ⟨rfl, u52⟩ zu52
   refine go ?_
   refine q_p (fun g48 => ?_) fun g48 => ?_
   ·
    have hbk : badB (opP xs) k = true := by unfold badB; rw [decide_eq_false g48]; rfl
    refine go ?_
    refine q_p (fun g50 => ?_) fun g50 => ?_
    ·
     obtain ⟨z, hz1, hz2, hz3, hz4, _⟩ := hy.pos (by omega)
     have htwo := hR.two hz2 hz3 (show gF k ≤ f by unfold gF; omega) (show k < (opP xs).length by omega) hz4 hbk
     refine go ?_
     refine f_ret3 (v1 := .slice none 0 0) (v2 := .slice none 0 0) (v3 := .int .i64 121) results36 rfl rfl rfl ?_
     have hE1 : ¬ opE xs ≠ 0 := by omega
     have he : repR xs = ([], [], 121) := by unfold repR; rw [if_neg hE1, htwo]
     exact ⟨⟨none, 0, 0, none, 0, 0, by rw [he]; rfl, by rw [he]; exact (Acc.nil _ _ _ _ _ hpos (by omega)), by rw [he]; exact (Acc.nil _ _ _ _ _ hpos (by omega))⟩, u_d⟩
    refine go ?_
    exact hK42 (k + 1) (k : Int) ⟨(by omega), (by omega), (hy.new (by omega) hfk hbk)⟩
   have hbk : badB (opP xs) k = false := by unfold badB; rw [decide_eq_true (Decidable.not_not.1 g48)]; rfl
   refine go ?_
   exact hK42 (k + 1) y ⟨(by omega), (by omega), (hy.ok hbk)⟩
  refine go ?_
  refine q_p (fun g53 => ?_) fun g53 => ?_
  ·
   have hz0 := hy.neg (by omega)
   refine go ?_
   have D60 := (hB.keep u44 (fun _ h => h))
   have D61 := (hA.keep u44 (fun _ h => h))
   exact hK32 (f + 5) p u ks q ⟨(by omega), (by omega), D60, D61, (show q.2.1 = bk24 ∨ w25.heap.size ≤ q.2.1 by omega), (hR.skip (by omega) (by omega) (fun k h1 h2 => hz0 k h1 (by omega)) (f + 5) (by omega) (badFrom_past he9))⟩ (hs := by exact ⟨rfl, rfl, rfl, rfl, (by first | rfl | (rw [← nats_snoc]; rfl)), rfl, rfl, trivial⟩)
  obtain ⟨z, hyz, hz1⟩ := hy.pos (by omega)
  have hke9 : k = e := by omega
  subst hyz
  obtain ⟨hz1a, hz1b, hz1c, hz1d⟩ := hz1
  have hz1 := And.intro hz1a (And.intro hz1b (And.intro hz1c hz1d))
  refine go ?_
  refine t_makeN (enc := encY) (z := .int .u8 0) (bytes := 1) (k := 1) (n := 30) (0 : UInt8) underlying25 (by kernel_rfl) rfl (by decide) (fun _ => rfl) (by decide) rfl rfl rfl rfl rfl (by decide) (fun bp63 w64 ebp63 sbp63 P65 u66 => ?_)
  have lt_bp63 := P65.lt
  refine go ?_
  refine x_l1 (fun i => i = bp63) [0, 2, 3, 4, 6, 7, 8, 9, 10, 12] (fun (j : Nat) => [(13, .int .i64 (j : Int))]) (fun j w => (f ≤ j) ∧ (j ≤ e) ∧ (Acc encY 1 5 bp63 w (some ⟨bp63, 0, none⟩) bp63 30 ((mixG (opP xs) z f (j - f)).l.take 30))) (fun j => e - j) f ⟨(Nat.le_refl _), (by omega), (by rw [Nat.sub_self]; show Acc _ _ _ _ _ _ _ _ (zeroBk.l.take 30); rw [zero30]; exact P65)⟩ ?_
  rintro j w71 ⟨hfj, hje, hPr⟩ u72 zu72 K70 hK70
  have lt_bp63 := hPr.lt
  have hp30 := blk30 (mixG (opP xs) z f (j - f))
  have hd30 := blk30 (nth (opP xs) j)
  refine go ?_
  refine q_p (fun g58 => ?_) fun g58 => ?_
  ·
   refine go ?_
   refine x_l1 (fun i => i = bp63) [0, 2, 3, 4, 6, 7, 8, 9, 10, 12, 13] (fun (c : Nat) => [(14, .int .i64 (c : Int))]) (fun c w => (c ≤ 30) ∧ (j = z → c = 0) ∧ (Acc encY 1 5 bp63 w (some ⟨bp63, 0, none⟩) bp63 30 (mixK c ((mixG (opP xs) z f (j - f)).l.take 30) ((nth (opP xs) j).l.take 30)))) (fun c => 30 - c) 0 ⟨(Nat.zero_le _), (fun _ => rfl), hPr⟩ ?_
   rintro c w79 ⟨hc9, hcz, hPb⟩ u80 zu80 K78 hK78
   have lt_bp63 := hPb.lt
   have hmxl := mixK_lenN hp30 hd30 hc9
   refine st1 ?_
   refine x_k1 (fun _ => False) [0, 2, 3, 4, 6, 7, 8, 9, 10, 12, 13, 14] (fun (z9 : Bool) => [(67, .bool z9)]) (fun z9 w => (z9 = decide (c < 30 ∧ j ≠ z))) (fun K87 hK87 => ?_) ?_
   ·
    refine go ?_
    refine t_splitp 63 rfl (fun g63 => ?_) (fun g63 => ?_)
    ·
     refine go ?_
     exact hK87 (decide ((j : Int) ≠ (z : Int))) (by first | exact (decide_eq_false (by omega)).symm | exact (decide_eq_true (by omega)).symm | exact decide_eq_decide.2 (by omega))
    refine go ?_
    exact hK87 false (by first | exact (decide_eq_false (by omega)).symm | exact (decide_eq_true (by omega)).symm | exact decide_eq_decide.2 (by omega))
   rintro z9 w88 hz9 u89 zu89
   refine q_b (fun g67 => ?_) fun g67 => ?_
   ·
    have hzc : (c < 30 ∧ j ≠ z) := by rw [hz9] at g67; exact of_decide_eq_true g67
    have hblt := hs.lt (by omega)
    have hxn : nth xs (32 * j + c) = nth (nth (opP xs) j).l c := by rw [opP_nth hE0 (by omega), nth_takeL (by omega), nth_drop]
    refine go ?_
    refine c_drawnM follows (fun i => i = bp63) (OTl [0, 2, 4, 6, 8, 12, 14, 16, 18, 20, 22, 24, 11, 26, 28, 31]) (by kernel_rfl) fun w92 u93 => ?_
    have zu93 := u93.size
    refine go ?_
    have D95 := ((hPb.keep u89 (fun _ h => h)).keep u93 (fun _ h => h))
    refine y_i c (D95.sl (fun _ => rfl)) (fun _ => ?_)
    refine go ?_
    refine y_i (32 * j + c) (hs.keep (((((E45.u.nx u66).next u72 (fun i hi h => by omega)).next u80 (fun i hi h => by omega)).nx u89).nx u93) (fun _ h => h)) (fun _ => ?_) (hj := (by omega))
    refine go ?_
    refine y_bo (Bo.xor8 (nth (mixK c ((mixG (opP xs) z f (j - f)).l.take 30) ((nth (opP xs) j).l.take 30)) c) (nth xs (32 * j + c))) rfl rfl rfl rfl ?_
    refine y_i c (D95.sl (fun _ => rfl)) (fun _ => ?_)
    refine go ?_
    refine t_storeA (vs := [.int .u8 (((nth (mixK c ((mixG (opP xs) z f (j - f)).l.take 30) ((nth (opP xs) j).l.take 30)) c) ^^^ (nth xs (32 * j + c))).toNat : Int)]) (j := c) (o' := 0) (k := 1) ((nth (mixK c ((mixG (opP xs) z f (j - f)).l.take 30) ((nth (opP xs) j).l.take 30)) c) ^^^ (nth xs (32 * j + c))) (fun _ => rfl) sizeOf5 rfl rfl (by omega) rfl D95 (by first | omega | (simp only [List.length_set, eRuns_len]; omega)) rfl rfl (by decide) (by simp [Value.oneCell']) rfl (fun w99 R101 u100 => ?_)
    have zu100 := u100.size
    refine go ?_
    have hst9 : (mixK c ((mixG (opP xs) z f (j - f)).l.take 30) ((nth (opP xs) j).l.take 30)).set c (nth (mixK c ((mixG (opP xs) z f (j - f)).l.take 30) ((nth (opP xs) j).l.take 30)) c ^^^ nth xs (32 * j + c)) = mixK (c + 1) ((mixG (opP xs) z f (j - f)).l.take 30) ((nth (opP xs) j).l.take 30) := by rw [show nth xs (32 * j + c) = nth ((nth (opP xs) j).l.take 30) c by rw [nth_takeL (show c < 30 by omega)]; exact hxn, mixK_nthN hp30 hd30 (show c < 30 by omega), mixK_stepN hp30 hd30 (show c < 30 by omega)]
    exact hK78 (c + 1) ⟨(by omega), (fun h => absurd h hzc.2), (by rw [← hst9]; exact R101)⟩
   have hzc : ¬ (c < 30 ∧ j ≠ z) := by rw [hz9] at g67; exact of_decide_eq_false g67
   refine go ?_
   have hst8 : (mixG (opP xs) z f (j + 1 - f)).l.take 30 = (mixK c ((mixG (opP xs) z f (j - f)).l.take 30) ((nth (opP xs) j).l.take 30)) := by
     rw [mixG_take hfj]
     by_cases q9 : j = z
     · rw [if_pos q9, hcz q9, mixK_zero]
     · rw [if_neg q9, show c = 30 by omega]
   have D103 := (hPb.keep u89 (fun _ h => h))
   exact hK70 (j + 1) ⟨(by omega), (by omega), (by rw [hst8]; exact D103)⟩
  refine go ?_
  refine x_c func55 rfl rfl (by have h9 := rBlock_c ((mixG (opP xs) z f (e - f)).l.take 30) (some ⟨bp63, 0, none⟩) bp63 0 30 z _ (by have h8 := hPr; rw [show j = e by omega] at h8; exact h8.sl (fun _ => rfl)) (blk30 _) (by omega) (by omega); rw [shutB_mk, blk30] at h9; exact h9) ?_
  rintro _ w107 ⟨⟨ak105, gk105, ck105, rfl, hFk105⟩, u108⟩ zu108
  have lt_gk105 := hFk105.lt
  refine go ?_
  have D113 := ((((hB.keep u44 (fun _ h => h)).keep u66 (fun _ h => h)).keep u72 (fun hb => show ¬ (gb18 = bp63) by first | omega | assumption)).keep u108 (fun _ h => h))
  refine x_l1 (fun i => (i = gb18 ∧ bk12 ≤ i)) [0, 2, 3, 4, 6, 7, 8, 9, 15] (fun (i : Nat) => [(16, .int .i64 (i : Int))]) (fun i w => (i ≤ 32) ∧ (Acc encY 1 5 bk12 w ao17 gb18 cp19 (bytesP (u.set z ((nth u z).cpy ((mixG (opP xs) z f (e - f)).shutB z) i))))) (fun i => 32 - i) 0 ⟨(Nat.zero_le _), (by rw [cpy_zero, set_self (by omega)]; exact D113)⟩ ?_
  rintro i w115 ⟨hi, hBf⟩ u116 zu116 K114 hK114
  have lt_gb18 := hBf.lt
  have hbF := bytesP_len (u.set z ((nth u z).cpy ((mixG (opP xs) z f (e - f)).shutB z) i))
  rw [List.length_set] at hbF
  have hbl9 := ((mixG (opP xs) z f (e - f)).shutB z).h
  refine go ?_
  refine q_p (fun g89 => ?_) fun g89 => ?_
  ·
   refine go ?_
   have D121 := (hFk105.keep u116 (fun hb => show ¬ ((gk105 = gb18 ∧ bk12 ≤ gk105)) by first | omega | assumption))
   refine g_i i (D121.sl (fun _ => rfl)) (fun _ => ?_)
   refine go ?_
   refine g_i (32 * z + i) (hBf.sl (fun _ => rfl)) (fun _ => ?_) (hj := (by omega))
   refine t_storeA (vs := [.int .u8 ((nth (((mixG (opP xs) z f (e - f)).shutB z).l) i).toNat : Int)]) (j := (32 * z + i)) (o' := 0) (k := 1) (nth (((mixG (opP xs) z f (e - f)).shutB z).l) i) (fun _ => rfl) sizeOf5 rfl rfl (by omega) rfl hBf (by first | omega | (simp only [List.length_set, eRuns_len]; omega)) rfl rfl (by decide) (by simp [Value.oneCell']) rfl (fun w124 R126 u125 => ?_)
   have zu125 := u125.size
   refine go ?_
   have hst9 : (bytesP (u.set z ((nth u z).cpy ((mixG (opP xs) z f (e - f)).shutB z) i))).set (32 * z + i) (nth ((mixG (opP xs) z f (e - f)).shutB z).l i) = (bytesP (u.set z ((nth u z).cpy ((mixG (opP xs) z f (e - f)).shutB z) (i + 1)))) := by rw [bytesP_put _ _ z i (by rw [List.length_set]; omega) (by omega), nth_setE (by omega), set_setE, cpy_succ _ _ (by omega)]
   exact hK114 (i + 1) ⟨(by omega), (by rw [← hst9]; exact R126)⟩
  have hi32 : i = 32 := by omega
  rw [hi32, cpy_full] at hBf
  have hbG := bytesP_len (u.set z ((mixG (opP xs) z f (e - f)).shutB z))
  rw [List.length_set] at hbG
  have lt_gb18 := hBf.lt
  refine go ?_
  refine x_l fun bk128 w129 ebk128 sbk128 B130 u131 => ?_
  have D133 := ((((((hA.keep u44 (fun _ h => h)).keep u66 (fun _ h => h)).keep u72 (fun hb => show ¬ (q.2.1 = bp63) by first | omega | assumption)).keep u108 (fun _ h => h)).keep u116 (fun hb => show ¬ ((q.2.1 = gb18 ∧ bk12 ≤ q.2.1)) by first | omega | assumption)).keep u131 (fun _ h => h))
  refine t_append (z := .int .i64 0) (bytes := 8) (k := 1) (base := bk24) (z : Int) underlying59 (by kernel_rfl) rfl (by decide) (fun _ => rfl) (by intro x; simp [encI, Value.oneCell']) rfl rfl rfl rfl D133 B130 (by omega) (by omega) (by decide) (fun ao134 gb135 cp136 w137 A138 u139 gegb135 lngb135 => ?_)
  have zu139 := u139.size
  have lt_gb135 := A138.lt
  refine go ?_
  have D141 := ((hBf.keep u131 (fun _ h => h)).keep u139 (fun hb => show ¬ ((gb18 = q.2.1 ∧ bk24 ≤ gb18)) by first | omega | assumption))
  exact hK32 (f + 5) (z : Int) (u.set z ((mixG (opP xs) z f (e - f)).shutB z)) (ks ++ [z]) (ao134, gb135, cp136) ⟨(by omega), (by omega), D141, (by rw [← nats_snoc]; exact A138), (show gb135 = bk24 ∨ w25.heap.size ≤ gb135 by omega), (hR.one hf5 hz1.1 (by omega) he9 hz1.2.2.1 (fun k h1 h2 h3 => hz1.2.2.2 k h1 (by omega) h3) (f + 5) (by omega) (badFrom_past he9))⟩ (hs := by exact ⟨rfl, rfl, rfl, rfl, (by first | rfl | (rw [← nats_snoc]; rfl)), rfl, rfl, trivial⟩)
 refine go ?_
 refine f_ret3 (v1 := .slice ao17 xs.length cp19) (v2 := .slice q.1 ((nats ks).length) q.2.2) (v3 := .int .i64 0) results36 rfl rfl rfl ?_
 have hE1 : ¬ opE xs ≠ 0 := by omega
 obtain ⟨hd1, hd2⟩ := hR.done (by omega)
 have he : repR xs = (bytesP u, nats ks, 0) := by unfold repR; rw [if_neg hE1, hd1, hd2]
 have hxb : xs.length = (bytesP u).length := by omega
 obtain ⟨gz, hz⟩ := Acc.lower (base' := w0.heap.size) hB (by omega) hpos
 obtain ⟨gy, hy⟩ := Acc.lower (base' := w0.heap.size) hA (by omega) hpos
 exact ⟨⟨ao17, gz, cp19, q.1, gy, q.2.2, by rw [he, hxb], by rw [he]; exact hz, by rw [he]; exact hy⟩, u_d⟩

end Go.Proofs.YtjdcpnaocjddoaaGreatDoor
namespace Go.Proofs.YtjdcpnaocjddoaaGreatDoor
open Go Go.RowKit Go.Proofs.Tryz
theorem own71 : Own Tryz.prog 71 := ⟨Tryz.f71, func71, by kernel_rfl, by kernel_rfl⟩
theorem own72 : Own Tryz.prog 72 := ⟨Tryz.f72, func72, by kernel_rfl, by kernel_rfl⟩

theorem scode_c (s : Scr) (bs : Nat) (w0 : World) (hS : Blk w0 bs 133 [.string (strB s.r), .bool s.b]) (hl : s.r.length ≤ 1000000) :
    CallsV Tryz.prog 71 [.pointer (some ⟨bs, 0, none⟩)] w0 (fun v w' => v = .int .i64 (cdV s) ∧ Blk w' bs 133 [.string (strB (cdS s).r), .bool (cdS s).b] ∧ Upd (fun i => i = bs) w0 w') := by
 have lt_bs := hS.lt
 refine f_n func71 ?_
 refine go ?_
 refine x_c func26 rfl rfl (Decode_c s.r _ (by omega)) ?_
 rintro _ w4 ⟨rfl, u5⟩ zu5
 refine go ?_
 refine q_p (fun g16 => ?_) fun g16 => ?_
 ·
  have hdz : ¬ (decP s.r).2.2 = 0 := by omega
  have hcs : cdS s = ⟨s.r, true⟩ := by unfold cdS; rw [if_neg hdz]
  have hcv : cdV s = 0 := by unfold cdV; rw [if_neg hdz]
  refine go ?_
  refine x_s fun w11 sw11 B13 u12 => ?_
  refine go ?_
  refine f_1 results71 ?_
  rw [hcs, hcv]
  exact ⟨rfl, B13, u_d⟩
 have hdz : (decP s.r).2.2 = 0 := by omega
 have hdo := decP_ok hdz
 have hcs : cdS s = ⟨s.r.drop (decP s.r).2.1.toNat, s.b⟩ := by unfold cdS; rw [if_pos hdz]
 have hcv : cdV s = (decP s.r).1 := by unfold cdV; rw [if_pos hdz]
 refine go ?_
 refine t_subS ((decP s.r).2.1.toNat) s.r.length underlying9 rfl rfl rfl (.inl ⟨rfl, rfl, by first | rfl | omega⟩) (.inr ⟨rfl, rfl⟩) (k' := .i64) (n := 0) (x2 := .tmp 0) (by omega) (by omega) (t_same 26 (v := .string (strB (s.r.drop (decP s.r).2.1.toNat))) rfl (congrArg (fun z => Value.string (strB z)) (List.take_of_length_le (by rw [List.length_drop]; omega))) ?_)
 refine go ?_
 refine x_s fun w17 sw17 B19 u18 => ?_
 refine go ?_
 refine f_1 results71 ?_
 rw [hcs, hcv]
 exact ⟨rfl, B19, u_d⟩

set_option maxHeartbeats 4000000 in
theorem sentry_c (s : Scr) (m : Int) (bs : Nat) (w0 : World) (hS : Blk w0 bs 133 [.string (strB s.r), .bool s.b]) (hl : s.r.length ≤ 1000000) (hbt : bitL s.r) (hm : 0 ≤ m ∧ m ≤ 1000000000000000) :
    CallsV Tryz.prog 72 [.pointer (some ⟨bs, 0, none⟩), .int .i64 m] w0 (fun v w' => v = .agg #[.int .i64 (entV s m).m, .int .i64 (entV s m).k, .int .i64 (entV s m).h, .int .i64 (entV s m).p, .int .i64 (entV s m).b, .int .i64 (entV s m).t] ∧ Blk w' bs 133 [.string (strB (entS s).r), .bool (entS s).b] ∧ Upd (fun i => i = bs) w0 w') := by
 have lt_bs := hS.lt
 obtain ⟨hm0, hm1⟩ := hm
 refine f_n func72 ?_
 refine go ?_
 refine x_n fun bk2 w3 ebk2 sbk2 B4 u5 => ?_
 refine go ?_
 refine t_lenS underlying9 rfl rfl rfl rfl ?_
 refine go ?_
 refine q_p (fun g10 => ?_) fun g10 => ?_
 ·
  refine go ?_
  refine x_s fun w10 sw10 B12 u11 => ?_
  refine go ?_
  refine x_s fun w15 sw15 B17 u16 => ?_
  refine go ?_
  refine f_ret1 (v := .agg #[.int .i64 0, .int .i64 0, .int .i64 0, .int .i64 0, .int .i64 0, .int .i64 0]) results72 ⟨_, _, rfl, run_loadVarN (vs := [.int .i64 0, .int .i64 0, .int .i64 0, .int .i64 0, .int .i64 0, .int .i64 0]) isAgg43 sizeOf43 rfl (B17.at.sub 0 6)⟩ ?_
  have B19 := (B12.keep u16 (by omega))
  have e0 : s.r.length < 2 := by omega
  have e1 : entV s m = ⟨0, 0, 0, 0, 0, 0⟩ := by unfold entV; rw [if_pos e0]
  have e2 : entS s = ⟨s.r, true⟩ := by unfold entS; rw [if_pos e0]
  rw [e1, e2]
  exact ⟨rfl, B19, u_d⟩
 have hb0 := bit_nth hbt (show 0 < s.r.length by omega)
 have hb1 := bit_nth hbt (show 1 < s.r.length by omega)
 unfold d48 at hb0 hb1
 have hkn : knd s = 1 + 2 * (((nth s.r 0).toNat : Int) - 48) + (((nth s.r 1).toNat : Int) - 48) := rfl
 have hl2 : (s2_ s).r.length + 2 = s.r.length := by show (s.r.drop 2).length + 2 = _; rw [List.length_drop]; omega
 refine go ?_
 refine c_drawnM follows (fun i => i = bk2) (OTl [0, 2, 4, 6, 8, 10, 12, 14, 16, 18, 20, 22, 24, 26, 28, 30, 32, 34, 37]) (by kernel_rfl) fun w21 u22 => ?_
 have zu22 := u22.size
 refine go ?_
 refine y_idxS 0 underlying9 rfl rfl rfl rfl rfl (by omega) (y_bo (Bo.ari8 rfl (by omega)) rfl rfl rfl rfl (y_conv underlying5 underlying41 rfl rfl rfl (IntWalk.i64_in _ (by omega)) (y_bo (Bo.shl1 (by omega)) rfl rfl rfl rfl ?_)))
 refine go ?_
 refine y_idxS 1 underlying9 rfl rfl rfl rfl rfl (by omega) (y_bo (Bo.ari8 rfl (by omega)) rfl rfl rfl rfl (y_conv underlying5 underlying41 rfl rfl rfl (IntWalk.i64_in _ (by omega)) ?_))
 refine st1 ?_
 refine y_same 31 (v := .int .i64 (knd s)) rfl (congrArg (Value.int .i64) (by rw [hkn])) ?_
 refine go ?_
 refine x_s fun w24 sw24 B26 u25 => ?_
 refine go ?_
 refine t_subS 2 s.r.length underlying9 rfl rfl rfl (.inl ⟨rfl, rfl, by first | rfl | omega⟩) (.inr ⟨rfl, rfl⟩) (k' := .i64) (n := 0) (x2 := .tmp 0) (by omega) (by omega) (t_same 38 (v := .string (strB ((s2_ s).r))) rfl (congrArg (fun z => Value.string (strB z)) (List.take_of_length_le (by rw [List.length_drop]; omega))) ?_)
 refine go ?_
 refine x_s fun w29 sw29 B31 u30 => ?_
 refine go ?_
 refine t_call own71 rfl rfl rfl rfl (scode_c (s2_ s) bs _ B31 (by omega)) (fun v35 w36 r38 => ?_)
 obtain ⟨rfl, hSs34, u37⟩ := r38
 have zu37 := u37.size
 have hvs34 := cdV_r (s2_ s)
 have hls34 := cdS_r (s2_ s)
 refine go ?_
 refine t_call own71 rfl rfl rfl rfl (scode_c (cdS (s2_ s)) bs _ hSs34 (by omega)) (fun v41 w42 r44 => ?_)
 obtain ⟨rfl, hSs40, u43⟩ := r44
 have zu43 := u43.size
 have hvs40 := cdV_r (cdS (s2_ s))
 have hls40 := cdS_r (cdS (s2_ s))
 refine go ?_
 refine x_s fun w46 sw46 B48 u47 => ?_
 refine go ?_
 refine x_s fun w50 sw50 B52 u51 => ?_
 refine go ?_
 refine x_c func95 rfl rfl (isPlace_c (knd s) _) ?_
 rintro _ w57 ⟨rfl, u58⟩ zu58
 refine go ?_
 refine q_b (fun g52 => ?_) fun g52 => ?_
 ·
  refine go ?_
  have B62 := (((hSs40.keep u47 (by omega)).keep u51 (by omega)).kx u58)
  refine t_call own71 rfl rfl rfl rfl (scode_c (cdS (cdS (s2_ s))) bs _ B62 (by omega)) (fun v64 w65 r67 => ?_)
  obtain ⟨rfl, hSs63, u66⟩ := r67
  have zu66 := u66.size
  have hvs63 := cdV_r (cdS (cdS (s2_ s)))
  have hls63 := cdS_r (cdS (cdS (s2_ s)))
  refine go ?_
  refine x_s fun w69 sw69 B71 u70 => ?_
  refine go ?_
  refine x_s fun w74 sw74 B76 u75 => ?_
  refine go ?_
  refine f_ret1 (v := .agg #[.int .i64 (m + (cdV (s2_ s))), .int .i64 (knd s), .int .i64 (1 + (cdV (cdS (s2_ s)))), .int .i64 (cdV (cdS (cdS (s2_ s)))), .int .i64 0, .int .i64 0]) results72 ⟨_, _, rfl, run_loadVarN (vs := [.int .i64 (m + (cdV (s2_ s))), .int .i64 (knd s), .int .i64 (1 + (cdV (cdS (s2_ s)))), .int .i64 (cdV (cdS (cdS (s2_ s)))), .int .i64 0, .int .i64 0]) isAgg43 sizeOf43 rfl (B76.at.sub 0 6)⟩ ?_
  have B78 := ((hSs63.keep u70 (by omega)).keep u75 (by omega))
  have e0 : ¬ s.r.length < 2 := by omega
  have e1 : entV s m = ⟨m + cdV (s2_ s), knd s, 1 + cdV (cdS (s2_ s)), cdV (cdS (cdS (s2_ s))), 0, 0⟩ := by unfold entV; rw [if_neg e0, if_pos g52]
  have e2 : entS s = (cdS (cdS (cdS (s2_ s)))) := by unfold entS; rw [if_neg e0, if_pos g52]
  rw [e1, e2]
  exact ⟨rfl, B78, u_d⟩
 refine go ?_
 have B80 := (((hSs40.keep u47 (by omega)).keep u51 (by omega)).kx u58)
 refine t_call own71 rfl rfl rfl rfl (scode_c (cdS (cdS (s2_ s))) bs _ B80 (by omega)) (fun v82 w83 r85 => ?_)
 obtain ⟨rfl, hSs81, u84⟩ := r85
 have zu84 := u84.size
 have hvs81 := cdV_r (cdS (cdS (s2_ s)))
 have hls81 := cdS_r (cdS (cdS (s2_ s)))
 refine go ?_
 refine t_call own71 rfl rfl rfl rfl (scode_c (cdS (cdS (cdS (s2_ s)))) bs _ hSs81 (by omega)) (fun v88 w89 r91 => ?_)
 obtain ⟨rfl, hSs87, u90⟩ := r91
 have zu90 := u90.size
 have hvs87 := cdV_r (cdS (cdS (cdS (s2_ s))))
 have hls87 := cdS_r (cdS (cdS (cdS (s2_ s))))
 refine go ?_
 refine x_s fun w93 sw93 B95 u94 => ?_
 refine go ?_
 refine x_s fun w97 sw97 B99 u98 => ?_
 refine go ?_
 refine x_s fun w102 sw102 B104 u103 => ?_
 refine go ?_
 refine f_ret1 (v := .agg #[.int .i64 (m + (cdV (s2_ s))), .int .i64 (knd s), .int .i64 (1 + (cdV (cdS (s2_ s)))), .int .i64 0, .int .i64 (1 + (cdV (cdS (cdS (s2_ s))))), .int .i64 (1 + (cdV (cdS (cdS (cdS (s2_ s))))))]) results72 ⟨_, _, rfl, run_loadVarN (vs := [.int .i64 (m + (cdV (s2_ s))), .int .i64 (knd s), .int .i64 (1 + (cdV (cdS (s2_ s)))), .int .i64 0, .int .i64 (1 + (cdV (cdS (cdS (s2_ s))))), .int .i64 (1 + (cdV (cdS (cdS (cdS (s2_ s))))))]) isAgg43 sizeOf43 rfl (B104.at.sub 0 6)⟩ ?_
 have B106 := (((hSs87.keep u94 (by omega)).keep u98 (by omega)).keep u103 (by omega))
 have e0 : ¬ s.r.length < 2 := by omega
 have e1 : entV s m = ⟨m + cdV (s2_ s), knd s, 1 + cdV (cdS (s2_ s)), 0, 1 + cdV (cdS (cdS (s2_ s))), 1 + cdV (cdS (cdS (cdS (s2_ s))))⟩ := by unfold entV; rw [if_neg e0, if_neg (by rw [g52]; decide)]
 have e2 : entS s = (cdS (cdS (cdS (cdS (s2_ s))))) := by unfold entS; rw [if_neg e0, if_neg (by rw [g52]; decide)]
 rw [e1, e2]
 exact ⟨rfl, B106, u_d⟩

end Go.Proofs.YtjdcpnaocjddoaaGreatDoor
namespace Go.Proofs.YtjdcpnaocjddoaaGreatDoor
open Go Go.RowKit Go.Proofs.Tryz
theorem y_ldY {rd : Option Nat} {P : Program} {ops : Array Oper} {Q : Exit → Act → World → Prop} {N : Nat} {ds : List Deferred} {T : Nat → Prop} {w1 : World} {L : Slots} {w : World} {rest : OX} {d : Nat} {ty : TypeId} {pos : String} {aft : Array Edge} {g : Option (Nat × Bool)} {t : TypeId} {x : Operand} {n b off : Nat} {l : List UInt8} (ha : ∀ w, (isAgg t).run P w = .ok true w) (hs : ∀ w, (sizeOf t).run P w = .ok n w) (hg : grd ops L g = true) (hN : Nat.blt d N = true)
    (hx : ev L x = some (.pointer (some ⟨b, off, none⟩))) (hc : At w1 b off (ys l)) (hl : l.length = n) (hn : ¬ T b)
    (h : SC rd P ops Q N ds w1 (SW w1.heap.size T) rest ((d, .agg (ys l).toArray) :: L) w) : SC rd P ops Q N ds w1 (SW w1.heap.size T) (.look ⟨some d, .load t x, ty, pos, aft, g⟩ rest) L w :=
  y_loadN ha hs hg hN hx hc (by rw [ys_length]; exact hl) hn h

set_option maxHeartbeats 4000000 in
theorem tape_c (v : List Bk) (av : Option Addr) (bv ov cv : Nat) (w0 : World) (hv : Sl encBk 32 w0 av bv ov v) (hvl : v.length ≤ 1300) (hpos : 0 < w0.heap.size) :
    CallsV Tryz.prog 70 [.slice av v.length cv] w0 (fun v' w' => (∃ a9 g9 c9, v' = .slice a9 (List.length (tapB v v.length)) c9 ∧ Acc encY 1 5 w0.heap.size w' a9 g9 c9 (tapB v v.length)) ∧ Ext w0 w') := by
 refine f_n func70 ?_
 refine go ?_
 refine x_n fun bk2 w3 ebk2 sbk2 B4 u5 => ?_
 have hN7 : Acc encY 1 5 w3.heap.size w3 none 0 0 ([] : List UInt8) := Acc.nil _ _ _ _ _ (by omega) (Nat.le_refl _)
 have lt_0 := hN7.lt
 refine go ?_
 refine x_l5 (fun i => i = bk2 ∨ (i = 0 ∧ w3.heap.size ≤ i)) [0, 2, 9, 10] (fun (k : Nat) (a1 : Option Addr) (g1 : Nat) (c1 : Nat) (cur : List UInt8) => [(11, .int .i64 (k : Int))]) (fun k a1 g1 c1 cur w => Blk w bk2 118 [.slice a1 cur.length c1] ∧ (k ≤ v.length) ∧ (Acc encY 1 5 w3.heap.size w a1 g1 c1 cur) ∧ (cur = tapB v k) ∧ ((g1 = 0 ∨ w3.heap.size ≤ g1))) (fun k a1 g1 c1 cur => v.length - k) 0 none 0 0 ([] : List UInt8) ⟨B4, (Nat.zero_le _), hN7, rfl, (.inl rfl)⟩ ?_
 rintro k a1 g1 c1 cur w11 ⟨I13, hk, hA, hcu, hg1⟩ u12 zu12 K10 hK10
 have E14 := Sc.mk (((Upd.refl (fun _ => False) w0).nx u5).next u12 (fun i hi h => by omega))
 have lt_g1 := hA.lt
 have htb := (tapB_len v k).1
 have hcl := congrArg List.length hcu
 refine go ?_
 refine q_p (fun g12 => ?_) fun g12 => ?_
 ·
  have h30 := blk30 (nth v k)
  refine go ?_
  refine g_i k (hv.keep E14.u (fun _ h => h)) (fun _ => ?_)
  refine t_ldY (l := (nth v k).l) isAgg124 sizeOf124 rfl rfl rfl ((hv.keep E14.u (fun _ h => h)).at_ k (by omega)) (Bk.h (nth v k)) (t_alloc (cs := (ys (List.replicate 32 (0 : UInt8)))) zeroValue124 (by kernel_rfl) rfl rfl (fun bk20 w21 ebk20 sbk20 B22 u23 => ?_))
  refine go ?_
  refine t_stY sizeOf124 rfl rfl rfl B22 (Bk.h (nth v k)) (by rw [ys_length]; exact (by first | omega | simp | assumption)) (fun w25 sw25 B27 u26 => ?_)
  refine go ?_
  refine x_c func67 rfl rfl (group_c v.length k av cv _ (by omega) (by omega)) ?_
  rintro _ w32 ⟨rfl, u33⟩ zu33
  refine go ?_
  refine q_p (fun g24 => ?_) fun g24 => ?_
  ·
   refine go ?_
   have B37 := (((I13.kx u23).keep u26 (by omega)).kx u33)
   have D38 := (((hA.keep u23 (fun _ h => h)).keep u26 (fun hb => show ¬ (g1 = bk20) by first | omega | assumption)).keep u33 (fun _ h => h))
   exact hK10 (k + 1) a1 g1 c1 cur ⟨B37, (by omega), D38, (by show _ = tapB v k ++ tapG v v.length k; unfold tapG; rw [if_pos (by omega), List.append_nil]; exact hcu), (by omega)⟩
  refine go ?_
  refine t_arrS 0 30 underlying124 sizeOf5 rfl rfl rfl (.inr ⟨rfl, rfl⟩) (k := .i64) (m := 0) (x1 := .tmp 0) (.inl ⟨rfl, rfl, rfl⟩) (by omega) (by omega) (by omega) (t_same 25 (v := .slice (some ⟨bk20, 0 + 0 * 1, none⟩) (((nth v k).l.take 30).length) 32) rfl (by rw [h30]) ?_)
  refine go ?_
  have D40 := (((hA.keep u23 (fun _ h => h)).keep u26 (fun hb => show ¬ (g1 = bk20) by first | omega | assumption)).keep u33 (fun _ h => h))
  have B41 := (((I13.kx u23).keep u26 (by omega)).kx u33)
  refine x_l5 (fun i => i = bk2 ∨ (i = g1 ∧ w3.heap.size ≤ i)) [0, 2, 9, 10, 11, 25, 26] (fun (j : Nat) (a2 : Option Addr) (g2 : Nat) (c2 : Nat) (cur2 : List UInt8) => [(27, .int .i64 (j : Int))]) (fun j a2 g2 c2 cur2 w => Blk w bk2 118 [.slice a2 cur2.length c2] ∧ (j ≤ 30) ∧ (Acc encY 1 5 w3.heap.size w a2 g2 c2 cur2) ∧ (cur2 = (tapB v k ++ digs (((nth v k).l.take 30).take j))) ∧ ((g2 = g1 ∨ w32.heap.size ≤ g2))) (fun j a2 g2 c2 cur2 => 30 - j) 0 a1 g1 c1 cur ⟨B41, (Nat.zero_le _), D40, (by rw [hcu]; exact (List.append_nil _).symm), (.inl rfl)⟩ ?_
  rintro j a2 g2 c2 cur2 w43 ⟨I45, hj, hA2, hcu2, hg2⟩ u44 zu44 K42 hK42
  have lt_g2 := hA2.lt
  have hcl2 := congrArg List.length hcu2
  rw [List.length_append, digs_len, List.length_take, h30] at hcl2
  have hub := (nth ((nth v k).l.take 30) j).toNat_lt
  refine go ?_
  refine q_p (fun g28 => ?_) fun g28 => ?_
  ·
   refine go ?_
   have B51 := ((B27.kx u33).keep u44 (by omega))
   refine g_i j (by have h9 := (B51).at.ysub 0 30; rw [List.drop_zero] at h9; exact SlY.at (B51).lt h9) (fun _ => ?_)
   refine go ?_
   refine t_conv underlying5 underlying120 rfl rfl rfl (IntWalk.u64_in _ (by omega)) ?_
   refine x_c func94 rfl rfl (put_c ((nth ((nth v k).l.take 30) j).toNat) 8 bk2 w3.heap.size a2 g2 c2 cur2 _ I45 hA2 (by omega) (by omega) (by omega) (by omega) (by omega)) ?_
   rintro v54 w55 ⟨⟨at53, gt53, ct53, hBt53, hAt53, hGt53⟩, u56⟩ zu56
   have lt_gt53 := hAt53.lt
   refine go ?_
   exact hK42 (j + 1) at53 gt53 ct53 (cur2 ++ putP ((nth ((nth v k).l.take 30) j).toNat) 8) ⟨hBt53, (by omega), hAt53, (by rw [take_nth (show j < ((nth v k).l.take 30).length by omega), digs_app, ← List.append_assoc, ← hcu2]; show _ = cur2 ++ (putP _ 8 ++ []); rw [List.append_nil]), (by omega)⟩
  refine go ?_
  exact hK10 (k + 1) a2 g2 c2 cur2 ⟨I45, (by omega), hA2, (by rw [hcu2, show j = 30 by omega, List.take_of_length_le (by rw [blk30]; decide)]; show _ = tapB v k ++ tapG v v.length k; unfold tapG; rw [if_neg (by omega)]), (by omega)⟩
 refine go ?_
 refine x_s fun w60 sw60 B62 u61 => ?_
 refine go ?_
 refine f_ret1 (v := .slice a1 cur.length c1) results70 ⟨_, _, rfl, run_loadVar1 isAgg118 (B62.get rfl)⟩ ?_
 have D64 := (hA.keep u61 (fun hb => show ¬ (g1 = bk2) by first | omega | assumption))
 have hfin : cur = tapB v v.length := by rw [hcu, show k = v.length by omega]
 obtain ⟨gz, hz⟩ := Acc.lower (base' := w0.heap.size) D64 (by omega) hpos
 rw [hfin] at hz
 exact ⟨⟨a1, gz, c1, by rw [hfin], hz⟩, u_d⟩

theorem tapeE_c (v : List Bk) (av : Option Addr) (bv ov cv : Nat) (w0 : World) (hv : Sl encBk 32 w0 av bv ov v) (hvl : v.length ≤ 1300) (hpos : 0 < w0.heap.size) :
    CallsV Tryz.prog 70 [.slice av v.length cv] w0 fun v' w' => (∃ T a9 g9 c9, v' = .slice a9 (List.length T) c9 ∧ Acc encY 1 5 w0.heap.size w' a9 g9 c9 T ∧ T = tapB v v.length) ∧ Ext w0 w' :=
  CallsV.mono (tape_c v av bv ov cv w0 hv hvl hpos) (by rintro v' w' ⟨⟨a, g, c, rfl, h⟩, u⟩; exact ⟨⟨_, a, g, c, rfl, h, rfl⟩, u⟩)

theorem eqBk_c (a b : List Bk) (aa : Option Addr) (ba oa ca : Nat) (ab : Option Addr) (bb ob cb : Nat) (w0 : World) (ha : Sl encBk 32 w0 aa ba oa a) (hb : Sl encBk 32 w0 ab bb ob b) (hal : a.length ≤ 1000000) :
    CallsV Tryz.prog 73 [.slice aa a.length ca, .slice ab b.length cb] w0 (fun v w' => v = .bool (decide (a = b)) ∧ Ext w0 w') := by
 refine f_n func73 ?_
 refine go ?_
 refine q_p (fun g10 => ?_) fun g10 => ?_
 ·
  refine go ?_
  refine f_1 results73 ?_
  exact ⟨congrArg Value.bool (decide_eq_false (fun e => g10 (by rw [e]))).symm, u_d⟩
 refine go ?_
 refine x_l1 (fun _ => False) [0, 1, 12] (fun (j : Nat) => [(13, .int .i64 (j : Int))]) (fun j w => (j ≤ a.length) ∧ (a.take j = b.take j)) (fun j => a.length - j) 0 ⟨(Nat.zero_le _), rfl⟩ ?_
 rintro j w8 ⟨hj, he⟩ u9 zu9 K7 hK7
 refine go ?_
 refine q_p (fun g14 => ?_) fun g14 => ?_
 ·
  refine go ?_
  refine c_drawnM follows (fun _ => False) (OTl [0, 2, 4, 6, 8, 10, 12, 14, 16]) (by kernel_rfl) fun w16 u17 => ?_
  have zu17 := u17.size
  have E18 := Sc.mk (((Upd.refl (fun _ => False) w0).nx u9).nx u17)
  refine go ?_
  refine y_i j (ha.keep E18.u (fun _ h => h)) (fun _ => ?_)
  refine y_ldY (l := (nth a j).l) isAgg124 sizeOf124 rfl rfl rfl ((ha.keep E18.u (fun _ h => h)).at_ j (by omega)) (Bk.h (nth a j)) (fun h => h) ?_
  refine go ?_
  refine y_i j (hb.keep E18.u (fun _ h => h)) (fun _ => ?_)
  refine y_ldY (l := (nth b j).l) isAgg124 sizeOf124 rfl rfl rfl ((hb.keep E18.u (fun _ h => h)).at_ j (by omega)) (Bk.h (nth b j)) (fun h => h) (y_neS (xs := ys (nth a j).l) (ys := ys (nth b j).l) (by kernel_rfl) (run_eqArrY underlying124 (by kernel_rfl) underlying5 isAgg5 (by kernel_rfl) (Bk.h _) (Bk.h _)) rfl rfl rfl rfl ?_)
  refine go ?_
  refine q_b (fun g24 => ?_) fun g24 => ?_
  ·
   have hq : ¬ (nth a j = nth b j) := fun e => absurd g24 (by rw [e]; simp)
   refine go ?_
   refine f_1 results73 ?_
   exact ⟨congrArg Value.bool (decide_eq_false (nth_take_ne hq)).symm, u_d⟩
  have hq : (nth a j = nth b j) := Bk.ext' (by simpa using g24)
  refine go ?_
  exact hK7 (j + 1) ⟨(by omega), (take_eq he (by omega) (by omega) hq)⟩
 refine go ?_
 refine f_1 results73 ?_
 have hab : a = b := by
   rw [List.take_of_length_le (by omega), List.take_of_length_le (by omega)] at he
   exact he
 exact ⟨congrArg Value.bool (decide_eq_true hab).symm, u_d⟩

end Go.Proofs.YtjdcpnaocjddoaaGreatDoor
namespace Go.Proofs.YtjdcpnaocjddoaaGreatDoor
open Go Go.RowKit Go.Proofs.Tryz
set_option maxHeartbeats 4000000 in
theorem ReadLog_c (xs : List UInt8) (ab : Option Addr) (bb ob cb : Nat) (w0 : World) (hs : Sl encY 1 w0 ab bb ob xs) (hcb : xs.length ≤ cb) (hxl : xs.length ≤ 1000000) (hpos : 0 < w0.heap.size) :
    CallsV Tryz.prog 34 [.slice ab xs.length cb] w0 (fun v w' => (∃ a9 g9 c9, v = .tuple #[.slice a9 (List.length (readR xs).1) c9, .int .i64 (readR xs).2.1, .int .i64 (readR xs).2.2] ∧ Acc encEnt 6 43 w0.heap.size w' a9 g9 c9 (readR xs).1) ∧ Ext w0 w') := by
 refine f_n func34 ?_
 refine go ?_
 refine x_c func65 rfl rfl (open_c xs ab bb ob cb _ hs hcb (by omega) (by omega)) ?_
 rintro _ w4 ⟨⟨aO, gO, cO, rfl, hFO⟩, u5⟩ zu5
 have lt_gO := hFO.lt
 refine go ?_
 refine q_p (fun g16 => ?_) fun g16 => ?_
 ·
  refine go ?_
  refine f_ret3 (v1 := .slice none 0 0) (v2 := .int .i64 0) (v3 := .int .i64 (opE xs)) results34 rfl rfl rfl ?_
  have he : readR xs = ([], 0, opE xs) := by unfold readR; rw [if_pos g16]
  exact ⟨⟨none, 0, 0, by rw [he]; rfl, by rw [he]; exact (Acc.nil _ _ _ _ _ hpos (by omega))⟩, u_d⟩
 have hE0 : opE xs = 0 := by omega
 have hok := opE_ok hE0
 have hVl : (opP xs).length = xs.length / 32 := by unfold opP; rw [if_pos hE0, blksP_len]
 have hglO := hFO.lt
 refine go ?_
 refine x_l1 (fun _ => False) [5, 19] (fun (k : Nat) => [(2, .slice none 0 0), (20, .int .i64 (k : Int))]) (fun k w => (k ≤ (opP xs).length) ∧ (∀ i, i < k → badB (opP xs) i = false)) (fun k => (opP xs).length - k) 0 ⟨(Nat.zero_le _), (fun i h => absurd h (Nat.not_lt_zero _))⟩ ?_
 rintro k w14 ⟨hk, hgd⟩ u15 zu15 K13 hK13
 refine go ?_
 refine q_p (fun g21 => ?_) fun g21 => ?_
 ·
  refine go ?_
  have D22 := (hFO.keep u15 (fun _ h => h))
  refine g_i k (D22.sl encBk_len) (fun _ => ?_)
  refine go ?_
  refine x_c func66 rfl rfl (isSound_c gO (0 + k * 32) ((nth (opP xs) k).l) k _ (Bk.h _) ((D22.sl encBk_len).at_ k (by omega)) (by omega) (by omega)) ?_
  rintro _ w25 ⟨rfl, u26⟩ zu26
  refine go ?_
  refine q_p (fun g28 => ?_) fun g28 => ?_
  ·
   refine go ?_
   refine f_ret3 (v1 := .slice none 0 0) (v2 := .int .i64 (k : Int)) (v3 := .int .i64 121) results34 rfl rfl rfl ?_
   have hE1 : ¬ opE xs ≠ 0 := by omega
   obtain ⟨r9, hr9⟩ := badP_head (v := (opP xs)) (k := k) (by omega) (by unfold badB; rw [decide_eq_false g28]; rfl) hgd
   have he : readR xs = ([], (k : Int), 121) := by unfold readR; rw [if_neg hE1, hr9]
   exact ⟨⟨none, 0, 0, by rw [he]; rfl, by rw [he]; exact (Acc.nil _ _ _ _ _ hpos (by omega))⟩, u_d⟩
  refine go ?_
  exact hK13 (k + 1) ⟨(by omega), (fun i hi => by rcases Nat.lt_or_eq_of_le (Nat.le_of_lt_succ hi) with h | h; exact hgd i h; rw [h]; unfold badB; rw [decide_eq_true (Decidable.not_not.1 g28)]; rfl)⟩
 have hbn : badP (opP xs) = [] := badP_nil (fun i hi => hgd i (by omega))
 refine go ?_
 have D31 := (hFO.keep u15 (fun _ h => h))
 refine x_c func70 rfl rfl (tapeE_c (opP xs) aO gO 0 cO _ (D31.sl encBk_len) (by omega) (by omega)) ?_
 rintro _ w33 ⟨⟨T9, aT, gT, cT, rfl, hFT, hT9⟩, u34⟩ zu34
 have lt_gT := hFT.lt
 have htb := tapB_len (opP xs) (opP xs).length
 rw [← hT9] at htb
 obtain ⟨hTl, hTb⟩ := htb
 obtain ⟨s0, hs0⟩ : ∃ s : Scr, s = ⟨T9, false⟩ := ⟨_, rfl⟩
 have hp0 : parP T9 = parN (cdV s0 + 1).toNat (cdS s0) 0 [] := by rw [hs0]; rfl
 have hs0l : s0.r.length = T9.length := by rw [hs0]
 have hs0b : bitL s0.r := by rw [hs0]; exact hTb
 refine t_ofB underlying118 underlying5 underlying9 rfl rfl rfl (hFT.sl (fun _ => rfl)) rfl ?_
 refine go ?_
 refine x_b fun bk37 w38 ebk37 sbk37 B39 u40 => ?_
 refine go ?_
 have hB0 : Blk w38 bk37 133 [.string (strB s0.r), .bool s0.b] := by rw [hs0]; exact B39
 refine go ?_
 refine t_call own71 rfl rfl rfl rfl (scode_c s0 bk37 _ hB0 (by omega)) (fun v45 w46 r48 => ?_)
 obtain ⟨rfl, hSs44, u47⟩ := r48
 have zu47 := u47.size
 have hvs44 := cdV_r s0
 have hls44 := cdS_r s0
 refine st1 ?_
 refine t_same 38 (v := .int .i64 (((cdV s0 + 1).toNat : Nat) : Int)) rfl (congrArg (Value.int .i64) (by have h9 := cdV_r s0; omega)) ?_
 refine go ?_
 refine x_l5 (fun i => i = bk37 ∨ w46.heap.size ≤ i) [5, 7] (fun (n : Nat) (s : Scr) (m : Int) (E : List Ent) (q : (Option Addr × Nat × Nat)) => [(2, .slice q.1 E.length q.2.2), (8, .int .i64 m), (9, .int .i64 (n : Int))]) (fun n s m E q w => Blk w bk37 133 [.string (strB s.r), .bool s.b] ∧ (parP T9 = parN n s m E) ∧ (Acc encEnt 6 43 w0.heap.size w q.1 q.2.1 q.2.2 E) ∧ (q.2.1 = 0 ∨ w46.heap.size ≤ q.2.1) ∧ (bitL s.r) ∧ (2 * E.length + s.r.length ≤ T9.length + 2) ∧ (s.b = true ∨ 2 * E.length + s.r.length ≤ T9.length) ∧ (0 ≤ m ∧ m ≤ 1000000000 * (E.length : Int)) ∧ (n ≤ 1000000001)) (fun n s m E q => n) ((cdV s0 + 1).toNat) (cdS s0) 0 ([]) (none, 0, 0) ⟨hSs44, hp0, (Acc.nil _ _ _ _ _ hpos (by omega)), (.inl rfl), ((cdS_r s0).2.2 hs0b), (by have h9 := (cdS_r s0).1; simp only [List.length_nil]; omega), (.inr (by have h9 := (cdS_r s0).1; simp only [List.length_nil]; omega)), ⟨Int.le_refl 0, by decide⟩, (by have h9 := cdV_r s0; omega)⟩ ?_ (h0 := by exact ⟨rfl, rfl, (congrArg (fun z => some (Value.int .i64 z)) (by have h9 := cdV_r s0; omega)), rfl, rfl, trivial⟩)
 rintro n s m E q w51 ⟨I53, hpn, hA, hqW, hbt, hle, hle2, hm9, hn9⟩ u52 zu52 K50 hK50
 have lt_q_2_1 := hA.lt
 have hgl := hA.lt
 refine go ?_
 refine t_splitp 41 rfl (fun g41 => ?_) (fun g41 => ?_)
 ·
  refine go ?_
  refine q_b (fun g47 => ?_) fun g47 => ?_
  ·
   have hsb : s.b = false := by simpa using g47
   have hle3 : 2 * E.length + s.r.length ≤ T9.length := hle2.resolve_left (by rw [hsb]; decide)
   refine go ?_
   refine t_call own72 rfl rfl rfl rfl (sentry_c s m bk37 _ I53 (by omega) hbt (by omega)) (fun v60 w61 r63 => ?_)
   obtain ⟨rfl, hSs59, u62⟩ := r63
   have zu62 := u62.size
   have hes := entS_r s
   have hem := entV_m s m (by omega)
   refine x_l fun bk65 w66 ebk65 sbk65 B67 u68 => ?_
   have D70 := ((hA.keep u62 (fun hb => show ¬ (q.2.1 = bk37) by first | omega | assumption)).keep u68 (fun _ h => h))
   refine t_append (z := .agg #[.int .i64 0, .int .i64 0, .int .i64 0, .int .i64 0, .int .i64 0, .int .i64 0]) (bytes := 48) (k := 6) (base := w0.heap.size) (entV s m) underlying22 (by kernel_rfl) rfl (by decide) (fun _ => rfl) (by intro x; simp [encEnt, Value.oneCell']) rfl rfl rfl rfl D70 B67 (by omega) (by omega) (by decide) (fun ao71 gb72 cp73 w74 A75 u76 gegb72 lngb72 => ?_)
   have zu76 := u76.size
   have lt_gb72 := A75.lt
   refine go ?_
   refine g_i E.length (A75.sl (fun _ => rfl)) (fun _ => ?_) (hj := (by rw [List.length_append]; simp only [List.length_cons, List.length_nil]; omega))
   iterate 2 refine st1 ?_
   refine t_same 62 (v := .int .i64 ((entV s m).m)) rfl (congrArg (Value.int .i64) (by rw [nth_app_r (Nat.le_refl _), Nat.sub_self]; rfl)) ?_
   refine go ?_
   have hEl : (E ++ [entV s m]).length = E.length + 1 := by rw [List.length_append]; rfl
   have hn1 : n = (n - 1) + 1 := by omega
   have B79 := ((hSs59.kx u68).keep u76 (by omega))
   exact hK50 (n - 1) (entS s) ((entV s m).m) (E ++ [entV s m]) (ao71, gb72, cp73) ⟨B79, (by rw [hpn]; exact (congrArg (fun z => parN z s m E) hn1).trans (parN_step hsb)), A75, (show gb72 = 0 ∨ w46.heap.size ≤ gb72 by omega), (hes.2.2.2 hbt), (by rw [hEl]; omega), (by rw [hEl]; rcases Nat.lt_or_ge s.r.length 2 with h | h; exact .inl (hes.2.2.1 h); exact .inr (by have h9 := hes.2.1 h; omega)), (by rw [hEl]; omega), (by omega)⟩ (hs := by exact ⟨rfl, rfl, (congrArg (fun z => some (Value.int .i64 z)) (by omega)), rfl, rfl, trivial⟩)
  refine go ?_
  refine t_split 67 rfl (fun g67 => ?_) (fun g67 => ?_)
  ·
   refine go ?_
   refine f_ret3 (v1 := .slice none 0 0) (v2 := .int .i64 0) (v3 := .int .i64 4) results34 rfl rfl rfl ?_
   have hE1 : ¬ opE xs ≠ 0 := by omega
   have hpf : parP T9 = (E, s) := by rw [hpn]; first | (rw [show n = 0 by omega]; rfl) | exact parN_stop (by simpa using g47)
   rw [hT9] at hpf
   have he : readR xs = ([], 0, 4) := by unfold readR; rw [if_neg hE1, hbn]; show (if _ then _ else _) = _; rw [hpf, if_pos (.inl g67)]
   exact ⟨⟨none, 0, 0, by rw [he]; rfl, by rw [he]; exact (Acc.nil _ _ _ _ _ hpos (by omega))⟩, u_d⟩
  refine go ?_
  refine x_c func49 rfl rfl (checkEntries_c E q.1 q.2.1 0 q.2.2 _ (hA.sl (fun _ => rfl)) (by omega)) ?_
  rintro _ w85 ⟨rfl, u86⟩ zu86
  refine go ?_
  refine t_splitp 72 rfl (fun g72 => ?_) (fun g72 => ?_)
  ·
   refine go ?_
   refine f_ret3 (v1 := .slice none 0 0) (v2 := .int .i64 0) (v3 := .int .i64 4) results34 rfl rfl rfl ?_
   have hE1 : ¬ opE xs ≠ 0 := by omega
   have hpf : parP T9 = (E, s) := by rw [hpn]; first | (rw [show n = 0 by omega]; rfl) | exact parN_stop (by simpa using g47)
   rw [hT9] at hpf
   have he : readR xs = ([], 0, 4) := by unfold readR; rw [if_neg hE1, hbn]; show (if _ then _ else _) = _; rw [hpf, if_pos (.inr (.inl g72))]
   exact ⟨⟨none, 0, 0, by rw [he]; rfl, by rw [he]; exact (Acc.nil _ _ _ _ _ hpos (by omega))⟩, u_d⟩
  refine go ?_
  have D90 := (hA.keep u86 (fun _ h => h))
  refine x_c func50 rfl rfl (write_c E q.1 q.2.1 0 q.2.2 _ (D90.sl (fun _ => rfl)) (by omega)) ?_
  rintro _ w92 ⟨⟨aW, gW, cW, rfl, hFW⟩, u93⟩ zu93
  have lt_gW := hFW.lt
  have hwl := writeP_len (show chkE E = 0 by omega)
  refine go ?_
  have D96 := ((((((D31.keep u34 (fun _ h => h)).keep u40 (fun _ h => h)).keep u47 (fun hb => show ¬ (gO = bk37) by first | omega | assumption)).keep u52 (fun hb => show ¬ (gO = bk37 ∨ w46.heap.size ≤ gO) by first | omega | assumption)).keep u86 (fun _ h => h)).keep u93 (fun _ h => h))
  refine x_c func73 rfl rfl (eqBk_c (writeP E) (opP xs) aW gW 0 cW aO gO 0 cO _ (hFW.sl encBk_len) (D96.sl encBk_len) (by omega)) ?_
  rintro _ w98 ⟨rfl, u99⟩ zu99
  refine go ?_
  refine q_p (fun g78 => ?_) fun g78 => ?_
  ·
   refine go ?_
   refine f_ret3 (v1 := .slice none 0 0) (v2 := .int .i64 0) (v3 := .int .i64 4) results34 rfl rfl rfl ?_
   have hE1 : ¬ opE xs ≠ 0 := by omega
   have hpf : parP T9 = (E, s) := by rw [hpn]; first | (rw [show n = 0 by omega]; rfl) | exact parN_stop (by simpa using g47)
   rw [hT9] at hpf
   have he : readR xs = ([], 0, 4) := by unfold readR; rw [if_neg hE1, hbn]; show (if _ then _ else _) = _; rw [hpf, if_pos (.inr (.inr g78))]
   exact ⟨⟨none, 0, 0, by rw [he]; rfl, by rw [he]; exact (Acc.nil _ _ _ _ _ hpos (by omega))⟩, u_d⟩
  refine go ?_
  refine f_ret3 (v1 := .slice q.1 E.length q.2.2) (v2 := .int .i64 0) (v3 := .int .i64 0) results34 rfl rfl rfl ?_
  have D104 := ((D90.keep u93 (fun _ h => h)).keep u99 (fun _ h => h))
  have hE1 : ¬ opE xs ≠ 0 := by omega
  have hpf : parP T9 = (E, s) := by rw [hpn]; first | (rw [show n = 0 by omega]; rfl) | exact parN_stop (by simpa using g47)
  rw [hT9] at hpf
  have he : readR xs = (E, 0, 0) := by unfold readR; rw [if_neg hE1, hbn]; show (if _ then _ else _) = _; rw [hpf, if_neg (fun h => h.elim (fun h => by rw [h] at g67; cases g67) (fun h => h.elim (fun h => g72 h) (fun h => g78 h)))]
  exact ⟨⟨q.1, q.2.1, q.2.2, by rw [he], by rw [he]; exact D104⟩, u_d⟩
 refine go ?_
 refine t_split 67 rfl (fun g67 => ?_) (fun g67 => ?_)
 ·
  refine go ?_
  refine f_ret3 (v1 := .slice none 0 0) (v2 := .int .i64 0) (v3 := .int .i64 4) results34 rfl rfl rfl ?_
  have hE1 : ¬ opE xs ≠ 0 := by omega
  have hpf : parP T9 = (E, s) := by rw [hpn]; first | (rw [show n = 0 by omega]; rfl) | exact parN_stop (by simpa using g47)
  rw [hT9] at hpf
  have he : readR xs = ([], 0, 4) := by unfold readR; rw [if_neg hE1, hbn]; show (if _ then _ else _) = _; rw [hpf, if_pos (.inl g67)]
  exact ⟨⟨none, 0, 0, by rw [he]; rfl, by rw [he]; exact (Acc.nil _ _ _ _ _ hpos (by omega))⟩, u_d⟩
 refine go ?_
 refine x_c func49 rfl rfl (checkEntries_c E q.1 q.2.1 0 q.2.2 _ (hA.sl (fun _ => rfl)) (by omega)) ?_
 rintro _ w110 ⟨rfl, u111⟩ zu111
 refine go ?_
 refine t_splitp 72 rfl (fun g72 => ?_) (fun g72 => ?_)
 ·
  refine go ?_
  refine f_ret3 (v1 := .slice none 0 0) (v2 := .int .i64 0) (v3 := .int .i64 4) results34 rfl rfl rfl ?_
  have hE1 : ¬ opE xs ≠ 0 := by omega
  have hpf : parP T9 = (E, s) := by rw [hpn]; first | (rw [show n = 0 by omega]; rfl) | exact parN_stop (by simpa using g47)
  rw [hT9] at hpf
  have he : readR xs = ([], 0, 4) := by unfold readR; rw [if_neg hE1, hbn]; show (if _ then _ else _) = _; rw [hpf, if_pos (.inr (.inl g72))]
  exact ⟨⟨none, 0, 0, by rw [he]; rfl, by rw [he]; exact (Acc.nil _ _ _ _ _ hpos (by omega))⟩, u_d⟩
 refine go ?_
 have D115 := (hA.keep u111 (fun _ h => h))
 refine x_c func50 rfl rfl (write_c E q.1 q.2.1 0 q.2.2 _ (D115.sl (fun _ => rfl)) (by omega)) ?_
 rintro _ w117 ⟨⟨aW, gW, cW, rfl, hFW⟩, u118⟩ zu118
 have lt_gW := hFW.lt
 have hwl := writeP_len (show chkE E = 0 by omega)
 refine go ?_
 have D121 := ((((((D31.keep u34 (fun _ h => h)).keep u40 (fun _ h => h)).keep u47 (fun hb => show ¬ (gO = bk37) by first | omega | assumption)).keep u52 (fun hb => show ¬ (gO = bk37 ∨ w46.heap.size ≤ gO) by first | omega | assumption)).keep u111 (fun _ h => h)).keep u118 (fun _ h => h))
 refine x_c func73 rfl rfl (eqBk_c (writeP E) (opP xs) aW gW 0 cW aO gO 0 cO _ (hFW.sl encBk_len) (D121.sl encBk_len) (by omega)) ?_
 rintro _ w123 ⟨rfl, u124⟩ zu124
 refine go ?_
 refine q_p (fun g78 => ?_) fun g78 => ?_
 ·
  refine go ?_
  refine f_ret3 (v1 := .slice none 0 0) (v2 := .int .i64 0) (v3 := .int .i64 4) results34 rfl rfl rfl ?_
  have hE1 : ¬ opE xs ≠ 0 := by omega
  have hpf : parP T9 = (E, s) := by rw [hpn]; first | (rw [show n = 0 by omega]; rfl) | exact parN_stop (by simpa using g47)
  rw [hT9] at hpf
  have he : readR xs = ([], 0, 4) := by unfold readR; rw [if_neg hE1, hbn]; show (if _ then _ else _) = _; rw [hpf, if_pos (.inr (.inr g78))]
  exact ⟨⟨none, 0, 0, by rw [he]; rfl, by rw [he]; exact (Acc.nil _ _ _ _ _ hpos (by omega))⟩, u_d⟩
 refine go ?_
 refine f_ret3 (v1 := .slice q.1 E.length q.2.2) (v2 := .int .i64 0) (v3 := .int .i64 0) results34 rfl rfl rfl ?_
 have D129 := ((D115.keep u118 (fun _ h => h)).keep u124 (fun _ h => h))
 have hE1 : ¬ opE xs ≠ 0 := by omega
 have hpf : parP T9 = (E, s) := by rw [hpn]; first | (rw [show n = 0 by omega]; rfl) | exact parN_stop (by simpa using g47)
 rw [hT9] at hpf
 have he : readR xs = (E, 0, 0) := by unfold readR; rw [if_neg hE1, hbn]; show (if _ then _ else _) = _; rw [hpf, if_neg (fun h => h.elim (fun h => by rw [h] at g67; cases g67) (fun h => h.elim (fun h => g72 h) (fun h => g78 h)))]
 exact ⟨⟨q.1, q.2.1, q.2.2, by rw [he], by rw [he]; exact D129⟩, u_d⟩

end Go.Proofs.YtjdcpnaocjddoaaGreatDoor
namespace Go.Proofs.YtjdcpnaocjddoaaGreatDoor
open Go Go.RowKit Go.Proofs.Tryz
end Go.Proofs.YtjdcpnaocjddoaaGreatDoor
