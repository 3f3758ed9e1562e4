/-
  Part 14 of the proof: contracts and plain laws. Conditions: none.
-/
import Derived.RangeFuncNested
import Derived.RangeFuncBound
import Derived.RangeFuncLeaves
import Derived.Test.YtjdcpnaocjddoaaGreatDoorFK13
namespace Go.Proofs.YtjdcpnaocjddoaaGreatDoor
open Go Go.RowKit
/-! ### a log's closed form: chunks of 240 digits, blocks out of them, groups of four blocks and their parity -/
def nextG (s : List Bk × Bk) (d : Bk) : List Bk × Bk :=
  if (s.1.length + 1) % 5 = 4 then (s.1 ++ [d.shutB s.1.length] ++ [(s.2.mix d).shutB (s.1.length + 1)], zeroBk) else (s.1 ++ [d.shutB s.1.length], s.2.mix d)
def endG (s : List Bk × Bk) : List Bk := if s.1.length % 5 ≠ 0 then s.1 ++ [s.2.shutB s.1.length] else s.1
def putBits (d : Bk) (n : Nat) : List UInt8 → Bk
  | [] => d
  | c :: r => putBits (putBit d n c) (n + 1) r
def blkOf (c : List UInt8) : Bk := putBits zeroBk 0 c
def chunkN : Nat → List UInt8 → List (List UInt8)
  | 0, t => [t]
  | n + 1, t => if t.length ≤ 240 then [t] else t.take 240 :: chunkN n (t.drop 240)
/-- digits in chunks of 240 -/
def chunk (t : List UInt8) : List (List UInt8) := chunkN t.length t
theorem chunkN_eq : ∀ (n : Nat) (t : List UInt8), t.length ≤ n → chunkN n t = if t.length ≤ 240 then [t] else t.take 240 :: chunk (t.drop 240) := by
  have key : ∀ (n m : Nat) (t : List UInt8), t.length ≤ n → t.length ≤ m → chunkN n t = chunkN m t := by
    intro n
    induction n with
    | zero =>
      intro m t h _
      cases m with
      | zero => rfl
      | succ m => show [t] = _; unfold chunkN; rw [if_pos (by omega)]
    | succ n ih =>
      intro m t h1 h2
      cases m with
      | zero => conv => lhs; unfold chunkN
                rw [if_pos (by omega)]; rfl
      | succ m =>
        conv => lhs; unfold chunkN
        conv => rhs; unfold chunkN
        split
        · rfl
        · rw [ih m (t.drop 240) (by rw [List.length_drop]; omega) (by rw [List.length_drop]; omega)]
  intro n t h
  rw [key n (t.length + 1) t h (by omega)]
  conv => lhs; unfold chunkN
  split
  · rfl
  · rw [key t.length (t.drop 240).length (t.drop 240) (by rw [List.length_drop]; omega) (Nat.le_refl _)]; rfl
theorem chunk_eq (t : List UInt8) : chunk t = if t.length ≤ 240 then [t] else t.take 240 :: chunk (t.drop 240) := chunkN_eq t.length t (Nat.le_refl _)
theorem nextF_eq (s : Fs) : nextF s = ⟨(nextG (s.v, s.p) s.d).1, (nextG (s.v, s.p) s.d).2, zeroBk, 0⟩ := by
  unfold nextF nextG
  split <;> rfl
theorem stepF_lt {s : Fs} (h : s.n ≠ 240) (c : UInt8) : stepF s c = ⟨s.v, s.p, putBit s.d s.n c, s.n + 1⟩ := by
  unfold stepF fullF; rw [if_neg h]
theorem fold_step : ∀ (t : List UInt8) (s : Fs), s.n + t.length ≤ 240 → t.foldl stepF s = ⟨s.v, s.p, putBits s.d s.n t, s.n + t.length⟩
  | [], s, _ => rfl
  | c :: r, s, h => by
    have h : s.n + (r.length + 1) ≤ 240 := h
    rw [List.foldl_cons, stepF_lt (by omega), fold_step r _ (by show s.n + 1 + r.length ≤ 240; omega)]
    show (⟨s.v, s.p, putBits (putBit s.d s.n c) (s.n + 1) r, s.n + 1 + r.length⟩ : Fs) = ⟨s.v, s.p, putBits s.d s.n (c :: r), s.n + (c :: r).length⟩
    congr 1
    rw [List.length_cons]; omega
theorem fill_chunks : ∀ (n : Nat) (t : List UInt8) (s : Fs), t.length ≤ n → s.d = zeroBk → s.n = 0 → nextF (t.foldl stepF s) = ⟨(((chunk t).map blkOf).foldl nextG (s.v, s.p)).1, (((chunk t).map blkOf).foldl nextG (s.v, s.p)).2, zeroBk, 0⟩ := by
  intro n
  induction n with
  | zero =>
    intro t s h hd hn
    rw [fold_step t s (by omega), nextF_eq, chunk_eq, if_pos (by omega), hd, hn]; rfl
  | succ n ih =>
    intro t s h hd hn
    by_cases h2 : t.length ≤ 240
    · rw [fold_step t s (by omega), nextF_eq, chunk_eq, if_pos h2, hd, hn]; rfl
    · rw [chunk_eq, if_neg h2]
      have e : t = t.take 240 ++ t.drop 240 := (List.take_append_drop 240 t).symm
      have hl : (t.take 240).length = 240 := by rw [List.length_take]; omega
      obtain ⟨x, r, hx⟩ : ∃ x r, t.drop 240 = x :: r := by
        cases hq : t.drop 240 with
        | nil => have := congrArg List.length hq; rw [List.length_drop] at this; simp at this; omega
        | cons x r => exact ⟨x, r, rfl⟩
      have e1 : t.foldl stepF s = (t.drop 240).foldl stepF ((t.take 240).foldl stepF s) := by conv => lhs; rw [e, List.foldl_append]
      have e2 : (t.take 240).foldl stepF s = ⟨s.v, s.p, blkOf (t.take 240), 240⟩ := by rw [fold_step _ s (by omega), hd, hn, hl]; rfl
      have e3 : (t.drop 240).foldl stepF ⟨s.v, s.p, blkOf (t.take 240), 240⟩ = (t.drop 240).foldl stepF (nextF ⟨s.v, s.p, blkOf (t.take 240), 240⟩) := by
        rw [hx, List.foldl_cons, List.foldl_cons]
        congr 1
        unfold stepF
        have q1 : fullF ⟨s.v, s.p, blkOf (t.take 240), 240⟩ = nextF ⟨s.v, s.p, blkOf (t.take 240), 240⟩ := by unfold fullF; rw [if_pos rfl]
        have q2 : fullF (nextF ⟨s.v, s.p, blkOf (t.take 240), 240⟩) = nextF ⟨s.v, s.p, blkOf (t.take 240), 240⟩ := by rw [nextF_eq]; unfold fullF; rw [if_neg (by show (0 : Nat) ≠ 240; decide)]
        rw [q1, q2]
      rw [e1, e2, e3, ih (t.drop 240) _ (by rw [List.length_drop]; omega) (by rw [nextF_eq]) (by rw [nextF_eq]), nextF_eq]
      rfl
theorem fillP_eq (t : List UInt8) : fillP t = endG (((chunk t).map blkOf).foldl nextG ([], zeroBk)) := by
  unfold fillP fsP
  rw [fill_chunks t.length t ⟨[], zeroBk, zeroBk, 0⟩ (Nat.le_refl _) rfl rfl]
  rfl
/-! groups -/
def nextR (s : List Bk × Bk) (d : Bk) : List Bk × Bk := (s.1 ++ [d.shutB s.1.length], s.2.mix d)
theorem foldR_len : ∀ (ds : List Bk) (s : List Bk × Bk), (ds.foldl nextR s).1.length = s.1.length + ds.length
  | [], s => rfl
  | d :: ds, s => by rw [List.foldl_cons, foldR_len ds]; simp [nextR]; omega
def shutG (s : List Bk × Bk) : List Bk := s.1 ++ [s.2.shutB s.1.length]
theorem nextG_eq (s : List Bk × Bk) (d : Bk) : nextG s d = if (s.1.length + 1) % 5 = 4 then (shutG (nextR s d), zeroBk) else nextR s d := by
  unfold nextG shutG nextR
  split
  · simp
  · rfl
def grpN : Nat → List Bk → List Bk → List Bk
  | 0, v, _ => v
  | n + 1, v, ds => if ds.length = 0 then v else grpN n (shutG ((ds.take 4).foldl nextR (v, zeroBk))) (ds.drop 4)
theorem foldG_few : ∀ (ds : List Bk) (s : List Bk × Bk), s.1.length % 5 + ds.length ≤ 3 → ds.foldl nextG s = ds.foldl nextR s
  | [], _, _ => rfl
  | d :: ds, s, h => by
    have h : s.1.length % 5 + (ds.length + 1) ≤ 3 := h
    rw [List.foldl_cons, List.foldl_cons, nextG_eq, if_neg (by omega)]
    exact foldG_few ds _ (by simp only [nextR, List.length_append, List.length_cons, List.length_nil]; omega)
theorem grp_eq : ∀ (n : Nat) (ds v : List Bk), ds.length ≤ n → v.length % 5 = 0 → endG (ds.foldl nextG (v, zeroBk)) = grpN n v ds := by
  intro n
  induction n with
  | zero =>
    intro ds v h h5
    have : ds = [] := List.length_eq_zero_iff.1 (by omega)
    subst this
    show endG (v, zeroBk) = v
    unfold endG; rw [if_neg (by simpa using h5)]
  | succ n ih =>
    intro ds v h h5
    unfold grpN
    by_cases h0 : ds.length = 0
    · have : ds = [] := List.length_eq_zero_iff.1 h0
      subst this
      rw [if_pos h0]
      show endG (v, zeroBk) = v
      unfold endG; rw [if_neg (by simpa using h5)]
    · rw [if_neg h0]
      by_cases h4 : ds.length ≤ 3
      · rw [foldG_few ds (v, zeroBk) (by show v.length % 5 + ds.length ≤ 3; omega), List.take_of_length_le (by omega), List.drop_of_length_le (by omega)]
        have hl := foldR_len ds (v, zeroBk)
        have hl : (ds.foldl nextR (v, zeroBk)).1.length = v.length + ds.length := hl
        have e : ∀ w : List Bk, grpN n w [] = w := fun w => by cases n <;> simp [grpN]
        rw [e]
        unfold endG shutG
        rw [if_pos (by omega)]
      · have e : ds = ds.take 3 ++ nth ds 3 :: ds.drop 4 := by rw [← drop_nth (show 3 < ds.length by omega), List.take_append_drop]
        have e4 : ds.take 4 = ds.take 3 ++ [nth ds 3] := take_nth (show 3 < ds.length by omega)
        have hl3 : (ds.take 3).length = 3 := by rw [List.length_take]; omega
        have hl := foldR_len (ds.take 3) (v, zeroBk)
        have hl : ((ds.take 3).foldl nextR (v, zeroBk)).1.length = v.length + 3 := by rw [hl, hl3]
        have e1 : ds.foldl nextG (v, zeroBk) = (ds.drop 4).foldl nextG (shutG ((ds.take 4).foldl nextR (v, zeroBk)), zeroBk) := by
          conv => lhs; rw [e, List.foldl_append, List.foldl_cons, foldG_few (ds.take 3) (v, zeroBk) (by show v.length % 5 + (ds.take 3).length ≤ 3; omega), nextG_eq, if_pos (by omega)]
          rw [e4, List.foldl_append]; rfl
        rw [e1]
        refine ih (ds.drop 4) _ (by rw [List.length_drop]; omega) ?_
        unfold shutG
        rw [List.length_append, foldR_len, List.length_take]
        simp only [List.length_cons, List.length_nil]; omega
/-! digits of bytes -/
def digs (l : List UInt8) : List UInt8 := l.flatMap fun x => putP x.toNat 8
theorem digs_app (a b : List UInt8) : digs (a ++ b) = digs a ++ digs b := List.flatMap_append
theorem digs_cons (x : UInt8) (l : List UInt8) : digs (x :: l) = putP x.toNat 8 ++ digs l := rfl
theorem digs_len : ∀ l : List UInt8, (digs l).length = 8 * l.length
  | [] => rfl
  | x :: l => by rw [digs_cons, List.length_append, putP_length, digs_len l, List.length_cons]; omega
theorem bitB_tb (n i : Nat) : bitB n i = if n.testBit i = true then 49 else 48 := by
  have h := Nat.toNat_testBit n i
  rcases bitB_cases n i with ⟨h1, h2⟩ | ⟨h1, h2⟩
  · rw [h2, if_neg]; intro q; rw [q] at h; rw [h1] at h; cases h
  · rw [h2, if_pos]; cases q : n.testBit i
    · rw [q] at h; rw [h1] at h; cases h
    · rfl
theorem putP_nth {n k i : Nat} (hi : i < k) : nth (putP n k) i = bitB n (k - 1 - i) := by
  induction k generalizing i with
  | zero => omega
  | succ k ih =>
    cases i with
    | zero => rfl
    | succ i =>
      have e : nth (putP n (k + 1)) (i + 1) = nth (putP n k) i := rfl
      rw [e, ih (by omega)]; congr 1; omega
theorem digs_nth : ∀ {l : List UInt8} {j : Nat}, j < 8 * l.length → nth (digs l) j = bitB (nth l (j / 8)).toNat (7 - j % 8)
  | [], j, h => by simp at h
  | x :: l, j, h => by
    rw [digs_cons]
    have hl : (putP x.toNat 8).length = 8 := putP_length _ _
    by_cases hj : j < 8
    · have e : nth (putP x.toNat 8 ++ digs l) j = nth (putP x.toNat 8) j := by unfold nth; rw [List.getD_eq_getElem?_getD, List.getElem?_append_left (by omega), List.getD_eq_getElem?_getD]
      rw [e, putP_nth hj, show j / 8 = 0 by omega]
      show bitB x.toNat (8 - 1 - j) = bitB x.toNat (7 - j % 8)
      congr 1; omega
    · have e : nth (putP x.toNat 8 ++ digs l) j = nth (digs l) (j - 8) := by unfold nth; rw [List.getD_eq_getElem?_getD, List.getElem?_append_right (by omega), hl, List.getD_eq_getElem?_getD]
      rw [e, digs_nth (l := l) (j := j - 8) (by simp only [List.length_cons] at h; omega), show j / 8 = (j - 8) / 8 + 1 by omega]
      show bitB (nth l ((j - 8) / 8)).toNat (7 - (j - 8) % 8) = bitB (nth l ((j - 8) / 8)).toNat (7 - j % 8)
      congr 1; omega
/-- digit n of bytes -/
def bitAt (l : List UInt8) (n : Nat) : UInt8 := bitB (nth l (n / 8)).toNat (7 - n % 8)
theorem bitB_or (x : UInt8) {a b : Nat} (ha : a < 8) : bitB (x ||| UInt8.ofNat (2 ^ a)).toNat b = if b = a then 49 else bitB x.toNat b := by
  have h2 : 2 ^ a < 2 ^ 8 := Nat.pow_lt_pow_right (by decide) ha
  have e : (x ||| UInt8.ofNat (2 ^ a)).toNat = x.toNat ||| 2 ^ a := by
    rw [UInt8.toNat_or, UInt8.toNat_ofNat', Nat.mod_eq_of_lt h2]
  rw [e, bitB_tb, bitB_tb, Nat.testBit_or, Nat.testBit_two_pow]
  by_cases q : b = a
  · subst q; simp
  · rw [if_neg q]
    have : decide (a = b) = false := decide_eq_false (fun e => q e.symm)
    rw [this, Bool.or_false]
theorem bitAt_put {d : Bk} {n m : Nat} {c : UInt8} (hc : c = 48 ∨ c = 49) (hn : n < 240) (h0 : bitAt d.l n = 48) : bitAt (putBit d n c).l m = if m = n then c else bitAt d.l m := by
  have hl := d.h
  unfold putBit bitAt
  show bitB (nth (d.l.set (n / 8) (nth d.l (n / 8) ||| bitV c n)) (m / 8)).toNat (7 - m % 8) = _
  by_cases hb : m / 8 = n / 8
  · rw [hb]
    have e : nth (d.l.set (n / 8) (nth d.l (n / 8) ||| bitV c n)) (n / 8) = nth d.l (n / 8) ||| bitV c n := nth_setE (by omega) _
    rw [e]
    rcases hc with rfl | rfl
    · have e0 : bitV 48 n = 0 := by unfold bitV; simp
      rw [e0]
      have e1 : nth d.l (n / 8) ||| 0 = nth d.l (n / 8) := by simp
      rw [e1]
      by_cases q : m = n
      · rw [if_pos q, q]; exact h0
      · rw [if_neg q]
    · have e1 : bitV 49 n = UInt8.ofNat (2 ^ (7 - n % 8)) := by unfold bitV; simp
      rw [e1, bitB_or _ (by omega)]
      by_cases q : m = n
      · rw [if_pos q, if_pos (by rw [q])]
      · rw [if_neg q, if_neg (by omega)]
  · rw [if_neg (by intro e; rw [e] at hb; exact hb rfl)]
    have e : nth (d.l.set (n / 8) (nth d.l (n / 8) ||| bitV c n)) (m / 8) = nth d.l (m / 8) := nth_setN hb _
    rw [e]
theorem bitAt_puts : ∀ {c : List UInt8} {d : Bk} {n : Nat}, (∀ x ∈ c, x = 48 ∨ x = 49) → n + c.length ≤ 240 → (∀ m, n ≤ m → bitAt d.l m = 48) → ∀ m, bitAt (putBits d n c).l m = if n ≤ m ∧ m < n + c.length then nth c (m - n) else bitAt d.l m
  | [], d, n, _, _, _, m => by
    rw [if_neg (by simp only [List.length_nil]; omega)]; rfl
  | x :: c, d, n, hc, hl, h0, m => by
    have hl : n + (c.length + 1) ≤ 240 := hl
    have hx := hc x List.mem_cons_self
    have h1 := fun m => bitAt_put (m := m) hx (show n < 240 by omega) (h0 n (Nat.le_refl n))
    show bitAt (putBits (putBit d n x) (n + 1) c).l m = _
    rw [bitAt_puts (fun y hy => hc y (List.mem_cons_of_mem _ hy)) (by omega) (fun q hq => by rw [h1, if_neg (by omega)]; exact h0 q (by omega)) m, h1]
    rw [List.length_cons]
    by_cases q : m = n
    · subst q
      rw [if_neg (by omega), if_pos rfl, if_pos (by omega), Nat.sub_self]; rfl
    · rw [if_neg q]
      by_cases q2 : n + 1 ≤ m ∧ m < n + 1 + c.length
      · rw [if_pos q2, if_pos (by omega)]
        have e : m - n = (m - (n + 1)) + 1 := by omega
        rw [e]; rfl
      · rw [if_neg q2, if_neg (by omega)]
theorem putBits_keep {c : List UInt8} : ∀ {d : Bk} {n i : Nat}, n + c.length ≤ 8 * i → nth (putBits d n c).l i = nth d.l i := by
  induction c with
  | nil => intro d n i _; rfl
  | cons x c ih =>
    intro d n i h
    have h : n + (c.length + 1) ≤ 8 * i := h
    show nth (putBits (putBit d n x) (n + 1) c).l i = _
    rw [ih (by omega)]
    exact nth_setN (by omega) _
theorem nth_app_l {α : Type} [Inhabited α] {a b : List α} {i : Nat} (h : i < a.length) : nth (a ++ b) i = nth a i := by unfold nth; rw [List.getD_eq_getElem?_getD, List.getElem?_append_left h, List.getD_eq_getElem?_getD]
theorem nth_app_r {α : Type} [Inhabited α] {a b : List α} {i : Nat} (h : a.length ≤ i) : nth (a ++ b) i = nth b (i - a.length) := by unfold nth; rw [List.getD_eq_getElem?_getD, List.getElem?_append_right h, List.getD_eq_getElem?_getD]
theorem nth_rep {α : Type} [Inhabited α] {n i : Nat} {x : α} (h : i < n) : nth (List.replicate n x) i = x := by unfold nth; rw [List.getD_eq_getElem?_getD, List.getElem?_replicate, if_pos h]; rfl
theorem nth_takeL {α : Type} [Inhabited α] {a : List α} {i k : Nat} (h : i < k) : nth (a.take k) i = nth a i := by unfold nth; rw [List.getD_eq_getElem?_getD, List.getElem?_take, if_pos h, List.getD_eq_getElem?_getD]
theorem list_ext {α : Type} [Inhabited α] {a b : List α} (hl : a.length = b.length) (h : ∀ i, i < a.length → nth a i = nth b i) : a = b := by
  refine List.ext_getElem hl fun i h1 h2 => ?_
  rw [← nth_eq h1, ← nth_eq h2]; exact h i h1
theorem bitAt_zero (m : Nat) : bitAt zeroBk.l m = 48 := by
  have h : nth zeroBk.l (m / 8) = 0 := by
    show nth (List.replicate 32 (0 : UInt8)) (m / 8) = 0
    rcases Nat.lt_or_ge (m / 8) 32 with q | q
    · exact nth_rep q
    · unfold nth; rw [List.getD_eq_getElem?_getD, List.getElem?_eq_none (by rw [List.length_replicate]; exact q)]; rfl
  unfold bitAt
  rw [h]
  rcases bitB_cases (0 : UInt8).toNat (7 - m % 8) with ⟨_, q⟩ | ⟨q, _⟩
  · exact q
  · rw [show (0 : UInt8).toNat = 0 from rfl, Nat.zero_div] at q; cases q
/-- the digits of a chunk's block -/
theorem digs_blk {c : List UInt8} (hc : ∀ x ∈ c, x = 48 ∨ x = 49) (hl : c.length ≤ 240) : digs ((blkOf c).l.take 30) = c ++ List.replicate (240 - c.length) 48 := by
  have h32 := (blkOf c).h
  refine list_ext ?_ fun i hi => ?_
  · rw [digs_len, List.length_take, List.length_append, List.length_replicate]; omega
  · rw [digs_len, List.length_take] at hi
    rw [digs_nth (by rw [List.length_take]; exact hi), nth_takeL (by omega)]
    have h := bitAt_puts (d := zeroBk) (n := 0) hc (by omega) (fun m _ => bitAt_zero m) i
    have e : bitAt (putBits zeroBk 0 c).l i = bitB (nth (blkOf c).l (i / 8)).toNat (7 - i % 8) := rfl
    rw [← e, h, bitAt_zero]
    by_cases q : i < c.length
    · rw [if_pos (by omega), nth_app_l q]; rfl
    · rw [if_neg (by omega), nth_app_r (by omega), nth_rep (by omega)]
theorem blk_tail {c : List UInt8} (hl : c.length ≤ 240) : (blkOf c).l.drop 30 = [0, 0] := by
  have h32 := (blkOf c).h
  refine list_ext (by rw [List.length_drop]; simp; omega) fun i hi => ?_
  rw [List.length_drop] at hi
  have e : nth ((blkOf c).l.drop 30) i = nth (blkOf c).l (30 + i) := by unfold nth; rw [List.getD_eq_getElem?_getD, List.getElem?_drop, List.getD_eq_getElem?_getD]
  rw [e]
  have h := putBits_keep (c := c) (d := zeroBk) (n := 0) (i := 30 + i) (by omega)
  have h : nth (blkOf c).l (30 + i) = nth zeroBk.l (30 + i) := h
  rw [h]
  show nth (List.replicate 32 (0 : UInt8)) (30 + i) = _
  rw [nth_rep (by omega)]
  have : i = 0 ∨ i = 1 := by omega
  rcases this with rfl | rfl <;> rfl
/-- bytes are told by their digits -/
theorem byte_ext {x y : UInt8} (h : putP x.toNat 8 = putP y.toNat 8) : x = y := by
  have hb : ∀ i, i < 8 → bitB x.toNat i = bitB y.toNat i := fun i hi => by
    have q := congrArg (fun l => nth l (7 - i)) h
    have q : nth (putP x.toNat 8) (7 - i) = nth (putP y.toNat 8) (7 - i) := q
    rw [putP_nth (by omega), putP_nth (by omega)] at q
    rwa [show 8 - 1 - (7 - i) = i by omega] at q
  have ht : ∀ i, x.toNat.testBit i = y.toNat.testBit i := fun i => by
    rcases Nat.lt_or_ge i 8 with q | q
    · have e := hb i q
      rw [bitB_tb, bitB_tb] at e
      cases hx : x.toNat.testBit i <;> cases hy : y.toNat.testBit i <;> rw [hx, hy] at e <;> first | rfl | (exact absurd e (by decide))
    · have hp : 2 ^ 8 ≤ 2 ^ i := Nat.pow_le_pow_right (by decide) q
      have h1 := x.toNat_lt
      have h2 := y.toNat_lt
      rw [Nat.testBit_lt_two_pow (by omega), Nat.testBit_lt_two_pow (by omega)]
  exact UInt8.toNat_inj.1 (Nat.eq_of_testBit_eq ht)
theorem digs_inj : ∀ {a b : List UInt8}, digs a = digs b → a = b
  | [], [], _ => rfl
  | [], y :: b, h => by have := congrArg List.length h; rw [digs_len, digs_len] at this; simp at this
  | x :: a, [], h => by have := congrArg List.length h; rw [digs_len, digs_len] at this; simp at this
  | x :: a, y :: b, h => by
    rw [digs_cons, digs_cons] at h
    obtain ⟨h1, h2⟩ := List.append_inj h (by rw [putP_length, putP_length])
    rw [byte_ext h1, digs_inj h2]
/-! the bytes of all chunks -/
def dataP (t : List UInt8) : List UInt8 := (chunk t).flatMap fun c => (blkOf c).l.take 30
theorem dataP_eq (t : List UInt8) : dataP t = if t.length ≤ 240 then (blkOf t).l.take 30 else (blkOf (t.take 240)).l.take 30 ++ dataP (t.drop 240) := by
  unfold dataP
  rw [chunk_eq]
  by_cases h : t.length ≤ 240
  · rw [if_pos h, if_pos h]; simp
  · rw [if_neg h, if_neg h, List.flatMap_cons]
theorem blk30 (b : Bk) : (b.l.take 30).length = 30 := by rw [List.length_take, b.h]; rfl
theorem digs_data : ∀ (n : Nat) {t : List UInt8}, t.length ≤ n → (∀ x ∈ t, x = 48 ∨ x = 49) → ∃ z, z ≤ 240 ∧ (0 < t.length → z < 240) ∧ digs (dataP t) = t ++ List.replicate z 48 ∧ (dataP t).length % 30 = 0 := by
  intro n
  induction n with
  | zero =>
    intro t h hb
    refine ⟨240 - t.length, by omega, fun q => by omega, ?_, ?_⟩
    · rw [dataP_eq, if_pos (by omega)]; exact digs_blk hb (by omega)
    · rw [dataP_eq, if_pos (by omega), blk30]
  | succ n ih =>
    intro t h hb
    by_cases h2 : t.length ≤ 240
    · refine ⟨240 - t.length, by omega, fun q => by omega, ?_, ?_⟩
      · rw [dataP_eq, if_pos h2]; exact digs_blk hb h2
      · rw [dataP_eq, if_pos h2, blk30]
    · obtain ⟨z, h3, h4, h5, h6⟩ := ih (t := t.drop 240) (by rw [List.length_drop]; omega) (fun x hx => hb x (List.mem_of_mem_drop hx))
      have hl : (t.take 240).length = 240 := by rw [List.length_take]; omega
      refine ⟨z, h3, fun _ => h4 (by rw [List.length_drop]; omega), ?_, ?_⟩
      · rw [dataP_eq, if_neg h2, digs_app, digs_blk (fun x hx => hb x (List.mem_of_mem_take hx)) (by omega), h5, hl]
        show t.take 240 ++ [] ++ (t.drop 240 ++ List.replicate z 48) = _
        rw [List.append_nil, ← List.append_assoc, List.take_append_drop]
      · rw [dataP_eq, if_neg h2, List.length_append, blk30]; omega
/-- data are told by their digits and their length -/
theorem dataP_uniq {t out : List UInt8} {z : Nat} (ht : 0 < t.length) (hb : ∀ x ∈ t, x = 48 ∨ x = 49) (h1 : digs out = t ++ List.replicate z 48) (h2 : z < 240) (h3 : out.length % 30 = 0) : out = dataP t := by
  obtain ⟨y, _, q2, q3, q4⟩ := digs_data t.length (Nat.le_refl _) hb
  have q2 := q2 ht
  have e1 := congrArg List.length h1
  have e2 := congrArg List.length q3
  rw [digs_len, List.length_append, List.length_replicate] at e1 e2
  have : z = y := by omega
  subst this
  exact digs_inj (h1.trans q3.symm)
/-! ### the reference's Data and Write -/
theorem bitB_up {n d j : Nat} (hd : d ≤ 1) : bitB (2 * n + d) (j + 1) = bitB n j := by
  unfold bitB
  have e : (2 * n + d) / 2 ^ (j + 1) = n / 2 ^ j := by
    rw [Nat.pow_succ, Nat.mul_comm (2 ^ j) 2, ← Nat.div_div_eq_div_mul, show (2 * n + d) / 2 = n by omega]
  rw [e]
theorem putP_snoc {n d : Nat} (k : Nat) (hd : d ≤ 1) : putP (2 * n + d) (k + 1) = putP n k ++ [UInt8.ofNat (48 + d)] := by
  refine list_ext (by rw [putP_length, List.length_append, putP_length]; rfl) fun i hi => ?_
  rw [putP_length] at hi
  rw [putP_nth hi]
  by_cases q : i < k
  · rw [nth_app_l (by rw [putP_length]; exact q), putP_nth q, show k + 1 - 1 - i = (k - 1 - i) + 1 by omega, bitB_up hd]
  · rw [nth_app_r (by rw [putP_length]; omega), putP_length, show k + 1 - 1 - i = 0 by omega, show i - k = 0 by omega]
    show bitB (2 * n + d) 0 = UInt8.ofNat (48 + d)
    unfold bitB
    rw [Nat.pow_zero, Nat.div_one, show (2 * n + d) % 2 = d by omega]
    have : d = 0 ∨ d = 1 := by omega
    rcases this with rfl | rfl <;> rfl
theorem dat_next {out T : List UInt8} {b m : Nat} {c : UInt8} (h : digs out ++ putP b m = T) (hc : c = 48 ∨ c = 49) : digs out ++ putP (2 * b + (c.toNat - 48)) (m + 1) = T ++ [c] := by
  have hd : c.toNat - 48 ≤ 1 := by rcases hc with rfl | rfl <;> decide
  have e : UInt8.ofNat (48 + (c.toNat - 48)) = c := by rcases hc with rfl | rfl <;> rfl
  rw [putP_snoc m hd, e, ← List.append_assoc, h]
theorem dat_full {out : List UInt8} {b : Nat} (hb : b < 256) : digs (out ++ [UInt8.ofNat b]) = digs out ++ putP b 8 := by
  rw [digs_app]
  show digs out ++ (putP (UInt8.ofNat b).toNat 8 ++ []) = _
  rw [List.append_nil, UInt8.toNat_ofNat', Nat.mod_eq_of_lt (by simpa using hb)]
theorem dat_lt {b m : Nat} {c : UInt8} (h : b < 2 ^ m) (hc : c = 48 ∨ c = 49) : 2 * b + (c.toNat - 48) < 2 ^ (m + 1) := by
  have hd : c.toNat - 48 ≤ 1 := by rcases hc with rfl | rfl <;> decide
  rw [Nat.pow_succ]; omega
theorem pow_le8 {m : Nat} (h : m ≤ 8) : 2 ^ m ≤ 256 := by
  have := Nat.pow_le_pow_right (show 0 < 2 by decide) h
  simpa using this
theorem dat_pad {out T : List UInt8} {b m z : Nat} (h : digs out ++ putP b m = T ++ List.replicate z 48) : digs out ++ putP (2 * b) (m + 1) = T ++ List.replicate (z + 1) 48 := by
  have e := putP_snoc (n := b) (d := 0) m (Nat.zero_le _)
  rw [Nat.add_zero] at e
  rw [e, ← List.append_assoc, h, List.replicate_succ', ← List.append_assoc]; rfl
theorem dat_zero {out T : List UInt8} {z : Nat} (h : digs out = T ++ List.replicate z 48) : digs (out ++ [0]) = T ++ List.replicate (z + 8) 48 := by
  have e : putP (0 : UInt8).toNat 8 = List.replicate 8 48 := by decide
  rw [digs_app]
  show digs out ++ (putP (0 : UInt8).toNat 8 ++ []) = _
  rw [List.append_nil, e, h, List.append_assoc, List.replicate_append_replicate]
/-! the reference's Write: groups of up to four -/
/-- the bytes of data k -/
def dat30 (D : List UInt8) (k : Nat) : List UInt8 := (D.drop (30 * k)).take 30
/-- data as a block -/
def padB (x : List UInt8) (h : x.length = 30) : Bk := ⟨x ++ [0, 0], by rw [List.length_append, h]; rfl⟩
def mkB (x : List UInt8) : Bk := if h : x.length = 30 then padB x h else zeroBk
theorem mkB_take {x : List UInt8} (h : x.length = 30) : (mkB x).l.take 30 = x ∧ (mkB x).l = x ++ [0, 0] := by
  unfold mkB
  rw [dif_pos h]
  exact ⟨by show (x ++ [0, 0]).take 30 = x; rw [List.take_append_of_le_length (by omega), List.take_of_length_le (by omega)], rfl⟩
theorem Bk.eq_mk {b : Bk} (h : b.l.drop 30 = [0, 0]) : b = mkB (b.l.take 30) := by
  apply Bk.ext'
  rw [(mkB_take (blk30 b)).2, ← h, List.take_append_drop]
/-- the blocks of all data -/
def datBs (D : List UInt8) : Nat → List Bk
  | 0 => []
  | n + 1 => mkB (D.take 30) :: datBs (D.drop 30) n
theorem datBs_len : ∀ (n : Nat) (D : List UInt8), (datBs D n).length = n
  | 0, _ => rfl
  | n + 1, D => by rw [datBs, List.length_cons, datBs_len n]
theorem datBs_nth : ∀ {n k : Nat} {D : List UInt8}, k < n → nth (datBs D n) k = mkB (dat30 D k)
  | n + 1, 0, D, _ => rfl
  | n + 1, k + 1, D, h => by
    have e : nth (datBs D (n + 1)) (k + 1) = nth (datBs (D.drop 30) n) k := rfl
    rw [e, datBs_nth (by omega)]
    unfold dat30
    rw [List.drop_drop, show 30 + 30 * k = 30 * (k + 1) by omega]
theorem datBs_data : ∀ (n : Nat) (t : List UInt8), t.length ≤ n → datBs (dataP t) ((dataP t).length / 30) = (chunk t).map blkOf := by
  intro n
  induction n with
  | zero =>
    intro t h
    rw [dataP_eq, if_pos (by omega), blk30, chunk_eq, if_pos (by omega)]
    show [mkB (((blkOf t).l.take 30).take 30)] = [blkOf t]
    rw [List.take_take, Nat.min_self, ← Bk.eq_mk (blk_tail (by omega))]
  | succ n ih =>
    intro t h
    by_cases h2 : t.length ≤ 240
    · rw [dataP_eq, if_pos h2, blk30, chunk_eq, if_pos h2]
      show [mkB (((blkOf t).l.take 30).take 30)] = [blkOf t]
      rw [List.take_take, Nat.min_self, ← Bk.eq_mk (blk_tail h2)]
    · rw [dataP_eq, if_neg h2, chunk_eq, if_neg h2, List.length_append, blk30, show (30 + (dataP (t.drop 240)).length) / 30 = (dataP (t.drop 240)).length / 30 + 1 by omega]
      have hl := blk30 (blkOf (t.take 240))
      show mkB (((blkOf (t.take 240)).l.take 30 ++ dataP (t.drop 240)).take 30) :: datBs (((blkOf (t.take 240)).l.take 30 ++ dataP (t.drop 240)).drop 30) _ = blkOf (t.take 240) :: (chunk (t.drop 240)).map blkOf
      rw [List.take_append_of_le_length (by omega), List.take_take, Nat.min_self, List.drop_append_of_le_length (by omega), List.drop_of_length_le (by omega), List.nil_append, ih (t.drop 240) (by rw [List.length_drop]; omega), ← Bk.eq_mk (blk_tail (by rw [List.length_take]; omega))]
/-- the reference's blocks out of its data -/
def rBlks (D : List UInt8) : List Bk := grpN (D.length / 30) [] (datBs D (D.length / 30))
theorem rBlks_eq (t : List UInt8) : rBlks (dataP t) = fillP t := by
  unfold rBlks
  rw [datBs_data t.length t (Nat.le_refl _), fillP_eq, ← grp_eq _ _ [] (by rw [← datBs_data t.length t (Nat.le_refl _), datBs_len]; exact Nat.le_refl _) rfl]
theorem grpN_more : ∀ (n m : Nat) (v ds : List Bk), ds.length ≤ n → ds.length ≤ m → grpN n v ds = grpN m v ds
  | 0, m, v, ds, h, _ => by
    have : ds = [] := List.length_eq_zero_iff.1 (by omega)
    subst this
    cases m <;> simp [grpN]
  | n + 1, 0, v, ds, _, h => by
    have : ds = [] := List.length_eq_zero_iff.1 (by omega)
    subst this
    simp [grpN]
  | n + 1, m + 1, v, ds, h1, h2 => by
    unfold grpN
    split
    · rfl
    · exact grpN_more n m _ _ (by rw [List.length_drop]; omega) (by rw [List.length_drop]; omega)
theorem mix_take (a b : Bk) : (a.mix b).l.take 30 = List.zipWith (· ^^^ ·) (a.l.take 30) (b.l.take 30) := by
  have h1 : (List.zipWith (· ^^^ ·) (a.l.take 30) (b.l.take 30)).length = 30 := by rw [List.length_zipWith, blk30, blk30]; rfl
  show (List.zipWith (· ^^^ ·) (a.l.take 30) (b.l.take 30) ++ a.l.drop 30).take 30 = _
  rw [List.take_append_of_le_length (by omega), List.take_of_length_le (by omega)]
theorem mixK_lenN {n k : Nat} {l os : List UInt8} (h : l.length = n) (ho : os.length = n) (hk : k ≤ n) : (mixK k l os).length = n := by
  unfold mixK; simp; omega
theorem mixK_nthN {n k : Nat} {l os : List UInt8} (h : l.length = n) (ho : os.length = n) (hk : k < n) : nth (mixK k l os) k = nth l k := by
  have hl : (List.zipWith (· ^^^ ·) (l.take k) (os.take k)).length = k := by simp; omega
  unfold nth mixK
  rw [List.getD_eq_getElem?_getD, List.getD_eq_getElem?_getD, List.getElem?_append_right (by omega), hl, Nat.sub_self, List.getElem?_drop, Nat.add_zero]
theorem mixK_stepN {n k : Nat} {l os : List UInt8} (h : l.length = n) (ho : os.length = n) (hk : k < n) : (mixK k l os).set k (nth l k ^^^ nth os k) = mixK (k + 1) l os := by
  unfold mixK
  have hl : (List.zipWith (· ^^^ ·) (l.take k) (os.take k)).length = k := by simp; omega
  rw [List.set_append_right _ _ (by omega), hl, Nat.sub_self, drop_nth (show k < l.length by omega), List.set_cons_zero, take_nth (show k < l.length by omega), take_nth (show k < os.length by omega), List.zipWith_append (by simp; omega)]
  simp
theorem mixK_fullN {n : Nat} {l os : List UInt8} (h : l.length = n) (ho : os.length = n) : mixK n l os = List.zipWith (· ^^^ ·) l os := by
  unfold mixK
  rw [List.take_of_length_le (by omega), List.take_of_length_le (by omega), List.drop_of_length_le (by omega), List.append_nil]
theorem mixK_zero (l os : List UInt8) : mixK 0 l os = l := rfl
theorem shutB_mk (b : Bk) (k : Nat) : (mkB (b.l.take 30)).shutB k = b.shutB k := by
  apply Bk.ext'
  show sealL (mkB (b.l.take 30)).l k = sealL b.l k
  unfold sealL chkP chkN
  rw [(mkB_take (blk30 b)).1]
def chkW (x : List UInt8) (k : Nat) : Int := (weighP x 65521 + 977 * (k : Int)) % 65521
theorem chkW_r (x : List UInt8) (k : Nat) : 0 ≤ chkW x k ∧ chkW x k < 65521 := ⟨Int.emod_nonneg _ (by decide), Int.emod_lt_of_pos _ (by decide)⟩
theorem shutB_bytes {x : List UInt8} (h : x.length = 30) (k : Nat) : ((mkB x).shutB k).l = x ++ [UInt8.ofNat ((chkW x k).toNat / 256), UInt8.ofNat ((chkW x k).toNat % 256)] := by
  show sealL (mkB x).l k = _
  unfold sealL chkP chkN chkW
  rw [(mkB_take h).1]
theorem u8_div {e : Int} (h0 : 0 ≤ e) (h1 : e < 65536) : e / 256 = ((UInt8.ofNat (e.toNat / 256)).toNat : Int) ∧ e % 256 = ((UInt8.ofNat (e.toNat % 256)).toNat : Int) := by
  rw [UInt8.toNat_ofNat', UInt8.toNat_ofNat']
  omega
theorem u8_ofN {n : Nat} (h : n < 256) : ((UInt8.ofNat n).toNat : Int) = (n : Int) := by
  rw [UInt8.toNat_ofNat']; omega
theorem dat30_len {D : List UInt8} {k : Nat} (h : 30 * k + 30 ≤ D.length) : (dat30 D k).length = 30 := by
  unfold dat30; rw [List.length_take, List.length_drop]; omega
theorem dat30_nth {D : List UInt8} {k i : Nat} (hi : i < 30) : nth (dat30 D k) i = nth D (30 * k + i) := by
  unfold dat30
  rw [nth_takeL hi]
  unfold nth
  rw [List.getD_eq_getElem?_getD, List.getElem?_drop, List.getD_eq_getElem?_getD]
/-! the reference's Bits -/
def entB (m : Int) (x : Ent) : List (List UInt8) := [putP (x.k - 1).toNat 2, codeP (x.m - m).toNat, codeP (x.h - 1).toNat] ++ (if plK x.k = true then [codeP x.p.toNat] else [codeP (x.b - 1).toNat, codeP (x.t - 1).toNat])
def bitsG (m : Int) : List Ent → List (List UInt8)
  | [] => []
  | x :: r => entB m x ++ bitsG x.m r
def bitsP (l : List Ent) : List (List UInt8) := codeP ((l.length : Int) - 1).toNat :: bitsG 0 l
theorem bitsG_snoc (x : Ent) : ∀ (l : List Ent) (m : Int), bitsG m (l ++ [x]) = bitsG m l ++ entB (lastM m l) x
  | [], m => by simp [bitsG, lastM]
  | y :: l, m => by
    simp only [List.cons_append, bitsG, lastM, bitsG_snoc x l y.m, List.append_assoc]
theorem entB_flat (m : Int) (x : Ent) : (entB m x).flatten = entP m x := by
  unfold entB entP codesP
  split <;> simp
theorem bitsG_flat : ∀ (l : List Ent) (m : Int), (bitsG m l).flatten = entsG m l
  | [], _ => rfl
  | x :: l, m => by
    simp only [bitsG, entsG, List.flatten_append, entB_flat, bitsG_flat l x.m]
theorem bitsP_flat (l : List Ent) : (bitsP l).flatten = tapeP l := by
  unfold bitsP tapeP
  rw [List.flatten_cons, bitsG_flat, codesP_one]
theorem bitsP_bits {l : List Ent} : ∀ x ∈ bitsP l, ∀ c ∈ x, c = 48 ∨ c = 49 := fun x hx c hc => tapeP_bits (l := l) c (by rw [← bitsP_flat]; exact List.mem_flatten.2 ⟨x, hx, hc⟩)
theorem bitsP_len : ∀ (l : List Ent) (m : Int), (bitsG m l).length ≤ 5 * l.length
  | [], _ => Nat.zero_le _
  | x :: l, m => by
    have := bitsP_len l x.m
    simp only [bitsG, List.length_append, List.length_cons]
    unfold entB
    split <;> simp <;> omega
theorem codeP_pos (n : Nat) : 0 < (codeP n).length := by rw [codeP_length]; omega
/-- the reference's log -/
def rLogP (l : List Ent) : List UInt8 := bytesP (rBlks (dataP (bitsP l).flatten))
theorem rLogP_eq {l : List Ent} (_h : chkE l = 0) : rLogP l = bytesP (writeP l) := by
  unfold rLogP writeP
  rw [bitsP_flat, rBlks_eq]
theorem grpN_nil (n : Nat) (v : List Bk) : grpN n v [] = v := by cases n <;> simp [grpN]
theorem grpN_step {n : Nat} {v ds : List Bk} (h0 : ds.length ≠ 0) (hn : ds.length ≤ n) : grpN n v ds = grpN n (shutG ((ds.take 4).foldl nextR (v, zeroBk))) (ds.drop 4) := by
  cases n with
  | zero => omega
  | succ n =>
    conv => lhs; unfold grpN
    rw [if_neg h0]
    exact grpN_more n (n + 1) _ _ (by rw [List.length_drop]; omega) (by rw [List.length_drop]; omega)
theorem foldR_snoc {v ds : List Bk} {i : Nat} (hi : i < ds.length) : (ds.take (i + 1)).foldl nextR (v, zeroBk) = nextR ((ds.take i).foldl nextR (v, zeroBk)) (nth ds i) := by
  rw [take_nth hi, List.foldl_append]; rfl

end Go.Proofs.YtjdcpnaocjddoaaGreatDoor
namespace Go.Proofs.YtjdcpnaocjddoaaGreatDoor
open Go Go.RowKit Go.Proofs.Tryz
theorem eqIn43 (n : Nat) (a0 : Int) (a1 : Int) (a2 : Int) (a3 : Int) (a4 : Int) (a5 : Int) (b0 : Int) (b1 : Int) (b2 : Int) (b3 : Int) (b4 : Int) (b5 : Int) (w : World) : (Op.equalIn (n + 2) 43 (.agg #[.int .i64 a0, .int .i64 a1, .int .i64 a2, .int .i64 a3, .int .i64 a4, .int .i64 a5]) (.agg #[.int .i64 b0, .int .i64 b1, .int .i64 b2, .int .i64 b3, .int .i64 b4, .int .i64 b5])).run Tryz.prog w = .ok (decide (a0 = b0) && decide (a1 = b1) && decide (a2 = b2) && decide (a3 = b3) && decide (a4 = b4) && decide (a5 = b5)) w := by
  have hS : Tryz.prog.underlying 43 = some (.struct (Tryz.prog.fieldsOf 43)) := by kernel_rfl
  have hp : Tryz.prog.stoodInHeld 43 = false := by kernel_rfl
  have p0 : ∀ (a0 : Int) (a1 : Int) (a2 : Int) (a3 : Int) (a4 : Int) (a5 : Int), (part 3 #[.int .i64 a0, .int .i64 a1, .int .i64 a2, .int .i64 a3, .int .i64 a4, .int .i64 a5] 0).run Tryz.prog w = .ok (.int .i64 a0) w := fun _ _ _ _ _ _ => by simp [part, isAgg3]
  have p1 : ∀ (a0 : Int) (a1 : Int) (a2 : Int) (a3 : Int) (a4 : Int) (a5 : Int), (part 41 #[.int .i64 a0, .int .i64 a1, .int .i64 a2, .int .i64 a3, .int .i64 a4, .int .i64 a5] 1).run Tryz.prog w = .ok (.int .i64 a1) w := fun _ _ _ _ _ _ => by simp [part, isAgg41]
  have p2 : ∀ (a0 : Int) (a1 : Int) (a2 : Int) (a3 : Int) (a4 : Int) (a5 : Int), (part 3 #[.int .i64 a0, .int .i64 a1, .int .i64 a2, .int .i64 a3, .int .i64 a4, .int .i64 a5] 2).run Tryz.prog w = .ok (.int .i64 a2) w := fun _ _ _ _ _ _ => by simp [part, isAgg3]
  have p3 : ∀ (a0 : Int) (a1 : Int) (a2 : Int) (a3 : Int) (a4 : Int) (a5 : Int), (part 3 #[.int .i64 a0, .int .i64 a1, .int .i64 a2, .int .i64 a3, .int .i64 a4, .int .i64 a5] 3).run Tryz.prog w = .ok (.int .i64 a3) w := fun _ _ _ _ _ _ => by simp [part, isAgg3]
  have p4 : ∀ (a0 : Int) (a1 : Int) (a2 : Int) (a3 : Int) (a4 : Int) (a5 : Int), (part 3 #[.int .i64 a0, .int .i64 a1, .int .i64 a2, .int .i64 a3, .int .i64 a4, .int .i64 a5] 4).run Tryz.prog w = .ok (.int .i64 a4) w := fun _ _ _ _ _ _ => by simp [part, isAgg3]
  have p5 : ∀ (a0 : Int) (a1 : Int) (a2 : Int) (a3 : Int) (a4 : Int) (a5 : Int), (part 3 #[.int .i64 a0, .int .i64 a1, .int .i64 a2, .int .i64 a3, .int .i64 a4, .int .i64 a5] 5).run Tryz.prog w = .ok (.int .i64 a5) w := fun _ _ _ _ _ _ => by simp [part, isAgg3]
  have e3 := fun a b w => equal_i64 underlying3 (n + 0) a b w
  have e41 := fun a b w => equal_i64 underlying41 (n + 0) a b w
  rw [run_equalIn_struct w (n + 1) 43 _ _ hS hp]
  simp only [Program.fieldsOf, underlying43]
  simp only [Op.eqFields, Sem.run_bind, Sem.run_ite, p0, p1, p2, p3, p4, p5, e3, e41, Result.andThen_ok]
  by_cases h0 : a0 = b0 <;> by_cases h1 : a1 = b1 <;> by_cases h2 : a2 = b2 <;> by_cases h3 : a3 = b3 <;> by_cases h4 : a4 = b4 <;> by_cases h5 : a5 = b5 <;> simp [h0, h1, h2, h3, h4, h5]

theorem rBlock_c (x : List UInt8) (ax : Option Addr) (bx ox cx : Nat) (k : Nat) (w0 : World) (hx : Sl encY 1 w0 ax bx ox x) (hx30 : x.length = 30) (hk : k ≤ 2000000) (hpos : 0 < w0.heap.size) :
    CallsV Tryz.prog 55 [.slice ax x.length cx, .int .i64 (k : Int)] w0 (fun v w' => (∃ a9 g9 c9, v = .slice a9 (List.length ((mkB x).shutB k).l) c9 ∧ Acc encY 1 5 w0.heap.size w' a9 g9 c9 ((mkB x).shutB k).l) ∧ Ext w0 w') := by
 have hwr := weighP_range x
 have hcr := chkW_r x k
 refine f_n func55 ?_
 refine go ?_
 refine x_c func29 rfl rfl (rWeigh_c x ax bx ox cx 65521 _ hx (by omega) (by decide)) ?_
 rintro _ w4 ⟨rfl, u5⟩ zu5
 refine go ?_
 refine t_rem rfl rfl rfl rfl (by omega) (by omega) ?_
 refine go ?_
 refine x_l fun bk9 w10 ebk9 sbk9 B11 u12 => ?_
 refine go ?_
 refine t_copy (enc := encY) (z := .int .u8 0) (bytes := 1) (k := 1) (ys := x) underlying25 (by kernel_rfl) rfl (by decide) (fun _ => rfl) (by intro x; simp [encY, Value.oneCell']) rfl rfl rfl rfl B11 (hx.keep (((Upd.refl (fun _ => False) w0).nx u5).nx u12) (fun _ h => h)) (by omega) (by decide) (fun ao14 gb15 cp16 w17 A18 u19 gegb15 => ?_)
 have zu19 := u19.size
 have lt_gb15 := A18.lt
 refine go ?_
 refine t_quo rfl rfl rfl rfl (by omega) (by omega) (t_conv underlying3 underlying5 rfl rfl rfl (IntWalk.u8_in _ (by omega)) (t_same 17 (v := .int .u8 ((UInt8.ofNat ((chkW x k).toNat / 256)).toNat : Int)) rfl (congrArg (Value.int .u8) (u8_div hcr.1 (by omega)).1) ?_))
 refine go ?_
 refine t_rem rfl rfl rfl rfl (by omega) (by omega) (t_conv underlying3 underlying5 rfl rfl rfl (IntWalk.u8_in _ (by omega)) (t_same 20 (v := .int .u8 ((UInt8.ofNat ((chkW x k).toNat % 256)).toNat : Int)) rfl (congrArg (Value.int .u8) (u8_div hcr.1 (by omega)).2) ?_))
 refine x_l fun bk21 w22 ebk21 sbk21 B23 u24 => ?_
 refine t_same 21 (v := .slice (some ⟨bk21, 0, none⟩) 2 2) rfl rfl ?_
 have D26 := (A18.keep u24 (fun _ h => h))
 refine t_appendAll (enc := encY) (z := .int .u8 0) (bytes := 1) (k := 1) (base := bk9) (xs := x) (ys := [(UInt8.ofNat ((chkW x k).toNat / 256)), (UInt8.ofNat ((chkW x k).toNat % 256))]) underlying25 (by kernel_rfl) rfl (by decide) (fun _ => rfl) (by intro x; simp [encY, Value.oneCell']) rfl rfl rfl rfl D26 (Sl.ofBlk (enc := encY) (xs := [(UInt8.ofNat ((chkW x k).toNat / 256)), (UInt8.ofNat ((chkW x k).toNat % 256))]) (fun _ => rfl) B23) (by omega) (by omega) (by simp only [List.length_cons, List.length_nil]; omega) (by decide) (fun ao27 gb28 cp29 w30 A31 u32 gegb28 lngb28 => ?_)
 have zu32 := u32.size
 have lt_gb28 := A31.lt
 refine go ?_
 refine f_1 results55 ?_
 have hfin := shutB_bytes hx30 k
 obtain ⟨gz, hz⟩ := Acc.lower (base' := w0.heap.size) A31 (by omega) hpos
 rw [← hfin] at hz
 exact ⟨⟨_, gz, _, by rw [hfin], hz⟩, u_d⟩

instance : DecidableEq Ent := fun a b => if h : a.m = b.m ∧ a.k = b.k ∧ a.h = b.h ∧ a.p = b.p ∧ a.b = b.b ∧ a.t = b.t then isTrue (by cases a; cases b; simp at h; simp [h]) else isFalse (fun e => h (by rw [e]; exact ⟨rfl, rfl, rfl, rfl, rfl, rfl⟩))

theorem same_c (a b : List Ent) (aa : Option Addr) (ba oa ca : Nat) (ab : Option Addr) (bb ob cb : Nat) (w0 : World) (ha : Sl encEnt 6 w0 aa ba oa a) (hb : Sl encEnt 6 w0 ab bb ob b) (hal : a.length ≤ 1000000) :
    CallsV Tryz.prog 16 [.slice aa a.length ca, .slice ab b.length cb] w0 (fun v w' => v = .bool (decide (a = b)) ∧ Ext w0 w') := by
 refine f_n func16 ?_
 refine go ?_
 refine q_p (fun g10 => ?_) fun g10 => ?_
 ·
  refine go ?_
  refine f_1 results16 ?_
  exact ⟨congrArg Value.bool (decide_eq_false (fun e => g10 (by rw [e]))).symm, u_d⟩
 refine go ?_
 refine x_l1 (fun _ => False) [0, 1] (fun (j : Nat) => [(5, .int .i64 (j : Int))]) (fun j w => (j ≤ a.length) ∧ (a.take j = b.take j)) (fun j => a.length - j) 0 ⟨(Nat.zero_le _), rfl⟩ ?_
 rintro j w8 ⟨hj, he⟩ u9 zu9 K7 hK7
 refine go ?_
 refine q_p (fun g14 => ?_) fun g14 => ?_
 ·
  refine go ?_
  refine c_drawnM follows (fun _ => False) (OTl [0, 2, 4, 6, 8, 10, 12, 14, 16]) (by kernel_rfl) fun w15 u16 => ?_
  have zu16 := u16.size
  have E17 := Sc.mk (((Upd.refl (fun _ => False) w0).nx u9).nx u16)
  refine go ?_
  refine y_i j (ha.keep E17.u (fun _ h => h)) (fun _ => ?_)
  refine go ?_
  refine y_i j (hb.keep E17.u (fun _ h => h)) (fun _ => ?_)
  refine go ?_
  refine y_neS (xs := [.int .i64 ((nth a j).m), .int .i64 ((nth a j).k), .int .i64 ((nth a j).h), .int .i64 ((nth a j).p), .int .i64 ((nth a j).b), .int .i64 ((nth a j).t)]) (ys := [.int .i64 ((nth b j).m), .int .i64 ((nth b j).k), .int .i64 ((nth b j).h), .int .i64 ((nth b j).p), .int .i64 ((nth b j).b), .int .i64 ((nth b j).t)]) (by kernel_rfl) (eqIn43 9998 ((nth a j).m) ((nth a j).k) ((nth a j).h) ((nth a j).p) ((nth a j).b) ((nth a j).t) ((nth b j).m) ((nth b j).k) ((nth b j).h) ((nth b j).p) ((nth b j).b) ((nth b j).t)) rfl rfl rfl rfl ?_
  refine go ?_
  refine q_b (fun g25 => ?_) fun g25 => ?_
  ·
   have hq : ¬ (nth a j = nth b j) := by
     cases ha : nth a j; cases hb : nth b j
     simp [ha, hb] at g25 ⊢
     omega
   refine go ?_
   refine f_1 results16 ?_
   exact ⟨congrArg Value.bool (decide_eq_false (nth_take_ne hq)).symm, u_d⟩
  have hq : (nth a j = nth b j) := by
    cases ha : nth a j; cases hb : nth b j
    simp [ha, hb] at g25 ⊢
    omega
  refine go ?_
  exact hK7 (j + 1) ⟨(by omega), (take_eq he (by omega) (by omega) hq)⟩
 refine go ?_
 refine f_1 results16 ?_
 have hab : a = b := by
   rw [List.take_of_length_le (by omega), List.take_of_length_le (by omega)] at he
   exact he
 exact ⟨congrArg Value.bool (decide_eq_true hab).symm, u_d⟩

theorem rSame_c (a b : List UInt8) (aa : Option Addr) (ba oa ca : Nat) (ab : Option Addr) (bb ob cb : Nat) (w0 : World) (ha : Sl encY 1 w0 aa ba oa a) (hb : Sl encY 1 w0 ab bb ob b) (hal : a.length ≤ 1000000) :
    CallsV Tryz.prog 18 [.slice aa a.length ca, .slice ab b.length cb] w0 (fun v w' => v = .bool (decide (a = b)) ∧ Ext w0 w') := by
 refine f_n func18 ?_
 refine go ?_
 refine q_p (fun g10 => ?_) fun g10 => ?_
 ·
  refine go ?_
  refine f_1 results18 ?_
  exact ⟨congrArg Value.bool (decide_eq_false (fun e => g10 (by rw [e]))).symm, u_d⟩
 refine go ?_
 refine x_l1 (fun _ => False) [0, 1] (fun (j : Nat) => [(5, .int .i64 (j : Int))]) (fun j w => (j ≤ a.length) ∧ (a.take j = b.take j)) (fun j => a.length - j) 0 ⟨(Nat.zero_le _), rfl⟩ ?_
 rintro j w8 ⟨hj, he⟩ u9 zu9 K7 hK7
 refine go ?_
 refine q_p (fun g14 => ?_) fun g14 => ?_
 ·
  refine go ?_
  refine c_drawnM follows (fun _ => False) (OTl [0, 2, 4, 6, 8, 10, 12, 14, 16]) (by kernel_rfl) fun w15 u16 => ?_
  have zu16 := u16.size
  have E17 := Sc.mk (((Upd.refl (fun _ => False) w0).nx u9).nx u16)
  refine go ?_
  refine y_i j (ha.keep E17.u (fun _ h => h)) (fun _ => ?_)
  refine go ?_
  refine y_i j (hb.keep E17.u (fun _ h => h)) (fun _ => ?_)
  refine go ?_
  refine q_p (fun g25 => ?_) fun g25 => ?_
  ·
   have hq : ¬ (nth a j = nth b j) := fun e => g25 (by rw [e])
   refine go ?_
   refine f_1 results18 ?_
   exact ⟨congrArg Value.bool (decide_eq_false (nth_take_ne hq)).symm, u_d⟩
  have hq : (nth a j = nth b j) := UInt8.toNat_inj.1 (by omega)
  refine go ?_
  exact hK7 (j + 1) ⟨(by omega), (take_eq he (by omega) (by omega) hq)⟩
 refine go ?_
 refine f_1 results18 ?_
 have hab : a = b := by
   rw [List.take_of_length_le (by omega), List.take_of_length_le (by omega)] at he
   exact he
 exact ⟨congrArg Value.bool (decide_eq_true hab).symm, u_d⟩

end Go.Proofs.YtjdcpnaocjddoaaGreatDoor
namespace Go.Proofs.YtjdcpnaocjddoaaGreatDoor
open Go Go.RowKit

theorem Ext.grownBy {w w' : World} (h : Ext w w') : w.grownBy w' none := ⟨h.os, h.tape, h.output, h.size, fun k hk _ => h.block k hk id⟩
theorem Upd.putObj (w : World) (l : Nat) (o : Obj) : Upd (· = l) w (w.putObj l o) := ⟨rfl, rfl, rfl, by simp, fun k _ hn => World.putObj_heap_other hn⟩

/-- What is said abides the turn of what is no cells, from B on. -/
theorem ownFrom_blk {β : Type} {B b : Nat} {t : TypeId} {f : β → List Value} : OwnFrom B (fun s w => Blk w b t (f s)) := fun s W W' row hs hg hr =>
  (hg.block b (Blk.lt hs) (fun e => by
    obtain ⟨_, o, ho, hc⟩ := hr b e.symm
    rw [show W.heap[b]? = _ from hs] at ho
    cases ho
    cases hc)).trans hs

theorem ownFrom_acc {β α : Type} {B : Nat} {enc : α → List Value} {k : Nat} {e : TypeId} {base : Nat} {ao : β → Option Addr} {g cap : β → Nat} {xs : β → List α} : OwnFrom B (fun s w => Acc enc k e base w (ao s) (g s) (cap s) (xs s)) := fun s W W' row hs hg hr => by
  refine ⟨Nat.lt_of_lt_of_le hs.lt hg.size, ?_⟩
  rcases hs.at_ with h1 | ⟨h1, h2, cur, h3, h4⟩
  · exact .inl h1
  · refine .inr ⟨h1, h2, cur, (hg.block _ hs.lt (fun e' => ?_)).trans h3, h4⟩
    obtain ⟨_, o, ho, hc⟩ := hr _ e'.symm
    rw [h3] at ho
    cases ho
    cases hc

theorem ownFrom_ex {β γ : Type} {B : Nat} {I : γ → β → World → Prop} (h : ∀ c, OwnFrom B (I c)) : OwnFrom B (fun s w => ∃ c, I c s w) := fun s W W' row hs hg hr => by
  obtain ⟨c, hc⟩ := hs
  exact ⟨c, h c s W W' row hc hg hr⟩

theorem ownFrom_upd {β : Type} {B : Nat} {S : Nat → Prop} {w0 : World} (hB : w0.heap.size ≤ B) : OwnFrom B (fun (_ : β) w => Upd S w0 w) := fun _ W W' row hs hg hr =>
  ⟨hg.os.trans hs.os, hg.tape.trans hs.tape, hg.output.trans hs.output, Nat.le_trans hs.size hg.size, fun k hk hn =>
    (hg.block k (Nat.lt_of_lt_of_le hk hs.size) (fun e => by have := (hr k e.symm).1; omega)).trans (hs.block k hk hn)⟩

/-- What may turn is cells. -/
def CellsIn (S : Nat → Prop) (w : World) : Prop := ∀ k, k < w.heap.size → S k → ∃ cur t f, w.heap[k]? = some (.cells cur t f)

theorem CellsIn.none (w : World) : CellsIn (fun _ => False) w := fun _ _ h => h.elim
theorem Blk.cellsIn {w : World} {b : Nat} {t : TypeId} {cs : List Value} (h : Blk w b t cs) : CellsIn (· = b) w := fun k _ e => by subst e; exact ⟨_, _, _, h⟩
theorem Acc.cellsIn {α : Type} {enc : α → List Value} {k : Nat} {e : TypeId} {base : Nat} {w : World} {ao : Option Addr} {g cap : Nat} {xs : List α} (h : Acc enc k e base w ao g cap xs) : CellsIn (fun i => i = g ∧ base ≤ i) w := fun i _ hi => by
  rcases h.at_ with ⟨_, _, _, h1⟩ | ⟨_, _, cur, h1, _⟩
  · omega
  · rw [hi.1]; exact ⟨_, _, _, h1⟩
theorem CellsIn.or {S T : Nat → Prop} {w : World} (h : CellsIn S w) (k : CellsIn T w) : CellsIn (fun i => S i ∨ T i) w := fun i hi h' => h'.elim (h i hi) (k i hi)

theorem KeepsFrom.of_upd {S : Nat → Prop} {B : Nat} {w w' : World} (u : Upd S w w') (h : CellsIn S w) : KeepsFrom B w w' :=
  ⟨u.size, fun k o _ hk ho => (u.block k (Array.getElem?_eq_some_iff.1 hk).1 (fun hs => by
    obtain ⟨c, t, f, hc⟩ := h k (Array.getElem?_eq_some_iff.1 hk).1 hs
    rw [hk] at hc
    cases hc
    cases ho)).trans hk⟩

/-! ### The marks of ended loops among the deferred calls -/
def mark (D : Nat) : Deferred := { target := .collected D, args := #[] }

/-- The deferred calls are the marks of loops in whose rounds nothing was deferred. -/
def Marks (base : Nat) : List Deferred → World → Prop
  | [], _ => True
  | d :: ds, w => (∃ D, d = mark D ∧ base ≤ D ∧ w.heap[D]? = some (.deferred (some [])) ∧ (∀ d' ∈ ds, ∀ D', d' = mark D' → D' < D)) ∧ Marks base ds w

theorem Marks.keep {base : Nat} {S : Nat → Prop} : ∀ {ds : List Deferred} {w w' : World}, Marks base ds w → Upd S w w' → CellsIn S w → Marks base ds w'
  | [], _, _, _, _, _ => trivial
  | d :: ds, w, w', h, u, hc => by
    obtain ⟨⟨D, h1, h2, h3, h4⟩, h5⟩ := h
    refine ⟨⟨D, h1, h2, ?_, h4⟩, h5.keep u hc⟩
    have hlt := lt_of_block h3
    refine (u.block D hlt (fun hs => ?_)).trans h3
    obtain ⟨c, t, f, hq⟩ := hc D hlt hs
    rw [h3] at hq
    cases hq

theorem Marks.lt {base : Nat} : ∀ {ds : List Deferred} {w : World}, Marks base ds w → ∀ d ∈ ds, ∀ D, d = mark D → D < w.heap.size
  | [], _, _, d, hd, _, _ => by cases hd
  | d :: ds, w, h, d', hd, D', e => by
    obtain ⟨⟨D, h1, h2, h3, h4⟩, h5⟩ := h
    rcases List.mem_cons.1 hd with rfl | hd
    · rw [h1] at e
      injection e with e
      injection e with e
      subst e
      exact lt_of_block h3
    · exact h5.lt d' hd D' e

theorem Marks.keepLow {base : Nat} {S : Nat → Prop} {B : Nat} : ∀ {ds : List Deferred} {w w' : World}, Marks base ds w → Upd S w w' → (∀ d ∈ ds, ∀ D, d = mark D → D < B) → (∀ k, S k → B ≤ k) → Marks base ds w'
  | [], _, _, _, _, _, _ => trivial
  | d :: ds, w, w', h, u, hB, hS => by
    obtain ⟨⟨D, h1, h2, h3, h4⟩, h5⟩ := h
    refine ⟨⟨D, h1, h2, ?_, h4⟩, h5.keepLow u (fun d' hd' => hB d' (by simp [hd'])) hS⟩
    exact (u.block D (lt_of_block h3) (fun hs => by have := hB d (by simp) D h1; have := hS D hs; omega)).trans h3

theorem Marks.push {base : Nat} {ds : List Deferred} {w : World} {D : Nat} (h : Marks base ds w) (hb : base ≤ D) (hD : w.heap[D]? = some (.deferred (some []))) (hn : ∀ d ∈ ds, ∀ D', d = mark D' → D' < D) : Marks base (mark D :: ds) w :=
  ⟨⟨D, rfl, hb, hD, hn⟩, h⟩

section steps
variable {rd : Option Nat} {P : Program} {ops : Array Oper} {Q : Exit → Act → World → Prop} {N : Nat} {ds : List Deferred} {rest : List Oper} {L : Slots} {w : World}
variable {d : Nat} {ty : TypeId} {pos : String} {aft : Array Edge} {g : Option (Nat × Bool)} {c : Code}

theorem roundIn_rnd {n m : Nat} {l : Nat} {f : FuncId} {tmps : Array Value} {assign body : Code} {R : Ending → World → Prop} (h : RoundIn Fence.wide m P l f tmps assign body w R) : RoundIn (rnd rd) n P l f tmps assign body w R := by
  obtain ⟨_, h2⟩ := h
  refine ⟨rnd_fn _ _, fun c cs _ => ?_⟩
  have := h2 c cs (room_wide _)
  cases rd with
  | none => exact this
  | some l => exact this

/-- A call of yield: one round. -/
theorem t_yield {f : Operand} {l m : Nat} {xs : Array Operand} {ats : Array TypeId} {vs : List Value} {R : Ending → World → Prop} (hg : grd ops L g = true) (hN : Nat.blt d N = true)
    (hf : ev L f = some (.func (.yield l) #[] #[])) (hv : evs L xs.toList = some vs) (hy : YieldAt Fence.wide m P l vs.toArray w R) (hR : ∀ e w', R e w' → ∃ v, e = .returned v)
    (h : ∀ v w', R (.returned v) w' → WL rd P ops Q N ds rest ((d, v) :: L) w') : WL rd P ops Q N ds (⟨some d, .call ⟨.value f, xs, ats⟩, ty, pos, aft, g⟩ :: rest) L w := by
  refine ⟨fun a ha => ?_⟩
  obtain ⟨fn, tmps, assign, body, hy1, hy2⟩ := hy
  have e1 : xs.map a.eval = vs.toArray := by rw [← ha.evs hv, ← Array.toList_map]
  have hr : (execOp a.eval ⟨some d, .call ⟨.value f, xs, ats⟩, ty, pos, aft, g⟩).run P w = .ok (.round l fn tmps assign body) w := by
    simp [execOp, resolve, ha.ev hf, Deferred.ofValue, invoke, e1, hy1]
  unfold wpListIn
  rw [if_pos (ha.wanted (o := ⟨some d, .call ⟨.value f, xs, ats⟩, ty, pos, aft, g⟩) hg)]
  unfold Oper.wpIn
  refine ⟨fun f _ => rnd_fn _ f, ?_⟩
  rw [semAt_of_ok (by simp) hr, Oper.uponIn_round]
  refine ⟨fun h => by simp [rnd_depth] at h, RoundIn.mono (roundIn_rnd hy2) ?_⟩
  intro e w' r
  obtain ⟨v, rfl⟩ := hR e w' r
  exact h v w' r _ (ha.put v hN)

theorem wpIn_rnd {n m : Nat} {a : Act} (h : c.wpIn (rnd rd) m P Q a w) : c.wpIn (rnd rd) n P Q a w :=
  fun b k cs hro hb _ => h b k cs hro hb (fun d hd => by rw [rnd_depth] at hd; cases hd)

/-- The statement 'for x := range g', g an iterator with a contract; the body never leaves the loop. -/
theorem c_range {α : Type} {go : Operand} {p : Nat} {assign body : Code} {gf : Nat} {lb : List Value} {enc : α → Value} {T : Nat → Prop} {S Sp : List α → Prop} {M m : Nat} (ho : Own P gf)
    (hp : Nat.blt p N = true) (hg : ev L go = some (.func (.func gf) #[] lb.toArray)) (hseq : SeqStopsK Fence.wide m P gf lb.toArray (fun x => #[enc x]) (Upd T) S Sp M w) (hT : ∀ k, w.heap.size ≤ k → T k)
    (I : List α → World → Prop) (hI : OwnFrom w.heap.size I) (h0 : I [] w) (La : α → Slots)
    (hassign : ∀ (l : Nat) (pre : List α) (x : α) (W : World) (K : Act → World → Prop), I pre W → (∀ L', Sub (La x) L' → QK K N [] L' W) → WC (some l) P (Exit.then K (fun _ _ _ => False)) N [] assign ((p, enc x) :: L) W)
    (hbody : ∀ (l : Nat) (pre : List α) (x : α) (W : World), I pre W → pre.length < M → WC (some l) P (ownPostG w.heap.size (Upd T) I (fun _ _ _ => False) (pre ++ [x]) W) N [] body (La x) W)
    (hdone : ∀ (D : Nat) (xs : List α) (W : World), w.heap.size ≤ D → S xs → I xs W → W.heap[D]? = some (.deferred (some [])) → QK (Q .normal) N (mark D :: ds) L W) :
    WC none P Q N ds (.rangeFunc go #[p] assign body) L w := by
  refine ⟨fun a ha => ?_⟩
  have hseq' : SeqStopsK Fence.wide (3 - 1) P gf lb.toArray (fun x => #[enc x]) (Upd T) S Sp M w := by
    intro l J Jx W h1 h2 h3 h4 h5
    refine callsIn_wide.2 (callsIn_wide.1 (hseq l J Jx W h1 h2 h3 (fun pre x W1 h6 h7 => ?_) h5))
    obtain ⟨fn, tmps, assign, body, hy1, hy2⟩ := h4 pre x W1 h6 h7
    exact ⟨fn, tmps, assign, body, hy1, roundIn_rnd (rd := none) hy2⟩
  refine wpIn_rangeFunc_ownH (F := Fence.wide) (n := 3) (w0 := w) rfl (by decide) (ha.ev hg) trivial (fun args w => ho.run args w) hseq' (fun h k => h.trans k)
    (fun W l o o' hl _ _ _ => (Upd.putObj W l o').mono (fun k hk => hT k (by omega))) (Below.refl _ _) (fun _ => rfl) I (fun _ _ _ => False) hI (fun _ _ _ _ _ h _ _ => h) h0
    (fun x a' _ => Kn N [] (La x) a') (fun _ _ _ _ _ _ h _ _ => h) ?_ ?_ ?_ ?_
  · intro l pre x W K hi hK
    have hk : Kn N [] ((p, enc x) :: L) { tmps := (#[p].zip #[enc x]).foldl (fun t (p, v) => t.setIfInBounds p v) a.tmps, defers := [] } := by
      have h1 : Kn N [] L { a with defers := [] } := ⟨ha.size, rfl, ha.get⟩
      have h2 := h1.put (enc x) hp
      refine ⟨by simpa [Act.put] using h2.size, rfl, fun k v hv => ?_⟩
      have := h2.get k v hv
      simpa [Act.put] using this
    refine wpIn_rnd (rd := some l) (m := 3) (hassign l pre x W K hi (fun L' hs => ⟨fun a' ha' => hK a' W (KeepsFrom.refl _ _) (Upd.refl _ _) hi (ha'.sub hs)⟩) _ hk)
  · intro l pre x a' W _ _ hi hA hlen
    exact wpIn_rnd (rd := some l) (m := 3) (hbody l pre x W hi hlen a' hA)
  · intro D xs W hD hS hI' hd
    refine hdone D xs W hD hS hI' hd _ ⟨ha.size, ?_, ha.get⟩
    simp [ha.defers, mark]
  · intro D c pre W _ _ h _
    exact h.elim

theorem f_enterM {R : Value → World → Prop} {f : FuncId} {fn : Func} {vs : List Value} (hf : P.funcs[f]? = some fn) (hb : fn.body = some c) (hn : Nat.ble vs.length N = true) (hN : fn.ntmps = N)
    (h : WC none P (bodyPostM (rnd none) 3 P fn fun e w' => ∃ v, e = .returned v ∧ R v w') N [] c (args 0 vs) w) : CallsV P f vs w R := by
  refine callsIn_wide.1 (callsIn_of_wp_marks (F := Fence.wide) (n := 3) hf hb trivial (h _ ⟨?_, rfl, ?_⟩))
  · have : vs.length ≤ N := Nat.le_of_ble_eq_true hn
    simp [hN]; omega
  · intro k v hk
    have ⟨_, h2⟩ := look_args vs 0 v hk
    rw [Array.getD_eq_getD_getElem?]
    have h3 : k < vs.length := by
      rcases Nat.lt_or_ge k vs.length with h | h
      · exact h
      · simp [List.getElem?_eq_none h] at h2
    rw [Array.getElem?_append_left (by simpa using h3)]
    simpa using congrArg (fun o => o.getD undef) h2

def tmpRes (L : Slots) : ResultVar → Option Value
  | .tmp t => look t L
  | .cell _ _ => none

theorem tmpRes.run {r : ResultVar} {v : Value} (h : tmpRes L r = some v) {a : Act} (ha : Kn N ds L a) (w : World) : (resOf a.tmps r).run P w = .ok v w := by
  cases r with
  | tmp t => simp only [resOf, Sem.run_pure]; rw [ha.get _ _ h]
  | cell s t => cases h

end steps
end Go.Proofs.YtjdcpnaocjddoaaGreatDoor
