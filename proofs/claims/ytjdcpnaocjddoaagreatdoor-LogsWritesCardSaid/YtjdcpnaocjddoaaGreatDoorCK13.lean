/-
  Part 13 of the proof: contracts and plain laws. Conditions: none.
-/
import Derived.Test.YtjdcpnaocjddoaaGreatDoorCK12
namespace Go.Proofs.YtjdcpnaocjddoaaGreatDoor
open Go Go.RowKit
/-! ### a log's closed form: chunks of 240 digits, blocks out of them, groups of four blocks and their parity -/
def nextG (s : List Bk × Bk) (d : Bk) : List Bk × Bk :=
  if (s.1.length + 1) % 5 = 4 then (s.1 ++ [d.shutB s.1.length] ++ [(s.2.mix d).shutB (s.1.length + 1)], zeroBk) else (s.1 ++ [d.shutB s.1.length], s.2.mix d)
def endG (s : List Bk × Bk) : List Bk := if s.1.length % 5 ≠ 0 then s.1 ++ [s.2.shutB s.1.length] else s.1
def putBits (d : Bk) (n : Nat) : List UInt8 → Bk
  | [] => d
  | c :: r => putBits (putBit d n c) (n + 1) r
def blkOf (c : List UInt8) : Bk := putBits zeroBk 0 c
def chunkN : Nat → List UInt8 → List (List UInt8)
  | 0, t => [t]
  | n + 1, t => if t.length ≤ 240 then [t] else t.take 240 :: chunkN n (t.drop 240)
/-- digits in chunks of 240 -/
def chunk (t : List UInt8) : List (List UInt8) := chunkN t.length t
theorem chunkN_eq : ∀ (n : Nat) (t : List UInt8), t.length ≤ n → chunkN n t = if t.length ≤ 240 then [t] else t.take 240 :: chunk (t.drop 240) := by
  have key : ∀ (n m : Nat) (t : List UInt8), t.length ≤ n → t.length ≤ m → chunkN n t = chunkN m t := by
    intro n
    induction n with
    | zero =>
      intro m t h _
      cases m with
      | zero => rfl
      | succ m => show [t] = _; unfold chunkN; rw [if_pos (by omega)]
    | succ n ih =>
      intro m t h1 h2
      cases m with
      | zero => conv => lhs; unfold chunkN
                rw [if_pos (by omega)]; rfl
      | succ m =>
        conv => lhs; unfold chunkN
        conv => rhs; unfold chunkN
        split
        · rfl
        · rw [ih m (t.drop 240) (by rw [List.length_drop]; omega) (by rw [List.length_drop]; omega)]
  intro n t h
  rw [key n (t.length + 1) t h (by omega)]
  conv => lhs; unfold chunkN
  split
  · rfl
  · rw [key t.length (t.drop 240).length (t.drop 240) (by rw [List.length_drop]; omega) (Nat.le_refl _)]; rfl
theorem chunk_eq (t : List UInt8) : chunk t = if t.length ≤ 240 then [t] else t.take 240 :: chunk (t.drop 240) := chunkN_eq t.length t (Nat.le_refl _)
theorem nextF_eq (s : Fs) : nextF s = ⟨(nextG (s.v, s.p) s.d).1, (nextG (s.v, s.p) s.d).2, zeroBk, 0⟩ := by
  unfold nextF nextG
  split <;> rfl
theorem stepF_lt {s : Fs} (h : s.n ≠ 240) (c : UInt8) : stepF s c = ⟨s.v, s.p, putBit s.d s.n c, s.n + 1⟩ := by
  unfold stepF fullF; rw [if_neg h]
theorem fold_step : ∀ (t : List UInt8) (s : Fs), s.n + t.length ≤ 240 → t.foldl stepF s = ⟨s.v, s.p, putBits s.d s.n t, s.n + t.length⟩
  | [], s, _ => rfl
  | c :: r, s, h => by
    have h : s.n + (r.length + 1) ≤ 240 := h
    rw [List.foldl_cons, stepF_lt (by omega), fold_step r _ (by show s.n + 1 + r.length ≤ 240; omega)]
    show (⟨s.v, s.p, putBits (putBit s.d s.n c) (s.n + 1) r, s.n + 1 + r.length⟩ : Fs) = ⟨s.v, s.p, putBits s.d s.n (c :: r), s.n + (c :: r).length⟩
    congr 1
    rw [List.length_cons]; omega
theorem fill_chunks : ∀ (n : Nat) (t : List UInt8) (s : Fs), t.length ≤ n → s.d = zeroBk → s.n = 0 → nextF (t.foldl stepF s) = ⟨(((chunk t).map blkOf).foldl nextG (s.v, s.p)).1, (((chunk t).map blkOf).foldl nextG (s.v, s.p)).2, zeroBk, 0⟩ := by
  intro n
  induction n with
  | zero =>
    intro t s h hd hn
    rw [fold_step t s (by omega), nextF_eq, chunk_eq, if_pos (by omega), hd, hn]; rfl
  | succ n ih =>
    intro t s h hd hn
    by_cases h2 : t.length ≤ 240
    · rw [fold_step t s (by omega), nextF_eq, chunk_eq, if_pos h2, hd, hn]; rfl
    · rw [chunk_eq, if_neg h2]
      have e : t = t.take 240 ++ t.drop 240 := (List.take_append_drop 240 t).symm
      have hl : (t.take 240).length = 240 := by rw [List.length_take]; omega
      obtain ⟨x, r, hx⟩ : ∃ x r, t.drop 240 = x :: r := by
        cases hq : t.drop 240 with
        | nil => have := congrArg List.length hq; rw [List.length_drop] at this; simp at this; omega
        | cons x r => exact ⟨x, r, rfl⟩
      have e1 : t.foldl stepF s = (t.drop 240).foldl stepF ((t.take 240).foldl stepF s) := by conv => lhs; rw [e, List.foldl_append]
      have e2 : (t.take 240).foldl stepF s = ⟨s.v, s.p, blkOf (t.take 240), 240⟩ := by rw [fold_step _ s (by omega), hd, hn, hl]; rfl
      have e3 : (t.drop 240).foldl stepF ⟨s.v, s.p, blkOf (t.take 240), 240⟩ = (t.drop 240).foldl stepF (nextF ⟨s.v, s.p, blkOf (t.take 240), 240⟩) := by
        rw [hx, List.foldl_cons, List.foldl_cons]
        congr 1
        unfold stepF
        have q1 : fullF ⟨s.v, s.p, blkOf (t.take 240), 240⟩ = nextF ⟨s.v, s.p, blkOf (t.take 240), 240⟩ := by unfold fullF; rw [if_pos rfl]
        have q2 : fullF (nextF ⟨s.v, s.p, blkOf (t.take 240), 240⟩) = nextF ⟨s.v, s.p, blkOf (t.take 240), 240⟩ := by rw [nextF_eq]; unfold fullF; rw [if_neg (by show (0 : Nat) ≠ 240; decide)]
        rw [q1, q2]
      rw [e1, e2, e3, ih (t.drop 240) _ (by rw [List.length_drop]; omega) (by rw [nextF_eq]) (by rw [nextF_eq]), nextF_eq]
      rfl
theorem fillP_eq (t : List UInt8) : fillP t = endG (((chunk t).map blkOf).foldl nextG ([], zeroBk)) := by
  unfold fillP fsP
  rw [fill_chunks t.length t ⟨[], zeroBk, zeroBk, 0⟩ (Nat.le_refl _) rfl rfl]
  rfl
/-! groups -/
def nextR (s : List Bk × Bk) (d : Bk) : List Bk × Bk := (s.1 ++ [d.shutB s.1.length], s.2.mix d)
theorem foldR_len : ∀ (ds : List Bk) (s : List Bk × Bk), (ds.foldl nextR s).1.length = s.1.length + ds.length
  | [], s => rfl
  | d :: ds, s => by rw [List.foldl_cons, foldR_len ds]; simp [nextR]; omega
def shutG (s : List Bk × Bk) : List Bk := s.1 ++ [s.2.shutB s.1.length]
theorem nextG_eq (s : List Bk × Bk) (d : Bk) : nextG s d = if (s.1.length + 1) % 5 = 4 then (shutG (nextR s d), zeroBk) else nextR s d := by
  unfold nextG shutG nextR
  split
  · simp
  · rfl
def grpN : Nat → List Bk → List Bk → List Bk
  | 0, v, _ => v
  | n + 1, v, ds => if ds.length = 0 then v else grpN n (shutG ((ds.take 4).foldl nextR (v, zeroBk))) (ds.drop 4)
theorem foldG_few : ∀ (ds : List Bk) (s : List Bk × Bk), s.1.length % 5 + ds.length ≤ 3 → ds.foldl nextG s = ds.foldl nextR s
  | [], _, _ => rfl
  | d :: ds, s, h => by
    have h : s.1.length % 5 + (ds.length + 1) ≤ 3 := h
    rw [List.foldl_cons, List.foldl_cons, nextG_eq, if_neg (by omega)]
    exact foldG_few ds _ (by simp only [nextR, List.length_append, List.length_cons, List.length_nil]; omega)
theorem grp_eq : ∀ (n : Nat) (ds v : List Bk), ds.length ≤ n → v.length % 5 = 0 → endG (ds.foldl nextG (v, zeroBk)) = grpN n v ds := by
  intro n
  induction n with
  | zero =>
    intro ds v h h5
    have : ds = [] := List.length_eq_zero_iff.1 (by omega)
    subst this
    show endG (v, zeroBk) = v
    unfold endG; rw [if_neg (by simpa using h5)]
  | succ n ih =>
    intro ds v h h5
    unfold grpN
    by_cases h0 : ds.length = 0
    · have : ds = [] := List.length_eq_zero_iff.1 h0
      subst this
      rw [if_pos h0]
      show endG (v, zeroBk) = v
      unfold endG; rw [if_neg (by simpa using h5)]
    · rw [if_neg h0]
      by_cases h4 : ds.length ≤ 3
      · rw [foldG_few ds (v, zeroBk) (by show v.length % 5 + ds.length ≤ 3; omega), List.take_of_length_le (by omega), List.drop_of_length_le (by omega)]
        have hl := foldR_len ds (v, zeroBk)
        have hl : (ds.foldl nextR (v, zeroBk)).1.length = v.length + ds.length := hl
        have e : ∀ w : List Bk, grpN n w [] = w := fun w => by cases n <;> simp [grpN]
        rw [e]
        unfold endG shutG
        rw [if_pos (by omega)]
      · have e : ds = ds.take 3 ++ nth ds 3 :: ds.drop 4 := by rw [← drop_nth (show 3 < ds.length by omega), List.take_append_drop]
        have e4 : ds.take 4 = ds.take 3 ++ [nth ds 3] := take_nth (show 3 < ds.length by omega)
        have hl3 : (ds.take 3).length = 3 := by rw [List.length_take]; omega
        have hl := foldR_len (ds.take 3) (v, zeroBk)
        have hl : ((ds.take 3).foldl nextR (v, zeroBk)).1.length = v.length + 3 := by rw [hl, hl3]
        have e1 : ds.foldl nextG (v, zeroBk) = (ds.drop 4).foldl nextG (shutG ((ds.take 4).foldl nextR (v, zeroBk)), zeroBk) := by
          conv => lhs; rw [e, List.foldl_append, List.foldl_cons, foldG_few (ds.take 3) (v, zeroBk) (by show v.length % 5 + (ds.take 3).length ≤ 3; omega), nextG_eq, if_pos (by omega)]
          rw [e4, List.foldl_append]; rfl
        rw [e1]
        refine ih (ds.drop 4) _ (by rw [List.length_drop]; omega) ?_
        unfold shutG
        rw [List.length_append, foldR_len, List.length_take]
        simp only [List.length_cons, List.length_nil]; omega
/-! digits of bytes -/
def digs (l : List UInt8) : List UInt8 := l.flatMap fun x => putP x.toNat 8
theorem digs_app (a b : List UInt8) : digs (a ++ b) = digs a ++ digs b := List.flatMap_append
theorem digs_cons (x : UInt8) (l : List UInt8) : digs (x :: l) = putP x.toNat 8 ++ digs l := rfl
theorem digs_len : ∀ l : List UInt8, (digs l).length = 8 * l.length
  | [] => rfl
  | x :: l => by rw [digs_cons, List.length_append, putP_length, digs_len l, List.length_cons]; omega
theorem bitB_tb (n i : Nat) : bitB n i = if n.testBit i = true then 49 else 48 := by
  have h := Nat.toNat_testBit n i
  rcases bitB_cases n i with ⟨h1, h2⟩ | ⟨h1, h2⟩
  · rw [h2, if_neg]; intro q; rw [q] at h; rw [h1] at h; cases h
  · rw [h2, if_pos]; cases q : n.testBit i
    · rw [q] at h; rw [h1] at h; cases h
    · rfl
theorem putP_nth {n k i : Nat} (hi : i < k) : nth (putP n k) i = bitB n (k - 1 - i) := by
  induction k generalizing i with
  | zero => omega
  | succ k ih =>
    cases i with
    | zero => rfl
    | succ i =>
      have e : nth (putP n (k + 1)) (i + 1) = nth (putP n k) i := rfl
      rw [e, ih (by omega)]; congr 1; omega
theorem digs_nth : ∀ {l : List UInt8} {j : Nat}, j < 8 * l.length → nth (digs l) j = bitB (nth l (j / 8)).toNat (7 - j % 8)
  | [], j, h => by simp at h
  | x :: l, j, h => by
    rw [digs_cons]
    have hl : (putP x.toNat 8).length = 8 := putP_length _ _
    by_cases hj : j < 8
    · have e : nth (putP x.toNat 8 ++ digs l) j = nth (putP x.toNat 8) j := by unfold nth; rw [List.getD_eq_getElem?_getD, List.getElem?_append_left (by omega), List.getD_eq_getElem?_getD]
      rw [e, putP_nth hj, show j / 8 = 0 by omega]
      show bitB x.toNat (8 - 1 - j) = bitB x.toNat (7 - j % 8)
      congr 1; omega
    · have e : nth (putP x.toNat 8 ++ digs l) j = nth (digs l) (j - 8) := by unfold nth; rw [List.getD_eq_getElem?_getD, List.getElem?_append_right (by omega), hl, List.getD_eq_getElem?_getD]
      rw [e, digs_nth (l := l) (j := j - 8) (by simp only [List.length_cons] at h; omega), show j / 8 = (j - 8) / 8 + 1 by omega]
      show bitB (nth l ((j - 8) / 8)).toNat (7 - (j - 8) % 8) = bitB (nth l ((j - 8) / 8)).toNat (7 - j % 8)
      congr 1; omega
/-- digit n of bytes -/
def bitAt (l : List UInt8) (n : Nat) : UInt8 := bitB (nth l (n / 8)).toNat (7 - n % 8)
theorem bitB_or (x : UInt8) {a b : Nat} (ha : a < 8) : bitB (x ||| UInt8.ofNat (2 ^ a)).toNat b = if b = a then 49 else bitB x.toNat b := by
  have h2 : 2 ^ a < 2 ^ 8 := Nat.pow_lt_pow_right (by decide) ha
  have e : (x ||| UInt8.ofNat (2 ^ a)).toNat = x.toNat ||| 2 ^ a := by
    rw [UInt8.toNat_or, UInt8.toNat_ofNat', Nat.mod_eq_of_lt h2]
  rw [e, bitB_tb, bitB_tb, Nat.testBit_or, Nat.testBit_two_pow]
  by_cases q : b = a
  · subst q; simp
  · rw [if_neg q]
    have : decide (a = b) = false := decide_eq_false (fun e => q e.symm)
    rw [this, Bool.or_false]
theorem bitAt_put {d : Bk} {n m : Nat} {c : UInt8} (hc : c = 48 ∨ c = 49) (hn : n < 240) (h0 : bitAt d.l n = 48) : bitAt (putBit d n c).l m = if m = n then c else bitAt d.l m := by
  have hl := d.h
  unfold putBit bitAt
  show bitB (nth (d.l.set (n / 8) (nth d.l (n / 8) ||| bitV c n)) (m / 8)).toNat (7 - m % 8) = _
  by_cases hb : m / 8 = n / 8
  · rw [hb]
    have e : nth (d.l.set (n / 8) (nth d.l (n / 8) ||| bitV c n)) (n / 8) = nth d.l (n / 8) ||| bitV c n := nth_setE (by omega) _
    rw [e]
    rcases hc with rfl | rfl
    · have e0 : bitV 48 n = 0 := by unfold bitV; simp
      rw [e0]
      have e1 : nth d.l (n / 8) ||| 0 = nth d.l (n / 8) := by simp
      rw [e1]
      by_cases q : m = n
      · rw [if_pos q, q]; exact h0
      · rw [if_neg q]
    · have e1 : bitV 49 n = UInt8.ofNat (2 ^ (7 - n % 8)) := by unfold bitV; simp
      rw [e1, bitB_or _ (by omega)]
      by_cases q : m = n
      · rw [if_pos q, if_pos (by rw [q])]
      · rw [if_neg q, if_neg (by omega)]
  · rw [if_neg (by intro e; rw [e] at hb; exact hb rfl)]
    have e : nth (d.l.set (n / 8) (nth d.l (n / 8) ||| bitV c n)) (m / 8) = nth d.l (m / 8) := nth_setN hb _
    rw [e]
theorem bitAt_puts : ∀ {c : List UInt8} {d : Bk} {n : Nat}, (∀ x ∈ c, x = 48 ∨ x = 49) → n + c.length ≤ 240 → (∀ m, n ≤ m → bitAt d.l m = 48) → ∀ m, bitAt (putBits d n c).l m = if n ≤ m ∧ m < n + c.length then nth c (m - n) else bitAt d.l m
  | [], d, n, _, _, _, m => by
    rw [if_neg (by simp only [List.length_nil]; omega)]; rfl
  | x :: c, d, n, hc, hl, h0, m => by
    have hl : n + (c.length + 1) ≤ 240 := hl
    have hx := hc x List.mem_cons_self
    have h1 := fun m => bitAt_put (m := m) hx (show n < 240 by omega) (h0 n (Nat.le_refl n))
    show bitAt (putBits (putBit d n x) (n + 1) c).l m = _
    rw [bitAt_puts (fun y hy => hc y (List.mem_cons_of_mem _ hy)) (by omega) (fun q hq => by rw [h1, if_neg (by omega)]; exact h0 q (by omega)) m, h1]
    rw [List.length_cons]
    by_cases q : m = n
    · subst q
      rw [if_neg (by omega), if_pos rfl, if_pos (by omega), Nat.sub_self]; rfl
    · rw [if_neg q]
      by_cases q2 : n + 1 ≤ m ∧ m < n + 1 + c.length
      · rw [if_pos q2, if_pos (by omega)]
        have e : m - n = (m - (n + 1)) + 1 := by omega
        rw [e]; rfl
      · rw [if_neg q2, if_neg (by omega)]
theorem putBits_keep {c : List UInt8} : ∀ {d : Bk} {n i : Nat}, n + c.length ≤ 8 * i → nth (putBits d n c).l i = nth d.l i := by
  induction c with
  | nil => intro d n i _; rfl
  | cons x c ih =>
    intro d n i h
    have h : n + (c.length + 1) ≤ 8 * i := h
    show nth (putBits (putBit d n x) (n + 1) c).l i = _
    rw [ih (by omega)]
    exact nth_setN (by omega) _
theorem nth_app_l {α : Type} [Inhabited α] {a b : List α} {i : Nat} (h : i < a.length) : nth (a ++ b) i = nth a i := by unfold nth; rw [List.getD_eq_getElem?_getD, List.getElem?_append_left h, List.getD_eq_getElem?_getD]
theorem nth_app_r {α : Type} [Inhabited α] {a b : List α} {i : Nat} (h : a.length ≤ i) : nth (a ++ b) i = nth b (i - a.length) := by unfold nth; rw [List.getD_eq_getElem?_getD, List.getElem?_append_right h, List.getD_eq_getElem?_getD]
theorem nth_rep {α : Type} [Inhabited α] {n i : Nat} {x : α} (h : i < n) : nth (List.replicate n x) i = x := by unfold nth; rw [List.getD_eq_getElem?_getD, List.getElem?_replicate, if_pos h]; rfl
theorem nth_takeL {α : Type} [Inhabited α] {a : List α} {i k : Nat} (h : i < k) : nth (a.take k) i = nth a i := by unfold nth; rw [List.getD_eq_getElem?_getD, List.getElem?_take, if_pos h, List.getD_eq_getElem?_getD]
theorem list_ext {α : Type} [Inhabited α] {a b : List α} (hl : a.length = b.length) (h : ∀ i, i < a.length → nth a i = nth b i) : a = b := by
  refine List.ext_getElem hl fun i h1 h2 => ?_
  rw [← nth_eq h1, ← nth_eq h2]; exact h i h1
theorem bitAt_zero (m : Nat) : bitAt zeroBk.l m = 48 := by
  have h : nth zeroBk.l (m / 8) = 0 := by
    show nth (List.replicate 32 (0 : UInt8)) (m / 8) = 0
    rcases Nat.lt_or_ge (m / 8) 32 with q | q
    · exact nth_rep q
    · unfold nth; rw [List.getD_eq_getElem?_getD, List.getElem?_eq_none (by rw [List.length_replicate]; exact q)]; rfl
  unfold bitAt
  rw [h]
  rcases bitB_cases (0 : UInt8).toNat (7 - m % 8) with ⟨_, q⟩ | ⟨q, _⟩
  · exact q
  · rw [show (0 : UInt8).toNat = 0 from rfl, Nat.zero_div] at q; cases q
/-- the digits of a chunk's block -/
theorem digs_blk {c : List UInt8} (hc : ∀ x ∈ c, x = 48 ∨ x = 49) (hl : c.length ≤ 240) : digs ((blkOf c).l.take 30) = c ++ List.replicate (240 - c.length) 48 := by
  have h32 := (blkOf c).h
  refine list_ext ?_ fun i hi => ?_
  · rw [digs_len, List.length_take, List.length_append, List.length_replicate]; omega
  · rw [digs_len, List.length_take] at hi
    rw [digs_nth (by rw [List.length_take]; exact hi), nth_takeL (by omega)]
    have h := bitAt_puts (d := zeroBk) (n := 0) hc (by omega) (fun m _ => bitAt_zero m) i
    have e : bitAt (putBits zeroBk 0 c).l i = bitB (nth (blkOf c).l (i / 8)).toNat (7 - i % 8) := rfl
    rw [← e, h, bitAt_zero]
    by_cases q : i < c.length
    · rw [if_pos (by omega), nth_app_l q]; rfl
    · rw [if_neg (by omega), nth_app_r (by omega), nth_rep (by omega)]
theorem blk_tail {c : List UInt8} (hl : c.length ≤ 240) : (blkOf c).l.drop 30 = [0, 0] := by
  have h32 := (blkOf c).h
  refine list_ext (by rw [List.length_drop]; simp; omega) fun i hi => ?_
  rw [List.length_drop] at hi
  have e : nth ((blkOf c).l.drop 30) i = nth (blkOf c).l (30 + i) := by unfold nth; rw [List.getD_eq_getElem?_getD, List.getElem?_drop, List.getD_eq_getElem?_getD]
  rw [e]
  have h := putBits_keep (c := c) (d := zeroBk) (n := 0) (i := 30 + i) (by omega)
  have h : nth (blkOf c).l (30 + i) = nth zeroBk.l (30 + i) := h
  rw [h]
  show nth (List.replicate 32 (0 : UInt8)) (30 + i) = _
  rw [nth_rep (by omega)]
  have : i = 0 ∨ i = 1 := by omega
  rcases this with rfl | rfl <;> rfl
/-- bytes are told by their digits -/
theorem byte_ext {x y : UInt8} (h : putP x.toNat 8 = putP y.toNat 8) : x = y := by
  have hb : ∀ i, i < 8 → bitB x.toNat i = bitB y.toNat i := fun i hi => by
    have q := congrArg (fun l => nth l (7 - i)) h
    have q : nth (putP x.toNat 8) (7 - i) = nth (putP y.toNat 8) (7 - i) := q
    rw [putP_nth (by omega), putP_nth (by omega)] at q
    rwa [show 8 - 1 - (7 - i) = i by omega] at q
  have ht : ∀ i, x.toNat.testBit i = y.toNat.testBit i := fun i => by
    rcases Nat.lt_or_ge i 8 with q | q
    · have e := hb i q
      rw [bitB_tb, bitB_tb] at e
      cases hx : x.toNat.testBit i <;> cases hy : y.toNat.testBit i <;> rw [hx, hy] at e <;> first | rfl | (exact absurd e (by decide))
    · have hp : 2 ^ 8 ≤ 2 ^ i := Nat.pow_le_pow_right (by decide) q
      have h1 := x.toNat_lt
      have h2 := y.toNat_lt
      rw [Nat.testBit_lt_two_pow (by omega), Nat.testBit_lt_two_pow (by omega)]
  exact UInt8.toNat_inj.1 (Nat.eq_of_testBit_eq ht)
theorem digs_inj : ∀ {a b : List UInt8}, digs a = digs b → a = b
  | [], [], _ => rfl
  | [], y :: b, h => by have := congrArg List.length h; rw [digs_len, digs_len] at this; simp at this
  | x :: a, [], h => by have := congrArg List.length h; rw [digs_len, digs_len] at this; simp at this
  | x :: a, y :: b, h => by
    rw [digs_cons, digs_cons] at h
    obtain ⟨h1, h2⟩ := List.append_inj h (by rw [putP_length, putP_length])
    rw [byte_ext h1, digs_inj h2]
/-! the bytes of all chunks -/
def dataP (t : List UInt8) : List UInt8 := (chunk t).flatMap fun c => (blkOf c).l.take 30
theorem dataP_eq (t : List UInt8) : dataP t = if t.length ≤ 240 then (blkOf t).l.take 30 else (blkOf (t.take 240)).l.take 30 ++ dataP (t.drop 240) := by
  unfold dataP
  rw [chunk_eq]
  by_cases h : t.length ≤ 240
  · rw [if_pos h, if_pos h]; simp
  · rw [if_neg h, if_neg h, List.flatMap_cons]
theorem blk30 (b : Bk) : (b.l.take 30).length = 30 := by rw [List.length_take, b.h]; rfl
theorem digs_data : ∀ (n : Nat) {t : List UInt8}, t.length ≤ n → (∀ x ∈ t, x = 48 ∨ x = 49) → ∃ z, z ≤ 240 ∧ (0 < t.length → z < 240) ∧ digs (dataP t) = t ++ List.replicate z 48 ∧ (dataP t).length % 30 = 0 := by
  intro n
  induction n with
  | zero =>
    intro t h hb
    refine ⟨240 - t.length, by omega, fun q => by omega, ?_, ?_⟩
    · rw [dataP_eq, if_pos (by omega)]; exact digs_blk hb (by omega)
    · rw [dataP_eq, if_pos (by omega), blk30]
  | succ n ih =>
    intro t h hb
    by_cases h2 : t.length ≤ 240
    · refine ⟨240 - t.length, by omega, fun q => by omega, ?_, ?_⟩
      · rw [dataP_eq, if_pos h2]; exact digs_blk hb h2
      · rw [dataP_eq, if_pos h2, blk30]
    · obtain ⟨z, h3, h4, h5, h6⟩ := ih (t := t.drop 240) (by rw [List.length_drop]; omega) (fun x hx => hb x (List.mem_of_mem_drop hx))
      have hl : (t.take 240).length = 240 := by rw [List.length_take]; omega
      refine ⟨z, h3, fun _ => h4 (by rw [List.length_drop]; omega), ?_, ?_⟩
      · rw [dataP_eq, if_neg h2, digs_app, digs_blk (fun x hx => hb x (List.mem_of_mem_take hx)) (by omega), h5, hl]
        show t.take 240 ++ [] ++ (t.drop 240 ++ List.replicate z 48) = _
        rw [List.append_nil, ← List.append_assoc, List.take_append_drop]
      · rw [dataP_eq, if_neg h2, List.length_append, blk30]; omega
/-- data are told by their digits and their length -/
theorem dataP_uniq {t out : List UInt8} {z : Nat} (ht : 0 < t.length) (hb : ∀ x ∈ t, x = 48 ∨ x = 49) (h1 : digs out = t ++ List.replicate z 48) (h2 : z < 240) (h3 : out.length % 30 = 0) : out = dataP t := by
  obtain ⟨y, _, q2, q3, q4⟩ := digs_data t.length (Nat.le_refl _) hb
  have q2 := q2 ht
  have e1 := congrArg List.length h1
  have e2 := congrArg List.length q3
  rw [digs_len, List.length_append, List.length_replicate] at e1 e2
  have : z = y := by omega
  subst this
  exact digs_inj (h1.trans q3.symm)
/-! ### the reference's Data and Write -/
theorem bitB_up {n d j : Nat} (hd : d ≤ 1) : bitB (2 * n + d) (j + 1) = bitB n j := by
  unfold bitB
  have e : (2 * n + d) / 2 ^ (j + 1) = n / 2 ^ j := by
    rw [Nat.pow_succ, Nat.mul_comm (2 ^ j) 2, ← Nat.div_div_eq_div_mul, show (2 * n + d) / 2 = n by omega]
  rw [e]
theorem putP_snoc {n d : Nat} (k : Nat) (hd : d ≤ 1) : putP (2 * n + d) (k + 1) = putP n k ++ [UInt8.ofNat (48 + d)] := by
  refine list_ext (by rw [putP_length, List.length_append, putP_length]; rfl) fun i hi => ?_
  rw [putP_length] at hi
  rw [putP_nth hi]
  by_cases q : i < k
  · rw [nth_app_l (by rw [putP_length]; exact q), putP_nth q, show k + 1 - 1 - i = (k - 1 - i) + 1 by omega, bitB_up hd]
  · rw [nth_app_r (by rw [putP_length]; omega), putP_length, show k + 1 - 1 - i = 0 by omega, show i - k = 0 by omega]
    show bitB (2 * n + d) 0 = UInt8.ofNat (48 + d)
    unfold bitB
    rw [Nat.pow_zero, Nat.div_one, show (2 * n + d) % 2 = d by omega]
    have : d = 0 ∨ d = 1 := by omega
    rcases this with rfl | rfl <;> rfl
theorem dat_next {out T : List UInt8} {b m : Nat} {c : UInt8} (h : digs out ++ putP b m = T) (hc : c = 48 ∨ c = 49) : digs out ++ putP (2 * b + (c.toNat - 48)) (m + 1) = T ++ [c] := by
  have hd : c.toNat - 48 ≤ 1 := by rcases hc with rfl | rfl <;> decide
  have e : UInt8.ofNat (48 + (c.toNat - 48)) = c := by rcases hc with rfl | rfl <;> rfl
  rw [putP_snoc m hd, e, ← List.append_assoc, h]
theorem dat_full {out : List UInt8} {b : Nat} (hb : b < 256) : digs (out ++ [UInt8.ofNat b]) = digs out ++ putP b 8 := by
  rw [digs_app]
  show digs out ++ (putP (UInt8.ofNat b).toNat 8 ++ []) = _
  rw [List.append_nil, UInt8.toNat_ofNat', Nat.mod_eq_of_lt (by simpa using hb)]
theorem dat_lt {b m : Nat} {c : UInt8} (h : b < 2 ^ m) (hc : c = 48 ∨ c = 49) : 2 * b + (c.toNat - 48) < 2 ^ (m + 1) := by
  have hd : c.toNat - 48 ≤ 1 := by rcases hc with rfl | rfl <;> decide
  rw [Nat.pow_succ]; omega
theorem pow_le8 {m : Nat} (h : m ≤ 8) : 2 ^ m ≤ 256 := by
  have := Nat.pow_le_pow_right (show 0 < 2 by decide) h
  simpa using this
theorem dat_pad {out T : List UInt8} {b m z : Nat} (h : digs out ++ putP b m = T ++ List.replicate z 48) : digs out ++ putP (2 * b) (m + 1) = T ++ List.replicate (z + 1) 48 := by
  have e := putP_snoc (n := b) (d := 0) m (Nat.zero_le _)
  rw [Nat.add_zero] at e
  rw [e, ← List.append_assoc, h, List.replicate_succ', ← List.append_assoc]; rfl
theorem dat_zero {out T : List UInt8} {z : Nat} (h : digs out = T ++ List.replicate z 48) : digs (out ++ [0]) = T ++ List.replicate (z + 8) 48 := by
  have e : putP (0 : UInt8).toNat 8 = List.replicate 8 48 := by decide
  rw [digs_app]
  show digs out ++ (putP (0 : UInt8).toNat 8 ++ []) = _
  rw [List.append_nil, e, h, List.append_assoc, List.replicate_append_replicate]
/-! the reference's Write: groups of up to four -/
/-- the bytes of data k -/
def dat30 (D : List UInt8) (k : Nat) : List UInt8 := (D.drop (30 * k)).take 30
/-- data as a block -/
def padB (x : List UInt8) (h : x.length = 30) : Bk := ⟨x ++ [0, 0], by rw [List.length_append, h]; rfl⟩
def mkB (x : List UInt8) : Bk := if h : x.length = 30 then padB x h else zeroBk
theorem mkB_take {x : List UInt8} (h : x.length = 30) : (mkB x).l.take 30 = x ∧ (mkB x).l = x ++ [0, 0] := by
  unfold mkB
  rw [dif_pos h]
  exact ⟨by show (x ++ [0, 0]).take 30 = x; rw [List.take_append_of_le_length (by omega), List.take_of_length_le (by omega)], rfl⟩
theorem Bk.eq_mk {b : Bk} (h : b.l.drop 30 = [0, 0]) : b = mkB (b.l.take 30) := by
  apply Bk.ext'
  rw [(mkB_take (blk30 b)).2, ← h, List.take_append_drop]
/-- the blocks of all data -/
def datBs (D : List UInt8) : Nat → List Bk
  | 0 => []
  | n + 1 => mkB (D.take 30) :: datBs (D.drop 30) n
theorem datBs_len : ∀ (n : Nat) (D : List UInt8), (datBs D n).length = n
  | 0, _ => rfl
  | n + 1, D => by rw [datBs, List.length_cons, datBs_len n]
theorem datBs_nth : ∀ {n k : Nat} {D : List UInt8}, k < n → nth (datBs D n) k = mkB (dat30 D k)
  | n + 1, 0, D, _ => rfl
  | n + 1, k + 1, D, h => by
    have e : nth (datBs D (n + 1)) (k + 1) = nth (datBs (D.drop 30) n) k := rfl
    rw [e, datBs_nth (by omega)]
    unfold dat30
    rw [List.drop_drop, show 30 + 30 * k = 30 * (k + 1) by omega]
theorem datBs_data : ∀ (n : Nat) (t : List UInt8), t.length ≤ n → datBs (dataP t) ((dataP t).length / 30) = (chunk t).map blkOf := by
  intro n
  induction n with
  | zero =>
    intro t h
    rw [dataP_eq, if_pos (by omega), blk30, chunk_eq, if_pos (by omega)]
    show [mkB (((blkOf t).l.take 30).take 30)] = [blkOf t]
    rw [List.take_take, Nat.min_self, ← Bk.eq_mk (blk_tail (by omega))]
  | succ n ih =>
    intro t h
    by_cases h2 : t.length ≤ 240
    · rw [dataP_eq, if_pos h2, blk30, chunk_eq, if_pos h2]
      show [mkB (((blkOf t).l.take 30).take 30)] = [blkOf t]
      rw [List.take_take, Nat.min_self, ← Bk.eq_mk (blk_tail h2)]
    · rw [dataP_eq, if_neg h2, chunk_eq, if_neg h2, List.length_append, blk30, show (30 + (dataP (t.drop 240)).length) / 30 = (dataP (t.drop 240)).length / 30 + 1 by omega]
      have hl := blk30 (blkOf (t.take 240))
      show mkB (((blkOf (t.take 240)).l.take 30 ++ dataP (t.drop 240)).take 30) :: datBs (((blkOf (t.take 240)).l.take 30 ++ dataP (t.drop 240)).drop 30) _ = blkOf (t.take 240) :: (chunk (t.drop 240)).map blkOf
      rw [List.take_append_of_le_length (by omega), List.take_take, Nat.min_self, List.drop_append_of_le_length (by omega), List.drop_of_length_le (by omega), List.nil_append, ih (t.drop 240) (by rw [List.length_drop]; omega), ← Bk.eq_mk (blk_tail (by rw [List.length_take]; omega))]
/-- the reference's blocks out of its data -/
def rBlks (D : List UInt8) : List Bk := grpN (D.length / 30) [] (datBs D (D.length / 30))
theorem rBlks_eq (t : List UInt8) : rBlks (dataP t) = fillP t := by
  unfold rBlks
  rw [datBs_data t.length t (Nat.le_refl _), fillP_eq, ← grp_eq _ _ [] (by rw [← datBs_data t.length t (Nat.le_refl _), datBs_len]; exact Nat.le_refl _) rfl]
theorem grpN_more : ∀ (n m : Nat) (v ds : List Bk), ds.length ≤ n → ds.length ≤ m → grpN n v ds = grpN m v ds
  | 0, m, v, ds, h, _ => by
    have : ds = [] := List.length_eq_zero_iff.1 (by omega)
    subst this
    cases m <;> simp [grpN]
  | n + 1, 0, v, ds, _, h => by
    have : ds = [] := List.length_eq_zero_iff.1 (by omega)
    subst this
    simp [grpN]
  | n + 1, m + 1, v, ds, h1, h2 => by
    unfold grpN
    split
    · rfl
    · exact grpN_more n m _ _ (by rw [List.length_drop]; omega) (by rw [List.length_drop]; omega)
theorem mix_take (a b : Bk) : (a.mix b).l.take 30 = List.zipWith (· ^^^ ·) (a.l.take 30) (b.l.take 30) := by
  have h1 : (List.zipWith (· ^^^ ·) (a.l.take 30) (b.l.take 30)).length = 30 := by rw [List.length_zipWith, blk30, blk30]; rfl
  show (List.zipWith (· ^^^ ·) (a.l.take 30) (b.l.take 30) ++ a.l.drop 30).take 30 = _
  rw [List.take_append_of_le_length (by omega), List.take_of_length_le (by omega)]
theorem mixK_lenN {n k : Nat} {l os : List UInt8} (h : l.length = n) (ho : os.length = n) (hk : k ≤ n) : (mixK k l os).length = n := by
  unfold mixK; simp; omega
theorem mixK_nthN {n k : Nat} {l os : List UInt8} (h : l.length = n) (ho : os.length = n) (hk : k < n) : nth (mixK k l os) k = nth l k := by
  have hl : (List.zipWith (· ^^^ ·) (l.take k) (os.take k)).length = k := by simp; omega
  unfold nth mixK
  rw [List.getD_eq_getElem?_getD, List.getD_eq_getElem?_getD, List.getElem?_append_right (by omega), hl, Nat.sub_self, List.getElem?_drop, Nat.add_zero]
theorem mixK_stepN {n k : Nat} {l os : List UInt8} (h : l.length = n) (ho : os.length = n) (hk : k < n) : (mixK k l os).set k (nth l k ^^^ nth os k) = mixK (k + 1) l os := by
  unfold mixK
  have hl : (List.zipWith (· ^^^ ·) (l.take k) (os.take k)).length = k := by simp; omega
  rw [List.set_append_right _ _ (by omega), hl, Nat.sub_self, drop_nth (show k < l.length by omega), List.set_cons_zero, take_nth (show k < l.length by omega), take_nth (show k < os.length by omega), List.zipWith_append (by simp; omega)]
  simp
theorem mixK_fullN {n : Nat} {l os : List UInt8} (h : l.length = n) (ho : os.length = n) : mixK n l os = List.zipWith (· ^^^ ·) l os := by
  unfold mixK
  rw [List.take_of_length_le (by omega), List.take_of_length_le (by omega), List.drop_of_length_le (by omega), List.append_nil]
theorem shutB_mk (b : Bk) (k : Nat) : (mkB (b.l.take 30)).shutB k = b.shutB k := by
  apply Bk.ext'
  show sealL (mkB (b.l.take 30)).l k = sealL b.l k
  unfold sealL chkP chkN
  rw [(mkB_take (blk30 b)).1]
def chkW (x : List UInt8) (k : Nat) : Int := (weighP x 65521 + 977 * (k : Int)) % 65521
theorem chkW_r (x : List UInt8) (k : Nat) : 0 ≤ chkW x k ∧ chkW x k < 65521 := ⟨Int.emod_nonneg _ (by decide), Int.emod_lt_of_pos _ (by decide)⟩
theorem shutB_bytes {x : List UInt8} (h : x.length = 30) (k : Nat) : ((mkB x).shutB k).l = x ++ [UInt8.ofNat ((chkW x k).toNat / 256), UInt8.ofNat ((chkW x k).toNat % 256)] := by
  show sealL (mkB x).l k = _
  unfold sealL chkP chkN chkW
  rw [(mkB_take h).1]
theorem u8_div {e : Int} (h0 : 0 ≤ e) (h1 : e < 65536) : e / 256 = ((UInt8.ofNat (e.toNat / 256)).toNat : Int) ∧ e % 256 = ((UInt8.ofNat (e.toNat % 256)).toNat : Int) := by
  rw [UInt8.toNat_ofNat', UInt8.toNat_ofNat']
  omega
theorem u8_ofN {n : Nat} (h : n < 256) : ((UInt8.ofNat n).toNat : Int) = (n : Int) := by
  rw [UInt8.toNat_ofNat']; omega
theorem dat30_len {D : List UInt8} {k : Nat} (h : 30 * k + 30 ≤ D.length) : (dat30 D k).length = 30 := by
  unfold dat30; rw [List.length_take, List.length_drop]; omega
theorem dat30_nth {D : List UInt8} {k i : Nat} (hi : i < 30) : nth (dat30 D k) i = nth D (30 * k + i) := by
  unfold dat30
  rw [nth_takeL hi]
  unfold nth
  rw [List.getD_eq_getElem?_getD, List.getElem?_drop, List.getD_eq_getElem?_getD]
/-! the reference's Bits -/
def entB (m : Int) (x : Ent) : List (List UInt8) := [putP (x.k - 1).toNat 2, codeP (x.m - m).toNat, codeP (x.h - 1).toNat] ++ (if plK x.k = true then [codeP x.p.toNat] else [codeP (x.b - 1).toNat, codeP (x.t - 1).toNat])
def bitsG (m : Int) : List Ent → List (List UInt8)
  | [] => []
  | x :: r => entB m x ++ bitsG x.m r
def bitsP (l : List Ent) : List (List UInt8) := codeP ((l.length : Int) - 1).toNat :: bitsG 0 l
theorem bitsG_snoc (x : Ent) : ∀ (l : List Ent) (m : Int), bitsG m (l ++ [x]) = bitsG m l ++ entB (lastM m l) x
  | [], m => by simp [bitsG, lastM]
  | y :: l, m => by
    simp only [List.cons_append, bitsG, lastM, bitsG_snoc x l y.m, List.append_assoc]
theorem entB_flat (m : Int) (x : Ent) : (entB m x).flatten = entP m x := by
  unfold entB entP codesP
  split <;> simp
theorem bitsG_flat : ∀ (l : List Ent) (m : Int), (bitsG m l).flatten = entsG m l
  | [], _ => rfl
  | x :: l, m => by
    simp only [bitsG, entsG, List.flatten_append, entB_flat, bitsG_flat l x.m]
theorem bitsP_flat (l : List Ent) : (bitsP l).flatten = tapeP l := by
  unfold bitsP tapeP
  rw [List.flatten_cons, bitsG_flat, codesP_one]
theorem bitsP_bits {l : List Ent} : ∀ x ∈ bitsP l, ∀ c ∈ x, c = 48 ∨ c = 49 := fun x hx c hc => tapeP_bits (l := l) c (by rw [← bitsP_flat]; exact List.mem_flatten.2 ⟨x, hx, hc⟩)
theorem bitsP_len : ∀ (l : List Ent) (m : Int), (bitsG m l).length ≤ 5 * l.length
  | [], _ => Nat.zero_le _
  | x :: l, m => by
    have := bitsP_len l x.m
    simp only [bitsG, List.length_append, List.length_cons]
    unfold entB
    split <;> simp <;> omega
theorem codeP_pos (n : Nat) : 0 < (codeP n).length := by rw [codeP_length]; omega
/-- the reference's log -/
def rLogP (l : List Ent) : List UInt8 := bytesP (rBlks (dataP (bitsP l).flatten))
theorem rLogP_eq {l : List Ent} (_h : chkE l = 0) : rLogP l = bytesP (writeP l) := by
  unfold rLogP writeP
  rw [bitsP_flat, rBlks_eq]
theorem grpN_nil (n : Nat) (v : List Bk) : grpN n v [] = v := by cases n <;> simp [grpN]
theorem grpN_step {n : Nat} {v ds : List Bk} (h0 : ds.length ≠ 0) (hn : ds.length ≤ n) : grpN n v ds = grpN n (shutG ((ds.take 4).foldl nextR (v, zeroBk))) (ds.drop 4) := by
  cases n with
  | zero => omega
  | succ n =>
    conv => lhs; unfold grpN
    rw [if_neg h0]
    exact grpN_more n (n + 1) _ _ (by rw [List.length_drop]; omega) (by rw [List.length_drop]; omega)
theorem foldR_snoc {v ds : List Bk} {i : Nat} (hi : i < ds.length) : (ds.take (i + 1)).foldl nextR (v, zeroBk) = nextR ((ds.take i).foldl nextR (v, zeroBk)) (nth ds i) := by
  rw [take_nth hi, List.foldl_append]; rfl

end Go.Proofs.YtjdcpnaocjddoaaGreatDoor
namespace Go.Proofs.YtjdcpnaocjddoaaGreatDoor
open Go Go.RowKit Go.Proofs.Tryz
theorem kindP_4 {k : Int} {s2 s3 : List UInt8} (_ : s2 = if k = 2 then [48, 49] else [48, 48]) (_ : s3 = if k = 3 then [49, 48] else s2) (h : k = 4) : ([49, 49] : List UInt8) = putP (k - 1).toNat 2 := by subst h; rfl
theorem kindP_n {k : Int} {s2 s3 : List UInt8} (h2 : s2 = if k = 2 then [48, 49] else [48, 48]) (h3 : s3 = if k = 3 then [49, 48] else s2) (hk : 1 ≤ k ∧ k ≤ 4) (h : ¬ k = 4) : s3 = putP (k - 1).toNat 2 := by
  subst h2 h3
  have : k = 1 ∨ k = 2 ∨ k = 3 := by omega
  rcases this with rfl | rfl | rfl <;> rfl

set_option maxHeartbeats 4000000 in
theorem rBits_c (l : List Ent) (al : Option Addr) (bl ol cl : Nat) (w0 : World) (hl : Sl encEnt 6 w0 al bl ol l) (hok0 : chkE l = 0) (hpos : 0 < w0.heap.size) :
    CallsV Tryz.prog 54 [.slice al l.length cl] w0 (fun v w' => (∃ a9 g9 c9, v = .slice a9 (List.length (bitsP l)) c9 ∧ Acc encStr 1 9 w0.heap.size w' a9 g9 c9 (bitsP l)) ∧ Ext w0 w') := by
 obtain ⟨hl1, hl2, hok⟩ := chkE_ok hok0
 refine f_n func54 ?_
 refine go ?_
 refine x_c func25 rfl rfl (by have h9 := rCode_c ((l.length : Int) - 1).toNat w0 (by omega); rw [Int.toNat_of_nonneg (by omega)] at h9; exact h9) ?_
 rintro _ w4 ⟨rfl, u5⟩ zu5
 refine x_l fun bk8 w9 ebk8 sbk8 B10 u11 => ?_
 refine go ?_
 refine x_l2 (fun i => i = bk8 ∨ w9.heap.size ≤ i) [0] (fun (j : Nat) (q : (Option Addr × Nat × Nat)) => [(3, .slice q.1 (((codeP ((l.length : Int) - 1).toNat) :: bitsG 0 (l.take j)).length) q.2.2), (4, .int .i64 (lastM 0 (l.take j))), (5, .int .i64 (j : Int))]) (fun j q w => (j ≤ l.length) ∧ (Acc encStr 1 9 bk8 w q.1 q.2.1 q.2.2 ((codeP ((l.length : Int) - 1).toNat) :: bitsG 0 (l.take j))) ∧ (q.2.1 = bk8 ∨ w9.heap.size ≤ q.2.1)) (fun j q => l.length - j) 0 (some ⟨bk8, 0, none⟩, bk8, 1) ⟨(Nat.zero_le _), (Acc.ofBlk (xs := [(codeP ((l.length : Int) - 1).toNat)]) encStr 1 (fun _ => rfl) B10 (Nat.le_refl _) (by simp)), (.inl rfl)⟩ ?_
 rintro j q w16 ⟨hj, hA, hgW⟩ u17 zu17 K15 hK15
 have lt_q_2_1 := hA.lt
 have hll := bitsP_len (l.take j) 0
 rw [List.length_take, Nat.min_eq_left hj] at hll
 have hgl := hA.lt
 have hLl : ((codeP ((l.length : Int) - 1).toNat) :: bitsG 0 (l.take j)).length = (bitsG 0 (l.take j)).length + 1 := List.length_cons
 refine go ?_
 refine q_p (fun g16 => ?_) fun g16 => ?_
 ·
  have hblt := hl.lt (by omega)
  obtain ⟨hx0, hasc⟩ := chkG_at hok (show j < l.length by omega)
  obtain ⟨x1, x2, x3, x4, x5, x6, x7⟩ := okEnt_iff hx0
  have hm0 : 0 ≤ (lastM 0 (l.take j)) := lastM_ge (chkG_take j hok)
  refine go ?_
  refine g_i j (hl.keep ((((Upd.refl (fun _ => False) w0).nx u5).nx u11).next u17 (fun i hi h => by omega)) (fun _ h => h)) (fun _ => ?_)
  refine go ?_
  refine x_n fun bk24 w25 ebk24 sbk24 B26 u27 => ?_
  refine x_s fun w29 sw29 B31 u30 => ?_
  iterate 7 refine st1 ?_
  refine x_k1 (fun _ => False) [0, 3, 4, 5, 6] (fun (s2 : List UInt8) => [(7, .string (strB s2))]) (fun s2 w => (s2 = if (nth l j).k = 2 then [48, 49] else [48, 48])) (fun K38 hK38 => ?_) ?_
  ·
   refine go ?_
   refine q_p (fun g25 => ?_) fun g25 => ?_
   ·
    refine go ?_
    exact hK38 ([48, 49]) (by rw [if_pos (by omega)])
   refine go ?_
   exact hK38 ([48, 48]) (by rw [if_neg (by omega)])
  rintro s2 w39 hs2 u40 zu40
  refine x_k1 (fun _ => False) [0, 3, 4, 5, 6] (fun (s3 : List UInt8) => [(7, .string (strB s3))]) (fun s3 w => (s3 = if (nth l j).k = 3 then [49, 48] else s2)) (fun K47 hK47 => ?_) ?_
  ·
   refine go ?_
   refine q_p (fun g28 => ?_) fun g28 => ?_
   ·
    refine go ?_
    exact hK47 ([49, 48]) (by rw [if_pos (by omega)])
   refine go ?_
   exact hK47 s2 (by rw [if_neg (by omega)])
  rintro s3 w48 hs3 u49 zu49
  refine x_k1 (fun _ => False) [0, 3, 4, 5, 6] (fun (z8 : Unit) => [(7, .string (strB (putP ((nth l j).k - 1).toNat 2)))]) (fun z8 w => True) (fun K56 hK56 => ?_) ?_
  ·
   refine go ?_
   refine q_p (fun g31 => ?_) fun g31 => ?_
   ·
    refine go ?_
    exact hK56 () trivial (hs := by exact ⟨(congrArg (fun z => some (Value.string (strB z))) (kindP_4 hs2 hs3 g31)), rfl, rfl, rfl, rfl, rfl, trivial⟩)
   refine go ?_
   exact hK56 () trivial (hs := by exact ⟨(congrArg (fun z => some (Value.string (strB z))) (kindP_n hs2 hs3 (by omega) g31)), rfl, rfl, rfl, rfl, rfl, trivial⟩)
  rintro z8 w57 _ u58 zu58
  refine go ?_
  refine c_drawnM follows (fun i => (i = q.2.1 ∧ bk8 ≤ i)) (OTl [0, 2, 4, 6, 8, 10, 14, 16, 18, 13, 21, 23, 25, 26]) (by kernel_rfl) fun w62 u63 => ?_
  have zu63 := u63.size
  refine go ?_
  refine x_c func25 rfl rfl (by have h9 := rCode_c (((nth l j).m) - (lastM 0 (l.take j))).toNat w62 (by omega); rw [Int.toNat_of_nonneg (by omega)] at h9; exact h9) ?_
  rintro _ w66 ⟨rfl, u67⟩ zu67
  refine go ?_
  refine x_c func25 rfl rfl (by have h9 := rCode_c (((nth l j).h) - 1).toNat w66 (by omega); rw [Int.toNat_of_nonneg (by omega)] at h9; exact h9) ?_
  rintro _ w71 ⟨rfl, u72⟩ zu72
  refine go ?_
  refine x_l fun bk75 w76 ebk75 sbk75 B77 u78 => ?_
  refine t_same 43 (v := .slice (some ⟨bk75, 0, none⟩) 3 3) rfl rfl ?_
  refine go ?_
  have D80 := (((((((((hA.keep u27 (fun _ h => h)).keep u30 (fun hb => show ¬ (q.2.1 = bk24) by first | omega | assumption)).keep u40 (fun _ h => h)).keep u49 (fun _ h => h)).keep u58 (fun _ h => h)).keep u63 (fun _ h => h)).keep u67 (fun _ h => h)).keep u72 (fun _ h => h)).keep u78 (fun _ h => h))
  refine t_appendAll (enc := encStr) (z := .string (strB ([]))) (bytes := 16) (k := 1) (base := bk8) (xs := ((codeP ((l.length : Int) - 1).toNat) :: bitsG 0 (l.take j))) (ys := [putP ((nth l j).k - 1).toNat 2, codeP ((nth l j).m - (lastM 0 (l.take j))).toNat, codeP ((nth l j).h - 1).toNat]) underlying105 (by kernel_rfl) rfl (by decide) (fun _ => rfl) (by intro x; simp [encStr, Value.oneCell']) rfl rfl rfl rfl D80 (SlStr.own (xs := [putP ((nth l j).k - 1).toNat 2, codeP ((nth l j).m - (lastM 0 (l.take j))).toNat, codeP ((nth l j).h - 1).toNat]) B77) (by omega) (by simp only [List.length_cons]; omega) (by simp only [List.length_cons, List.length_nil]; omega) (by decide) (fun ao81 gb82 cp83 w84 A85 u86 gegb82 lngb82 => ?_)
  have zu86 := u86.size
  have lt_gb82 := A85.lt
  iterate 5 refine st1 ?_
  refine x_k1 (fun _ => False) [0, 3, 5, 6] (fun (z9 : Bool) => [(52, .bool z9)]) (fun z9 w => (z9 = plK (nth l j).k)) (fun K93 hK93 => ?_) ?_
  ·
   refine go ?_
   refine t_splitp 48 rfl (fun g48 => ?_) (fun g48 => ?_)
   ·
    refine go ?_
    exact hK93 true (by unfold plK; first | exact (decide_eq_true (by omega)).symm | exact decide_eq_decide.2 (by omega) | exact (decide_eq_false (by omega)).symm)
   refine go ?_
   exact hK93 (decide ((nth l j).k = 3)) (by unfold plK; first | exact (decide_eq_true (by omega)).symm | exact decide_eq_decide.2 (by omega) | exact (decide_eq_false (by omega)).symm)
  rintro z9 w94 hz9 u95 zu95
  refine q_b (fun g52 => ?_) fun g52 => ?_
  ·
   have hk9 : ((nth l j).k = 1 ∨ (nth l j).k = 3) := by
     rw [hz9] at g52
     simpa [plK] using g52
   refine go ?_
   refine x_c func25 rfl rfl (by have h9 := rCode_c ((nth l j).p).toNat w94 (by omega); rw [Int.toNat_of_nonneg (by omega)] at h9; exact h9) ?_
   rintro _ w98 ⟨rfl, u99⟩ zu99
   refine x_l fun bk102 w103 ebk102 sbk102 B104 u105 => ?_
   have D107 := (((A85.keep u95 (fun _ h => h)).keep u99 (fun _ h => h)).keep u105 (fun _ h => h))
   refine t_append (z := .string (strB ([]))) (bytes := 16) (k := 1) (base := bk8) (codeP ((nth l j).p).toNat) underlying105 (by kernel_rfl) rfl (by decide) (fun _ => rfl) (by intro x; simp [encStr, Value.oneCell']) rfl rfl rfl rfl D107 B104 (by omega) (by simp only [List.length_append, List.length_cons, List.length_nil]; omega) (by decide) (fun ao108 gb109 cp110 w111 A112 u113 gegb109 lngb109 => ?_)
   have zu113 := u113.size
   have lt_gb109 := A112.lt
   refine go ?_
   have hst9 : ((codeP ((l.length : Int) - 1).toNat) :: bitsG 0 (l.take (j + 1))) = ((((codeP ((l.length : Int) - 1).toNat) :: bitsG 0 (l.take j)) ++ [putP ((nth l j).k - 1).toNat 2, codeP ((nth l j).m - (lastM 0 (l.take j))).toNat, codeP ((nth l j).h - 1).toNat]) ++ [(codeP ((nth l j).p).toNat)]) := (by rw [take_nth (by omega), bitsG_snoc]; unfold entB; rw [if_pos (by rw [← hz9]; exact g52)]; simp only [List.append_assoc, List.cons_append, List.nil_append])
   exact hK15 (j + 1) (ao108, gb109, cp110) ⟨(by omega), (by rw [hst9]; exact A112), (show gb109 = bk8 ∨ w9.heap.size ≤ gb109 by omega)⟩ (hs := by exact ⟨(by rw [hst9]; rfl), (congrArg (fun z => some (Value.int .i64 z)) (by rw [take_nth (by omega), lastM_snoc])), rfl, rfl, trivial⟩)
  have hk9 : ¬ ((nth l j).k = 1 ∨ (nth l j).k = 3) := by
    rw [hz9] at g52
    simpa [plK] using g52
  have x8 := x7 hk9
  refine c_drawnM follows (fun i => (i = gb82 ∧ bk8 ≤ i)) (OTl [0, 2, 4, 6, 10, 12, 14, 9, 17, 19, 21, 22]) (by kernel_rfl) fun w115 u116 => ?_
  have zu116 := u116.size
  refine go ?_
  refine x_c func25 rfl rfl (by have h9 := rCode_c (((nth l j).b) - 1).toNat w115 (by omega); rw [Int.toNat_of_nonneg (by omega)] at h9; exact h9) ?_
  rintro _ w119 ⟨rfl, u120⟩ zu120
  refine go ?_
  refine x_c func25 rfl rfl (by have h9 := rCode_c (((nth l j).t) - 1).toNat w119 (by omega); rw [Int.toNat_of_nonneg (by omega)] at h9; exact h9) ?_
  rintro _ w124 ⟨rfl, u125⟩ zu125
  refine go ?_
  refine x_l fun bk128 w129 ebk128 sbk128 B130 u131 => ?_
  refine t_same 68 (v := .slice (some ⟨bk128, 0, none⟩) 2 2) rfl rfl ?_
  refine go ?_
  have D133 := (((((A85.keep u95 (fun _ h => h)).keep u116 (fun _ h => h)).keep u120 (fun _ h => h)).keep u125 (fun _ h => h)).keep u131 (fun _ h => h))
  refine t_appendAll (enc := encStr) (z := .string (strB ([]))) (bytes := 16) (k := 1) (base := bk8) (xs := (((codeP ((l.length : Int) - 1).toNat) :: bitsG 0 (l.take j)) ++ [putP ((nth l j).k - 1).toNat 2, codeP ((nth l j).m - (lastM 0 (l.take j))).toNat, codeP ((nth l j).h - 1).toNat])) (ys := [codeP ((nth l j).b - 1).toNat, codeP ((nth l j).t - 1).toNat]) underlying105 (by kernel_rfl) rfl (by decide) (fun _ => rfl) (by intro x; simp [encStr, Value.oneCell']) rfl rfl rfl rfl D133 (SlStr.own (xs := [codeP ((nth l j).b - 1).toNat, codeP ((nth l j).t - 1).toNat]) B130) (by omega) (by simp only [List.length_append, List.length_cons, List.length_nil]; omega) (by simp only [List.length_cons, List.length_nil]; omega) (by decide) (fun ao134 gb135 cp136 w137 A138 u139 gegb135 lngb135 => ?_)
  have zu139 := u139.size
  have lt_gb135 := A138.lt
  refine go ?_
  have hst9 : ((codeP ((l.length : Int) - 1).toNat) :: bitsG 0 (l.take (j + 1))) = ((((codeP ((l.length : Int) - 1).toNat) :: bitsG 0 (l.take j)) ++ [putP ((nth l j).k - 1).toNat 2, codeP ((nth l j).m - (lastM 0 (l.take j))).toNat, codeP ((nth l j).h - 1).toNat]) ++ [codeP ((nth l j).b - 1).toNat, codeP ((nth l j).t - 1).toNat]) := (by rw [take_nth (by omega), bitsG_snoc]; unfold entB; rw [if_neg (by rw [← hz9, g52]; exact Bool.false_ne_true)]; simp only [List.append_assoc, List.cons_append, List.nil_append])
  exact hK15 (j + 1) (ao134, gb135, cp136) ⟨(by omega), (by rw [hst9]; exact A138), (show gb135 = bk8 ∨ w9.heap.size ≤ gb135 by omega)⟩ (hs := by exact ⟨(by rw [hst9]; rfl), (congrArg (fun z => some (Value.int .i64 z)) (by rw [take_nth (by omega), lastM_snoc])), rfl, rfl, trivial⟩)
 have hjt : l.take j = l := List.take_of_length_le (by omega)
 refine go ?_
 refine f_1 results54 ?_
 have hfin : ((codeP ((l.length : Int) - 1).toNat) :: bitsG 0 (l.take j)) = bitsP l := by rw [hjt]; rfl
 rw [hfin] at hA
 obtain ⟨gz, hz⟩ := Acc.lower (base' := w0.heap.size) hA (by omega) hpos
 exact ⟨⟨_, gz, _, by rw [hfin], hz⟩, u_d⟩

end Go.Proofs.YtjdcpnaocjddoaaGreatDoor
namespace Go.Proofs.YtjdcpnaocjddoaaGreatDoor
open Go Go.RowKit Go.Proofs.Tryz
theorem flat_mem {bs : List (List UInt8)} {x : List UInt8} (h : x ∈ bs) : x.length ≤ bs.flatten.length := by
  obtain ⟨a, b, rfl⟩ := List.append_of_mem h
  simp only [List.flatten_append, List.flatten_cons, List.length_append]; omega
theorem flat_take (bs : List (List UInt8)) (i : Nat) : (bs.take i).flatten.length ≤ bs.flatten.length := by
  conv => rhs; rw [← List.take_append_drop i bs, List.flatten_append, List.length_append]
  omega
theorem flat_take2 {bs : List (List UInt8)} {i : Nat} (h : i < bs.length) : (bs.take i).flatten.length + (nth bs i).length ≤ bs.flatten.length := by
  have h1 := flat_take bs (i + 1)
  rw [take_nth h, List.flatten_append, List.length_append] at h1
  simpa using h1

set_option maxHeartbeats 4000000 in
theorem rData_c (bs : List (List UInt8)) (ab : Option Addr) (bb ob cb : Nat) (w0 : World) (hs : Sl encStr 1 w0 ab bb ob bs) (hb : ∀ x ∈ bs, ∀ c ∈ x, c = 48 ∨ c = 49) (hT0 : 0 < bs.flatten.length) (hTl : bs.flatten.length ≤ 900000) (hbl : bs.length ≤ 1000000) (hpos : 0 < w0.heap.size) :
    CallsV Tryz.prog 53 [.slice ab bs.length cb] w0 (fun v w' => (∃ a9 g9 c9, v = .slice a9 (List.length (dataP bs.flatten)) c9 ∧ Acc encY 1 5 w0.heap.size w' a9 g9 c9 (dataP bs.flatten)) ∧ Ext w0 w') := by
 refine f_n func53 ?_
 refine go ?_
 refine x_l fun bk3 w4 ebk3 sbk3 B5 u6 => ?_
 refine go ?_
 refine x_l5 (fun i => i = bk3 ∨ w4.heap.size ≤ i) [0] (fun (i : Nat) (o1 : List UInt8) (q : (Option Addr × Nat × Nat)) (y : Nat) (m : Nat) => [(3, .slice q.1 o1.length q.2.2), (4, .int .i64 (y : Int)), (5, .int .i64 (m : Int)), (6, .int .i64 (i : Int))]) (fun i o1 q y m w => (i ≤ bs.length) ∧ (Acc encY 1 5 bk3 w q.1 q.2.1 q.2.2 o1) ∧ (q.2.1 = bk3 ∨ w4.heap.size ≤ q.2.1) ∧ (digs o1 ++ putP y m = (bs.take i).flatten) ∧ (m < 8) ∧ (y < 2 ^ m)) (fun i o1 q y m => bs.length - i) 0 ([]) (some ⟨bk3, 0, none⟩, bk3, 0) 0 0 ⟨(Nat.zero_le _), (Acc.ofBlk (xs := ([] : List UInt8)) encY 1 (fun _ => rfl) B5 (Nat.le_refl _) (by decide)), (.inl rfl), rfl, (by decide), (by decide)⟩ ?_
 rintro i o1 q y m w11 ⟨hi, hAq, hqW, hd, hm, hy⟩ u12 zu12 K10 hK10
 have lt_q_2_1 := hAq.lt
 have hgl := hAq.lt
 have hdl := congrArg List.length hd
 rw [List.length_append, digs_len, putP_length] at hdl
 have htl := flat_take bs i
 refine go ?_
 refine q_p (fun g12 => ?_) fun g12 => ?_
 ·
  have hblt := hs.lt (by omega)
  have hxl := flat_mem (nth_mem (show i < bs.length by omega))
  have htn := flat_take2 (show i < bs.length by omega)
  refine go ?_
  refine x_l5 (fun i => i = bk3 ∨ w4.heap.size ≤ i) [0, 6] (fun (k : Nat) (o2 : List UInt8) (r : (Option Addr × Nat × Nat)) (y2 : Nat) (m2 : Nat) => [(3, .slice r.1 o2.length r.2.2), (4, .int .i64 (y2 : Int)), (5, .int .i64 (m2 : Int)), (7, .int .i64 (k : Int))]) (fun k o2 r y2 m2 w => (k ≤ (nth bs i).length) ∧ (Acc encY 1 5 bk3 w r.1 r.2.1 r.2.2 o2) ∧ (r.2.1 = bk3 ∨ w4.heap.size ≤ r.2.1) ∧ (digs o2 ++ putP y2 m2 = (bs.take i).flatten ++ (nth bs i).take k) ∧ (m2 < 8) ∧ (y2 < 2 ^ m2)) (fun k o2 r y2 m2 => (nth bs i).length - k) 0 o1 q y m ⟨(Nat.zero_le _), hAq, (by omega), (by rw [List.take_zero, List.append_nil]; exact hd), hm, hy⟩ ?_
  rintro k o2 r y2 m2 w19 ⟨hk, hAr, hrW, hd2, hm2, hy2⟩ u20 zu20 K18 hK18
  have E21 := Sc.mk ((((Upd.refl (fun _ => False) w0).nx u6).next u12 (fun i hi h => by omega)).next u20 (fun i hi h => by omega))
  have lt_r_2_1 := hAr.lt
  have hgl2 := hAr.lt
  have hdl2 := congrArg List.length hd2
  rw [List.length_append, digs_len, putP_length, List.length_append, List.length_take] at hdl2
  have hp2 := pow_le8 (show m2 ≤ 8 by omega)
  refine go ?_
  refine g_i i (hs.keep E21.u (fun _ h => h)) (fun _ => ?_)
  refine go ?_
  refine t_lenS underlying9 rfl rfl rfl rfl ?_
  refine go ?_
  refine q_p (fun g21 => ?_) fun g21 => ?_
  ·
   have hcb := hb _ (nth_mem (show i < bs.length by omega)) _ (nth_mem (show k < (nth bs i).length by omega))
   have hci : (((nth (nth bs i) k)).toNat : Int) = 48 ∨ (((nth (nth bs i) k)).toNat : Int) = 49 := by
     rcases hcb with e | e
     · rw [e]; exact .inl rfl
     · rw [e]; exact .inr rfl
   have hyl0 := dat_lt hy2 hcb
   refine go ?_
   refine g_i i (hs.keep E21.u (fun _ h => h)) (fun _ => ?_)
   refine go ?_
   refine t_idxS k underlying9 rfl rfl rfl rfl rfl (by omega) (t_bo (Bo.ari8 rfl (by omega)) rfl rfl rfl rfl (t_conv underlying5 underlying3 rfl rfl rfl (IntWalk.i64_in _ (by omega)) ?_))
   refine go ?_
   refine q_p (fun g38 => ?_) fun g38 => ?_
   ·
    have hyl : 2 * y2 + (((nth (nth bs i) k)).toNat - 48) < 256 := by have h9 := pow_le8 (show m2 + 1 ≤ 8 by omega); omega
    refine go ?_
    refine t_conv underlying3 underlying5 rfl rfl rfl (IntWalk.u8_in _ (by omega)) (t_same 41 (v := .int .u8 ((UInt8.ofNat (2 * y2 + ((nth (nth bs i) k).toNat - 48))).toNat : Int)) rfl (congrArg (Value.int .u8) (by rw [u8_ofN hyl]; omega)) ?_)
    refine x_l fun bk29 w30 ebk29 sbk29 B31 u32 => ?_
    have D34 := (hAr.keep u32 (fun _ h => h))
    refine t_append (z := .int .u8 0) (bytes := 1) (k := 1) (base := bk3) (UInt8.ofNat (2 * y2 + ((nth (nth bs i) k).toNat - 48))) underlying25 (by kernel_rfl) rfl (by decide) (fun _ => rfl) (by intro x; simp [encY, Value.oneCell']) rfl rfl rfl rfl D34 B31 (by omega) (by omega) (by decide) (fun ao35 gb36 cp37 w38 A39 u40 gegb36 lngb36 => ?_)
    have zu40 := u40.size
    have lt_gb36 := A39.lt
    refine go ?_
    exact hK18 (k + 1) (o2 ++ [UInt8.ofNat (2 * y2 + ((nth (nth bs i) k).toNat - 48))]) (ao35, gb36, cp37) 0 0 ⟨(by omega), A39, (show gb36 = bk3 ∨ w4.heap.size ≤ gb36 by omega), (by rw [take_nth (show k < (nth bs i).length by omega), ← List.append_assoc, ← dat_next hd2 hcb, dat_full hyl, show m2 + 1 = 8 by omega]; show _ ++ [] = _; rw [List.append_nil]), (by decide), (by decide)⟩ (hs := by exact ⟨rfl, (congrArg (fun z => some (Value.int .i64 z)) (by omega)), (congrArg (fun z => some (Value.int .i64 z)) (by omega)), rfl, rfl, rfl, trivial⟩)
   refine go ?_
   exact hK18 (k + 1) o2 r (2 * y2 + ((nth (nth bs i) k).toNat - 48)) (m2 + 1) ⟨(by omega), hAr, (show r.2.1 = bk3 ∨ w4.heap.size ≤ r.2.1 by omega), (by rw [take_nth (show k < (nth bs i).length by omega), ← List.append_assoc]; exact dat_next hd2 hcb), (by omega), (dat_lt hy2 hcb)⟩ (hs := by exact ⟨rfl, (congrArg (fun z => some (Value.int .i64 z)) (by omega)), (congrArg (fun z => some (Value.int .i64 z)) (by omega)), rfl, rfl, rfl, trivial⟩)
  refine go ?_
  exact hK10 (i + 1) o2 r y2 m2 ⟨(by omega), hAr, (show r.2.1 = bk3 ∨ w4.heap.size ≤ r.2.1 by omega), (by rw [hd2, take_nth (show i < bs.length by omega), List.flatten_append, List.take_of_length_le (show (nth bs i).length ≤ k by omega)]; simp), hm2, hy2⟩
 have hti : bs.take i = bs := List.take_of_length_le (by omega)
 rw [hti] at hd
 refine go ?_
 refine x_l3 (fun _ => False) [3] (fun (z : Nat) (y3 : Nat) (m3 : Nat) => [(4, .int .i64 (y3 : Int)), (5, .int .i64 (m3 : Int))]) (fun z y3 m3 w => (digs o1 ++ putP y3 m3 = bs.flatten ++ List.replicate z 48) ∧ (m3 ≤ 8) ∧ (y3 < 2 ^ m3) ∧ (z + m = m3) ∧ (m = 0 → m3 = 0)) (fun z y3 m3 => 8 - m3) 0 y m ⟨(by rw [hd]; simp), (by omega), hy, (by omega), (fun h => h)⟩ ?_
 rintro z y3 m3 w44 ⟨hd3, hm3, hy3, hzm, hmz⟩ u45 zu45 K43 hK43
 have hp3 := pow_le8 hm3
 refine st1 ?_
 refine x_k1 (fun _ => False) [3, 4, 5] (fun (z9 : Bool) => [(49, .bool z9)]) (fun z9 w => (z9 = decide (0 < m3 ∧ m3 < 8))) (fun K52 hK52 => ?_) ?_
 ·
  refine go ?_
  refine t_splitp 46 rfl (fun g46 => ?_) (fun g46 => ?_)
  ·
   refine go ?_
   exact hK52 (decide ((m3 : Int) < 8)) (by first | exact (decide_eq_false (by omega)).symm | exact decide_eq_decide.2 (by omega))
  refine go ?_
  exact hK52 false (by first | exact (decide_eq_false (by omega)).symm | exact decide_eq_decide.2 (by omega))
 rintro z9 w53 hz9 u54 zu54
 refine q_b (fun g49 => ?_) fun g49 => ?_
 ·
  have hz9b : 0 < m3 ∧ m3 < 8 := by rw [hz9] at g49; exact of_decide_eq_true g49
  refine go ?_
  exact hK43 (z + 1) (2 * y3) (m3 + 1) ⟨(dat_pad hd3), (by omega), (by rw [Nat.pow_succ]; omega), (by omega), (by omega)⟩ (hs := by exact ⟨(congrArg (fun z => some (Value.int .i64 z)) (by omega)), (congrArg (fun z => some (Value.int .i64 z)) (by omega)), rfl, trivial⟩)
 have hz9b : ¬ (0 < m3 ∧ m3 < 8) := by rw [hz9] at g49; exact of_decide_eq_false g49
 iterate 6 refine st1 ?_
 refine x_k3 (fun i => i = bk3 ∨ w4.heap.size ≤ i) [] (fun (o3 : List UInt8) (t : (Option Addr × Nat × Nat)) (z3 : Nat) => [(3, .slice t.1 o3.length t.2.2)]) (fun o3 t z3 w => (Acc encY 1 5 bk3 w t.1 t.2.1 t.2.2 o3) ∧ (t.2.1 = bk3 ∨ w4.heap.size ≤ t.2.1) ∧ (digs o3 = bs.flatten ++ List.replicate z3 48) ∧ (z3 ≤ 7) ∧ (o3.length ≤ bs.flatten.length + 1)) (fun K60 hK60 => ?_) ?_
 ·
  refine go ?_
  refine q_p (fun g55 => ?_) fun g55 => ?_
  ·
   refine go ?_
   refine t_conv underlying3 underlying5 rfl rfl rfl (IntWalk.u8_in _ (by omega)) (t_same 58 (v := .int .u8 ((UInt8.ofNat y3).toNat : Int)) rfl (congrArg (Value.int .u8) (by rw [u8_ofN (by have h9 := pow_le8 hm3; omega)])) ?_)
   refine x_l fun bk64 w65 ebk64 sbk64 B66 u67 => ?_
   have D69 := (((hAq.keep u45 (fun _ h => h)).keep u54 (fun _ h => h)).keep u67 (fun _ h => h))
   refine t_append (z := .int .u8 0) (bytes := 1) (k := 1) (base := bk3) (UInt8.ofNat y3) underlying25 (by kernel_rfl) rfl (by decide) (fun _ => rfl) (by intro x; simp [encY, Value.oneCell']) rfl rfl rfl rfl D69 B66 (by omega) (by omega) (by decide) (fun ao70 gb71 cp72 w73 A74 u75 gegb71 lngb71 => ?_)
   have zu75 := u75.size
   have lt_gb71 := A74.lt
   refine go ?_
   exact hK60 (o1 ++ [UInt8.ofNat y3]) (ao70, gb71, cp72) z ⟨A74, (show gb71 = bk3 ∨ w4.heap.size ≤ gb71 by omega), (by rw [dat_full (show y3 < 256 by have h9 := pow_le8 hm3; omega)]; rw [show m3 = 8 by omega] at hd3; exact hd3), (by omega), (by rw [List.length_append]; simp only [List.length_cons, List.length_nil]; omega)⟩
  refine go ?_
  have D77 := ((hAq.keep u45 (fun _ h => h)).keep u54 (fun _ h => h))
  exact hK60 o1 q z ⟨D77, (show q.2.1 = bk3 ∨ w4.heap.size ≤ q.2.1 by omega), (by rw [show m3 = 0 by omega] at hd3; have h9 : digs o1 ++ [] = _ := hd3; rw [List.append_nil] at h9; exact h9), (by omega), (by omega)⟩
 rintro o3 t z3 w61 ⟨hAt, htW, hd4, hz3, hl3⟩ u62 zu62
 have lt_t_2_1 := hAt.lt
 refine go ?_
 refine x_l3 (fun i => i = bk3 ∨ w4.heap.size ≤ i) [] (fun (o4 : List UInt8) (s : (Option Addr × Nat × Nat)) (z4 : Nat) => [(3, .slice s.1 o4.length s.2.2)]) (fun o4 s z4 w => (Acc encY 1 5 bk3 w s.1 s.2.1 s.2.2 o4) ∧ (s.2.1 = bk3 ∨ w4.heap.size ≤ s.2.1) ∧ (digs o4 = bs.flatten ++ List.replicate z4 48) ∧ (o4.length + (30 - o4.length % 30) % 30 = o3.length + (30 - o3.length % 30) % 30) ∧ (z4 = z3 + 8 * (o4.length - o3.length) ∧ o3.length ≤ o4.length)) (fun o4 s z4 => (30 - o4.length % 30) % 30) o3 t z3 ⟨hAt, (by omega), hd4, rfl, (by omega)⟩ ?_
 rintro o4 s z4 w81 ⟨hAs, hsW, hd5, hru, hz4⟩ u82 zu82 K80 hK80
 have lt_s_2_1 := hAs.lt
 have hgl4 := hAs.lt
 refine go ?_
 refine t_rem rfl rfl rfl rfl (by omega) (by omega) ?_
 refine go ?_
 refine q_p (fun g64 => ?_) fun g64 => ?_
 ·
  refine go ?_
  refine x_l fun bk86 w87 ebk86 sbk86 B88 u89 => ?_
  have D91 := (hAs.keep u89 (fun _ h => h))
  refine t_append (z := .int .u8 0) (bytes := 1) (k := 1) (base := bk3) (0 : UInt8) underlying25 (by kernel_rfl) rfl (by decide) (fun _ => rfl) (by intro x; simp [encY, Value.oneCell']) rfl rfl rfl rfl D91 B88 (by omega) (by omega) (by decide) (fun ao92 gb93 cp94 w95 A96 u97 gegb93 lngb93 => ?_)
  have zu97 := u97.size
  have lt_gb93 := A96.lt
  refine go ?_
  exact hK80 (o4 ++ [0]) (ao92, gb93, cp94) (z4 + 8) ⟨A96, (show gb93 = bk3 ∨ w4.heap.size ≤ gb93 by omega), (dat_zero hd5), (by rw [List.length_append]; simp only [List.length_cons, List.length_nil]; omega), (by rw [List.length_append]; simp only [List.length_cons, List.length_nil]; omega)⟩ (hm := (by simp only [List.length_append, List.length_cons, List.length_nil]; omega))
 refine go ?_
 refine f_1 results53 ?_
 have hfin := dataP_uniq hT0 (fun x hx => by obtain ⟨y9, hy9, hx9⟩ := List.mem_flatten.1 hx; exact hb y9 hy9 x hx9) hd5 (by omega) (by omega)
 obtain ⟨gz, hz⟩ := Acc.lower (base' := w0.heap.size) hAs (by omega) hpos
 rw [hfin] at hz
 exact ⟨⟨_, gz, _, by rw [hfin], hz⟩, u_d⟩

end Go.Proofs.YtjdcpnaocjddoaaGreatDoor
