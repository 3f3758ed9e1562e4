/-
  Part 13 of the proof: contracts and plain laws. Conditions: none.
-/
import Derived.RangeFuncNested
import Derived.RangeFuncBound
import Derived.RangeFuncLeaves
import Derived.Test.YtagmkfbbhfaceaaGreatDoorAK12
namespace Go.Proofs.YtagmkfbbhfaceaaGreatDoor
open Go Go.RowKit
set_option maxRecDepth 10000
/-! ### a log's closed form: chunks of 240 digits, blocks out of them, groups of four blocks and their parity -/
def nextG (s : List Bk × Bk) (d : Bk) : List Bk × Bk :=
  if (s.1.length + 1) % 5 = 4 then (s.1 ++ [d.shutB s.1.length] ++ [(s.2.mix d).shutB (s.1.length + 1)], zeroBk) else (s.1 ++ [d.shutB s.1.length], s.2.mix d)
def endG (s : List Bk × Bk) : List Bk := if s.1.length % 5 ≠ 0 then s.1 ++ [s.2.shutB s.1.length] else s.1
def putBits (d : Bk) (n : Nat) : List UInt8 → Bk
  | [] => d
  | c :: r => putBits (putBit d n c) (n + 1) r
def blkOf (c : List UInt8) : Bk := putBits zeroBk 0 c
def chunkN : Nat → List UInt8 → List (List UInt8)
  | 0, t => [t]
  | n + 1, t => if t.length ≤ 240 then [t] else t.take 240 :: chunkN n (t.drop 240)
/-- digits in chunks of 240 -/
def chunk (t : List UInt8) : List (List UInt8) := chunkN t.length t
theorem chunkN_eq : ∀ (n : Nat) (t : List UInt8), t.length ≤ n → chunkN n t = if t.length ≤ 240 then [t] else t.take 240 :: chunk (t.drop 240) := by
  have key : ∀ (n m : Nat) (t : List UInt8), t.length ≤ n → t.length ≤ m → chunkN n t = chunkN m t := by
    intro n
    induction n with
    | zero =>
      intro m t h _
      cases m with
      | zero => rfl
      | succ m => show [t] = _; unfold chunkN; rw [if_pos (by omega)]
    | succ n ih =>
      intro m t h1 h2
      cases m with
      | zero => conv => lhs; unfold chunkN
                rw [if_pos (by omega)]; rfl
      | succ m =>
        conv => lhs; unfold chunkN
        conv => rhs; unfold chunkN
        split
        · rfl
        · rw [ih m (t.drop 240) (by rw [List.length_drop]; omega) (by rw [List.length_drop]; omega)]
  intro n t h
  rw [key n (t.length + 1) t h (by omega)]
  conv => lhs; unfold chunkN
  split
  · rfl
  · rw [key t.length (t.drop 240).length (t.drop 240) (by rw [List.length_drop]; omega) (Nat.le_refl _)]; rfl
theorem chunk_eq (t : List UInt8) : chunk t = if t.length ≤ 240 then [t] else t.take 240 :: chunk (t.drop 240) := chunkN_eq t.length t (Nat.le_refl _)
theorem nextF_eq (s : Fs) : nextF s = ⟨(nextG (s.v, s.p) s.d).1, (nextG (s.v, s.p) s.d).2, zeroBk, 0⟩ := by
  unfold nextF nextG
  split <;> rfl
theorem stepF_lt {s : Fs} (h : s.n ≠ 240) (c : UInt8) : stepF s c = ⟨s.v, s.p, putBit s.d s.n c, s.n + 1⟩ := by
  unfold stepF fullF; rw [if_neg h]
theorem fold_step : ∀ (t : List UInt8) (s : Fs), s.n + t.length ≤ 240 → t.foldl stepF s = ⟨s.v, s.p, putBits s.d s.n t, s.n + t.length⟩
  | [], s, _ => rfl
  | c :: r, s, h => by
    have h : s.n + (r.length + 1) ≤ 240 := h
    rw [List.foldl_cons, stepF_lt (by omega), fold_step r _ (by show s.n + 1 + r.length ≤ 240; omega)]
    show (⟨s.v, s.p, putBits (putBit s.d s.n c) (s.n + 1) r, s.n + 1 + r.length⟩ : Fs) = ⟨s.v, s.p, putBits s.d s.n (c :: r), s.n + (c :: r).length⟩
    congr 1
    rw [List.length_cons]; omega
theorem fill_chunks : ∀ (n : Nat) (t : List UInt8) (s : Fs), t.length ≤ n → s.d = zeroBk → s.n = 0 → nextF (t.foldl stepF s) = ⟨(((chunk t).map blkOf).foldl nextG (s.v, s.p)).1, (((chunk t).map blkOf).foldl nextG (s.v, s.p)).2, zeroBk, 0⟩ := by
  intro n
  induction n with
  | zero =>
    intro t s h hd hn
    rw [fold_step t s (by omega), nextF_eq, chunk_eq, if_pos (by omega), hd, hn]; rfl
  | succ n ih =>
    intro t s h hd hn
    by_cases h2 : t.length ≤ 240
    · rw [fold_step t s (by omega), nextF_eq, chunk_eq, if_pos h2, hd, hn]; rfl
    · rw [chunk_eq, if_neg h2]
      have e : t = t.take 240 ++ t.drop 240 := (List.take_append_drop 240 t).symm
      have hl : (t.take 240).length = 240 := by rw [List.length_take]; omega
      obtain ⟨x, r, hx⟩ : ∃ x r, t.drop 240 = x :: r := by
        cases hq : t.drop 240 with
        | nil => have := congrArg List.length hq; rw [List.length_drop] at this; simp at this; omega
        | cons x r => exact ⟨x, r, rfl⟩
      have e1 : t.foldl stepF s = (t.drop 240).foldl stepF ((t.take 240).foldl stepF s) := by conv => lhs; rw [e, List.foldl_append]
      have e2 : (t.take 240).foldl stepF s = ⟨s.v, s.p, blkOf (t.take 240), 240⟩ := by rw [fold_step _ s (by omega), hd, hn, hl]; rfl
      have e3 : (t.drop 240).foldl stepF ⟨s.v, s.p, blkOf (t.take 240), 240⟩ = (t.drop 240).foldl stepF (nextF ⟨s.v, s.p, blkOf (t.take 240), 240⟩) := by
        rw [hx, List.foldl_cons, List.foldl_cons]
        congr 1
        unfold stepF
        have q1 : fullF ⟨s.v, s.p, blkOf (t.take 240), 240⟩ = nextF ⟨s.v, s.p, blkOf (t.take 240), 240⟩ := by unfold fullF; rw [if_pos rfl]
        have q2 : fullF (nextF ⟨s.v, s.p, blkOf (t.take 240), 240⟩) = nextF ⟨s.v, s.p, blkOf (t.take 240), 240⟩ := by rw [nextF_eq]; unfold fullF; rw [if_neg (by show (0 : Nat) ≠ 240; decide)]
        rw [q1, q2]
      rw [e1, e2, e3, ih (t.drop 240) _ (by rw [List.length_drop]; omega) (by rw [nextF_eq]) (by rw [nextF_eq]), nextF_eq]
      rfl
theorem fillP_eq (t : List UInt8) : fillP t = endG (((chunk t).map blkOf).foldl nextG ([], zeroBk)) := by
  unfold fillP fsP
  rw [fill_chunks t.length t ⟨[], zeroBk, zeroBk, 0⟩ (Nat.le_refl _) rfl rfl]
  rfl
/-! groups -/
def nextR (s : List Bk × Bk) (d : Bk) : List Bk × Bk := (s.1 ++ [d.shutB s.1.length], s.2.mix d)
theorem foldR_len : ∀ (ds : List Bk) (s : List Bk × Bk), (ds.foldl nextR s).1.length = s.1.length + ds.length
  | [], s => rfl
  | d :: ds, s => by rw [List.foldl_cons, foldR_len ds]; simp [nextR]; omega
def shutG (s : List Bk × Bk) : List Bk := s.1 ++ [s.2.shutB s.1.length]
theorem nextG_eq (s : List Bk × Bk) (d : Bk) : nextG s d = if (s.1.length + 1) % 5 = 4 then (shutG (nextR s d), zeroBk) else nextR s d := by
  unfold nextG shutG nextR
  split
  · simp
  · rfl
def grpN : Nat → List Bk → List Bk → List Bk
  | 0, v, _ => v
  | n + 1, v, ds => if ds.length = 0 then v else grpN n (shutG ((ds.take 4).foldl nextR (v, zeroBk))) (ds.drop 4)
theorem foldG_few : ∀ (ds : List Bk) (s : List Bk × Bk), s.1.length % 5 + ds.length ≤ 3 → ds.foldl nextG s = ds.foldl nextR s
  | [], _, _ => rfl
  | d :: ds, s, h => by
    have h : s.1.length % 5 + (ds.length + 1) ≤ 3 := h
    rw [List.foldl_cons, List.foldl_cons, nextG_eq, if_neg (by omega)]
    exact foldG_few ds _ (by simp only [nextR, List.length_append, List.length_cons, List.length_nil]; omega)
theorem grp_eq : ∀ (n : Nat) (ds v : List Bk), ds.length ≤ n → v.length % 5 = 0 → endG (ds.foldl nextG (v, zeroBk)) = grpN n v ds := by
  intro n
  induction n with
  | zero =>
    intro ds v h h5
    have : ds = [] := List.length_eq_zero_iff.1 (by omega)
    subst this
    show endG (v, zeroBk) = v
    unfold endG; rw [if_neg (by simpa using h5)]
  | succ n ih =>
    intro ds v h h5
    unfold grpN
    by_cases h0 : ds.length = 0
    · have : ds = [] := List.length_eq_zero_iff.1 h0
      subst this
      rw [if_pos h0]
      show endG (v, zeroBk) = v
      unfold endG; rw [if_neg (by simpa using h5)]
    · rw [if_neg h0]
      by_cases h4 : ds.length ≤ 3
      · rw [foldG_few ds (v, zeroBk) (by show v.length % 5 + ds.length ≤ 3; omega), List.take_of_length_le (by omega), List.drop_of_length_le (by omega)]
        have hl := foldR_len ds (v, zeroBk)
        have hl : (ds.foldl nextR (v, zeroBk)).1.length = v.length + ds.length := hl
        have e : ∀ w : List Bk, grpN n w [] = w := fun w => by cases n <;> simp [grpN]
        rw [e]
        unfold endG shutG
        rw [if_pos (by omega)]
      · have e : ds = ds.take 3 ++ nth ds 3 :: ds.drop 4 := by rw [← drop_nth (show 3 < ds.length by omega), List.take_append_drop]
        have e4 : ds.take 4 = ds.take 3 ++ [nth ds 3] := take_nth (show 3 < ds.length by omega)
        have hl3 : (ds.take 3).length = 3 := by rw [List.length_take]; omega
        have hl := foldR_len (ds.take 3) (v, zeroBk)
        have hl : ((ds.take 3).foldl nextR (v, zeroBk)).1.length = v.length + 3 := by rw [hl, hl3]
        have e1 : ds.foldl nextG (v, zeroBk) = (ds.drop 4).foldl nextG (shutG ((ds.take 4).foldl nextR (v, zeroBk)), zeroBk) := by
          conv => lhs; rw [e, List.foldl_append, List.foldl_cons, foldG_few (ds.take 3) (v, zeroBk) (by show v.length % 5 + (ds.take 3).length ≤ 3; omega), nextG_eq, if_pos (by omega)]
          rw [e4, List.foldl_append]; rfl
        rw [e1]
        refine ih (ds.drop 4) _ (by rw [List.length_drop]; omega) ?_
        unfold shutG
        rw [List.length_append, foldR_len, List.length_take]
        simp only [List.length_cons, List.length_nil]; omega
/-! digits of bytes -/
def digs (l : List UInt8) : List UInt8 := l.flatMap fun x => putP x.toNat 8
theorem digs_app (a b : List UInt8) : digs (a ++ b) = digs a ++ digs b := List.flatMap_append
theorem digs_cons (x : UInt8) (l : List UInt8) : digs (x :: l) = putP x.toNat 8 ++ digs l := rfl
theorem digs_len : ∀ l : List UInt8, (digs l).length = 8 * l.length
  | [] => rfl
  | x :: l => by rw [digs_cons, List.length_append, putP_length, digs_len l, List.length_cons]; omega
theorem bitB_tb (n i : Nat) : bitB n i = if n.testBit i = true then 49 else 48 := by
  have h := Nat.toNat_testBit n i
  rcases bitB_cases n i with ⟨h1, h2⟩ | ⟨h1, h2⟩
  · rw [h2, if_neg]; intro q; rw [q] at h; rw [h1] at h; cases h
  · rw [h2, if_pos]; cases q : n.testBit i
    · rw [q] at h; rw [h1] at h; cases h
    · rfl
theorem putP_nth {n k i : Nat} (hi : i < k) : nth (putP n k) i = bitB n (k - 1 - i) := by
  induction k generalizing i with
  | zero => omega
  | succ k ih =>
    cases i with
    | zero => rfl
    | succ i =>
      have e : nth (putP n (k + 1)) (i + 1) = nth (putP n k) i := rfl
      rw [e, ih (by omega)]; congr 1; omega
theorem digs_nth : ∀ {l : List UInt8} {j : Nat}, j < 8 * l.length → nth (digs l) j = bitB (nth l (j / 8)).toNat (7 - j % 8)
  | [], j, h => by simp at h
  | x :: l, j, h => by
    rw [digs_cons]
    have hl : (putP x.toNat 8).length = 8 := putP_length _ _
    by_cases hj : j < 8
    · have e : nth (putP x.toNat 8 ++ digs l) j = nth (putP x.toNat 8) j := by unfold nth; rw [List.getD_eq_getElem?_getD, List.getElem?_append_left (by omega), List.getD_eq_getElem?_getD]
      rw [e, putP_nth hj, show j / 8 = 0 by omega]
      show bitB x.toNat (8 - 1 - j) = bitB x.toNat (7 - j % 8)
      congr 1; omega
    · have e : nth (putP x.toNat 8 ++ digs l) j = nth (digs l) (j - 8) := by unfold nth; rw [List.getD_eq_getElem?_getD, List.getElem?_append_right (by omega), hl, List.getD_eq_getElem?_getD]
      rw [e, digs_nth (l := l) (j := j - 8) (by simp only [List.length_cons] at h; omega), show j / 8 = (j - 8) / 8 + 1 by omega]
      show bitB (nth l ((j - 8) / 8)).toNat (7 - (j - 8) % 8) = bitB (nth l ((j - 8) / 8)).toNat (7 - j % 8)
      congr 1; omega
/-- digit n of bytes -/
def bitAt (l : List UInt8) (n : Nat) : UInt8 := bitB (nth l (n / 8)).toNat (7 - n % 8)
theorem bitB_or (x : UInt8) {a b : Nat} (ha : a < 8) : bitB (x ||| UInt8.ofNat (2 ^ a)).toNat b = if b = a then 49 else bitB x.toNat b := by
  have h2 : 2 ^ a < 2 ^ 8 := Nat.pow_lt_pow_right (by decide) ha
  have e : (x ||| UInt8.ofNat (2 ^ a)).toNat = x.toNat ||| 2 ^ a := by
    rw [UInt8.toNat_or, UInt8.toNat_ofNat', Nat.mod_eq_of_lt h2]
  rw [e, bitB_tb, bitB_tb, Nat.testBit_or, Nat.testBit_two_pow]
  by_cases q : b = a
  · subst q; simp
  · rw [if_neg q]
    have : decide (a = b) = false := decide_eq_false (fun e => q e.symm)
    rw [this, Bool.or_false]
theorem bitAt_put {d : Bk} {n m : Nat} {c : UInt8} (hc : c = 48 ∨ c = 49) (hn : n < 240) (h0 : bitAt d.l n = 48) : bitAt (putBit d n c).l m = if m = n then c else bitAt d.l m := by
  have hl := d.h
  unfold putBit bitAt
  show bitB (nth (d.l.set (n / 8) (nth d.l (n / 8) ||| bitV c n)) (m / 8)).toNat (7 - m % 8) = _
  by_cases hb : m / 8 = n / 8
  · rw [hb]
    have e : nth (d.l.set (n / 8) (nth d.l (n / 8) ||| bitV c n)) (n / 8) = nth d.l (n / 8) ||| bitV c n := nth_setE (by omega) _
    rw [e]
    rcases hc with rfl | rfl
    · have e0 : bitV 48 n = 0 := by unfold bitV; simp
      rw [e0]
      have e1 : nth d.l (n / 8) ||| 0 = nth d.l (n / 8) := by simp
      rw [e1]
      by_cases q : m = n
      · rw [if_pos q, q]; exact h0
      · rw [if_neg q]
    · have e1 : bitV 49 n = UInt8.ofNat (2 ^ (7 - n % 8)) := by unfold bitV; simp
      rw [e1, bitB_or _ (by omega)]
      by_cases q : m = n
      · rw [if_pos q, if_pos (by rw [q])]
      · rw [if_neg q, if_neg (by omega)]
  · rw [if_neg (by intro e; rw [e] at hb; exact hb rfl)]
    have e : nth (d.l.set (n / 8) (nth d.l (n / 8) ||| bitV c n)) (m / 8) = nth d.l (m / 8) := nth_setN hb _
    rw [e]
theorem bitAt_puts : ∀ {c : List UInt8} {d : Bk} {n : Nat}, (∀ x ∈ c, x = 48 ∨ x = 49) → n + c.length ≤ 240 → (∀ m, n ≤ m → bitAt d.l m = 48) → ∀ m, bitAt (putBits d n c).l m = if n ≤ m ∧ m < n + c.length then nth c (m - n) else bitAt d.l m
  | [], d, n, _, _, _, m => by
    rw [if_neg (by simp only [List.length_nil]; omega)]; rfl
  | x :: c, d, n, hc, hl, h0, m => by
    have hl : n + (c.length + 1) ≤ 240 := hl
    have hx := hc x List.mem_cons_self
    have h1 := fun m => bitAt_put (m := m) hx (show n < 240 by omega) (h0 n (Nat.le_refl n))
    show bitAt (putBits (putBit d n x) (n + 1) c).l m = _
    rw [bitAt_puts (fun y hy => hc y (List.mem_cons_of_mem _ hy)) (by omega) (fun q hq => by rw [h1, if_neg (by omega)]; exact h0 q (by omega)) m, h1]
    rw [List.length_cons]
    by_cases q : m = n
    · subst q
      rw [if_neg (by omega), if_pos rfl, if_pos (by omega), Nat.sub_self]; rfl
    · rw [if_neg q]
      by_cases q2 : n + 1 ≤ m ∧ m < n + 1 + c.length
      · rw [if_pos q2, if_pos (by omega)]
        have e : m - n = (m - (n + 1)) + 1 := by omega
        rw [e]; rfl
      · rw [if_neg q2, if_neg (by omega)]
theorem nth_app_l {α : Type} [Inhabited α] {a b : List α} {i : Nat} (h : i < a.length) : nth (a ++ b) i = nth a i := by unfold nth; rw [List.getD_eq_getElem?_getD, List.getElem?_append_left h, List.getD_eq_getElem?_getD]
theorem nth_app_r {α : Type} [Inhabited α] {a b : List α} {i : Nat} (h : a.length ≤ i) : nth (a ++ b) i = nth b (i - a.length) := by unfold nth; rw [List.getD_eq_getElem?_getD, List.getElem?_append_right h, List.getD_eq_getElem?_getD]
theorem nth_rep {α : Type} [Inhabited α] {n i : Nat} {x : α} (h : i < n) : nth (List.replicate n x) i = x := by unfold nth; rw [List.getD_eq_getElem?_getD, List.getElem?_replicate, if_pos h]; rfl
theorem nth_takeL {α : Type} [Inhabited α] {a : List α} {i k : Nat} (h : i < k) : nth (a.take k) i = nth a i := by unfold nth; rw [List.getD_eq_getElem?_getD, List.getElem?_take, if_pos h, List.getD_eq_getElem?_getD]
theorem list_ext {α : Type} [Inhabited α] {a b : List α} (hl : a.length = b.length) (h : ∀ i, i < a.length → nth a i = nth b i) : a = b := by
  refine List.ext_getElem hl fun i h1 h2 => ?_
  rw [← nth_eq h1, ← nth_eq h2]; exact h i h1
theorem bitAt_zero (m : Nat) : bitAt zeroBk.l m = 48 := by
  have h : nth zeroBk.l (m / 8) = 0 := by
    show nth (List.replicate 32 (0 : UInt8)) (m / 8) = 0
    rcases Nat.lt_or_ge (m / 8) 32 with q | q
    · exact nth_rep q
    · unfold nth; rw [List.getD_eq_getElem?_getD, List.getElem?_eq_none (by rw [List.length_replicate]; exact q)]; rfl
  unfold bitAt
  rw [h]
  rcases bitB_cases (0 : UInt8).toNat (7 - m % 8) with ⟨_, q⟩ | ⟨q, _⟩
  · exact q
  · rw [show (0 : UInt8).toNat = 0 from rfl, Nat.zero_div] at q; cases q
/-- the digits of a chunk's block -/
theorem digs_blk {c : List UInt8} (hc : ∀ x ∈ c, x = 48 ∨ x = 49) (hl : c.length ≤ 240) : digs ((blkOf c).l.take 30) = c ++ List.replicate (240 - c.length) 48 := by
  have h32 := (blkOf c).h
  refine list_ext ?_ fun i hi => ?_
  · rw [digs_len, List.length_take, List.length_append, List.length_replicate]; omega
  · rw [digs_len, List.length_take] at hi
    rw [digs_nth (by rw [List.length_take]; exact hi), nth_takeL (by omega)]
    have h := bitAt_puts (d := zeroBk) (n := 0) hc (by omega) (fun m _ => bitAt_zero m) i
    have e : bitAt (putBits zeroBk 0 c).l i = bitB (nth (blkOf c).l (i / 8)).toNat (7 - i % 8) := rfl
    rw [← e, h, bitAt_zero]
    by_cases q : i < c.length
    · rw [if_pos (by omega), nth_app_l q]; rfl
    · rw [if_neg (by omega), nth_app_r (by omega), nth_rep (by omega)]
/-! the bytes of all chunks -/
theorem blk30 (b : Bk) : (b.l.take 30).length = 30 := by rw [List.length_take, b.h]; rfl
/-! ### the reference's Data and Write -/
/-! the reference's Write: groups of up to four -/
/-! the reference's Bits -/
theorem grpN_nil (n : Nat) (v : List Bk) : grpN n v [] = v := by cases n <;> simp [grpN]
theorem foldR_snoc {v ds : List Bk} {i : Nat} (hi : i < ds.length) : (ds.take (i + 1)).foldl nextR (v, zeroBk) = nextR ((ds.take i).foldl nextR (v, zeroBk)) (nth ds i) := by
  rw [take_nth hi, List.foldl_append]; rfl

end Go.Proofs.YtagmkfbbhfaceaaGreatDoor
namespace Go.Proofs.YtagmkfbbhfaceaaGreatDoor
open Go Go.RowKit
set_option maxRecDepth 10000

instance : DecidableEq Ent := fun a b => if h : a.m = b.m ∧ a.k = b.k ∧ a.h = b.h ∧ a.p = b.p ∧ a.b = b.b ∧ a.t = b.t then isTrue (by cases a; cases b; simp at h; simp [h]) else isFalse (fun e => h (by rw [e]; exact ⟨rfl, rfl, rfl, rfl, rfl, rfl⟩))



end Go.Proofs.YtagmkfbbhfaceaaGreatDoor
namespace Go.Proofs.YtagmkfbbhfaceaaGreatDoor
open Go Go.RowKit

theorem Ext.grownBy {w w' : World} (h : Ext w w') : w.grownBy w' none := ⟨h.os, h.tape, h.output, h.size, fun k hk _ => h.block k hk id⟩
theorem Upd.putObj (w : World) (l : Nat) (o : Obj) : Upd (· = l) w (w.putObj l o) := ⟨rfl, rfl, rfl, by simp, fun k _ hn => World.putObj_heap_other hn⟩

/-- What is said abides the turn of what is no cells, from B on. -/
theorem ownFrom_blk {β : Type} {B b : Nat} {t : TypeId} {f : β → List Value} : OwnFrom B (fun s w => Blk w b t (f s)) := fun s W W' row hs hg hr =>
  (hg.block b (Blk.lt hs) (fun e => by
    obtain ⟨_, o, ho, hc⟩ := hr b e.symm
    rw [show W.heap[b]? = _ from hs] at ho
    cases ho
    cases hc)).trans hs

theorem ownFrom_acc {β α : Type} {B : Nat} {enc : α → List Value} {k : Nat} {e : TypeId} {base : Nat} {ao : β → Option Addr} {g cap : β → Nat} {xs : β → List α} : OwnFrom B (fun s w => Acc enc k e base w (ao s) (g s) (cap s) (xs s)) := fun s W W' row hs hg hr => by
  refine ⟨Nat.lt_of_lt_of_le hs.lt hg.size, ?_⟩
  rcases hs.at_ with h1 | ⟨h1, h2, cur, h3, h4⟩
  · exact .inl h1
  · refine .inr ⟨h1, h2, cur, (hg.block _ hs.lt (fun e' => ?_)).trans h3, h4⟩
    obtain ⟨_, o, ho, hc⟩ := hr _ e'.symm
    rw [h3] at ho
    cases ho
    cases hc

theorem ownFrom_ex {β γ : Type} {B : Nat} {I : γ → β → World → Prop} (h : ∀ c, OwnFrom B (I c)) : OwnFrom B (fun s w => ∃ c, I c s w) := fun s W W' row hs hg hr => by
  obtain ⟨c, hc⟩ := hs
  exact ⟨c, h c s W W' row hc hg hr⟩

theorem ownFrom_upd {β : Type} {B : Nat} {S : Nat → Prop} {w0 : World} (hB : w0.heap.size ≤ B) : OwnFrom B (fun (_ : β) w => Upd S w0 w) := fun _ W W' row hs hg hr =>
  ⟨hg.os.trans hs.os, hg.tape.trans hs.tape, hg.output.trans hs.output, Nat.le_trans hs.size hg.size, fun k hk hn =>
    (hg.block k (Nat.lt_of_lt_of_le hk hs.size) (fun e => by have := (hr k e.symm).1; omega)).trans (hs.block k hk hn)⟩

/-- What may turn is cells. -/
def CellsIn (S : Nat → Prop) (w : World) : Prop := ∀ k, k < w.heap.size → S k → ∃ cur t f, w.heap[k]? = some (.cells cur t f)

theorem CellsIn.none (w : World) : CellsIn (fun _ => False) w := fun _ _ h => h.elim
theorem Blk.cellsIn {w : World} {b : Nat} {t : TypeId} {cs : List Value} (h : Blk w b t cs) : CellsIn (· = b) w := fun k _ e => by subst e; exact ⟨_, _, _, h⟩
theorem Acc.cellsIn {α : Type} {enc : α → List Value} {k : Nat} {e : TypeId} {base : Nat} {w : World} {ao : Option Addr} {g cap : Nat} {xs : List α} (h : Acc enc k e base w ao g cap xs) : CellsIn (fun i => i = g ∧ base ≤ i) w := fun i _ hi => by
  rcases h.at_ with ⟨_, _, _, h1⟩ | ⟨_, _, cur, h1, _⟩
  · omega
  · rw [hi.1]; exact ⟨_, _, _, h1⟩
theorem CellsIn.or {S T : Nat → Prop} {w : World} (h : CellsIn S w) (k : CellsIn T w) : CellsIn (fun i => S i ∨ T i) w := fun i hi h' => h'.elim (h i hi) (k i hi)

theorem KeepsFrom.of_upd {S : Nat → Prop} {B : Nat} {w w' : World} (u : Upd S w w') (h : CellsIn S w) : KeepsFrom B w w' :=
  ⟨u.size, fun k o _ hk ho => (u.block k (Array.getElem?_eq_some_iff.1 hk).1 (fun hs => by
    obtain ⟨c, t, f, hc⟩ := h k (Array.getElem?_eq_some_iff.1 hk).1 hs
    rw [hk] at hc
    cases hc
    cases ho)).trans hk⟩

/-! ### The marks of ended loops among the deferred calls -/
def mark (D : Nat) : Deferred := { target := .collected D, args := #[] }

/-- The deferred calls are the marks of loops in whose rounds nothing was deferred. -/
def Marks (base : Nat) : List Deferred → World → Prop
  | [], _ => True
  | d :: ds, w => (∃ D, d = mark D ∧ base ≤ D ∧ w.heap[D]? = some (.deferred (some [])) ∧ (∀ d' ∈ ds, ∀ D', d' = mark D' → D' < D)) ∧ Marks base ds w

theorem Marks.keep {base : Nat} {S : Nat → Prop} : ∀ {ds : List Deferred} {w w' : World}, Marks base ds w → Upd S w w' → CellsIn S w → Marks base ds w'
  | [], _, _, _, _, _ => trivial
  | d :: ds, w, w', h, u, hc => by
    obtain ⟨⟨D, h1, h2, h3, h4⟩, h5⟩ := h
    refine ⟨⟨D, h1, h2, ?_, h4⟩, h5.keep u hc⟩
    have hlt := lt_of_block h3
    refine (u.block D hlt (fun hs => ?_)).trans h3
    obtain ⟨c, t, f, hq⟩ := hc D hlt hs
    rw [h3] at hq
    cases hq

theorem Marks.lt {base : Nat} : ∀ {ds : List Deferred} {w : World}, Marks base ds w → ∀ d ∈ ds, ∀ D, d = mark D → D < w.heap.size
  | [], _, _, d, hd, _, _ => by cases hd
  | d :: ds, w, h, d', hd, D', e => by
    obtain ⟨⟨D, h1, h2, h3, h4⟩, h5⟩ := h
    rcases List.mem_cons.1 hd with rfl | hd
    · rw [h1] at e
      injection e with e
      injection e with e
      subst e
      exact lt_of_block h3
    · exact h5.lt d' hd D' e

theorem Marks.keepLow {base : Nat} {S : Nat → Prop} {B : Nat} : ∀ {ds : List Deferred} {w w' : World}, Marks base ds w → Upd S w w' → (∀ d ∈ ds, ∀ D, d = mark D → D < B) → (∀ k, S k → B ≤ k) → Marks base ds w'
  | [], _, _, _, _, _, _ => trivial
  | d :: ds, w, w', h, u, hB, hS => by
    obtain ⟨⟨D, h1, h2, h3, h4⟩, h5⟩ := h
    refine ⟨⟨D, h1, h2, ?_, h4⟩, h5.keepLow u (fun d' hd' => hB d' (by simp [hd'])) hS⟩
    exact (u.block D (lt_of_block h3) (fun hs => by have := hB d (by simp) D h1; have := hS D hs; omega)).trans h3

theorem Marks.push {base : Nat} {ds : List Deferred} {w : World} {D : Nat} (h : Marks base ds w) (hb : base ≤ D) (hD : w.heap[D]? = some (.deferred (some []))) (hn : ∀ d ∈ ds, ∀ D', d = mark D' → D' < D) : Marks base (mark D :: ds) w :=
  ⟨⟨D, rfl, hb, hD, hn⟩, h⟩

section steps
variable {rd : Option Nat} {P : Program} {ops : Array Oper} {Q : Exit → Act → World → Prop} {N : Nat} {ds : List Deferred} {rest : List Oper} {L : Slots} {w : World}
variable {d : Nat} {ty : TypeId} {pos : String} {aft : Array Edge} {g : Option (Nat × Bool)} {c : Code}

theorem roundIn_rnd {n m : Nat} {l : Nat} {f : FuncId} {tmps : Array Value} {assign body : Code} {R : Ending → World → Prop} (h : RoundIn Fence.wide m P l f tmps assign body w R) : RoundIn (rnd rd) n P l f tmps assign body w R := by
  obtain ⟨_, h2⟩ := h
  refine ⟨rnd_fn _ _, fun c cs _ => ?_⟩
  have := h2 c cs (room_wide _)
  cases rd with
  | none => exact this
  | some l => exact this

/-- A call of yield: one round. -/
theorem t_yield {f : Operand} {l m : Nat} {xs : Array Operand} {ats : Array TypeId} {vs : List Value} {R : Ending → World → Prop} (hg : grd ops L g = true) (hN : Nat.blt d N = true)
    (hf : ev L f = some (.func (.yield l) #[] #[])) (hv : evs L xs.toList = some vs) (hy : YieldAt Fence.wide m P l vs.toArray w R) (hR : ∀ e w', R e w' → ∃ v, e = .returned v)
    (h : ∀ v w', R (.returned v) w' → WL rd P ops Q N ds rest ((d, v) :: L) w') : WL rd P ops Q N ds (⟨some d, .call ⟨.value f, xs, ats⟩, ty, pos, aft, g⟩ :: rest) L w := by
  refine ⟨fun a ha => ?_⟩
  obtain ⟨fn, tmps, assign, body, hy1, hy2⟩ := hy
  have e1 : xs.map a.eval = vs.toArray := by rw [← ha.evs hv, ← Array.toList_map]
  have hr : (execOp a.eval ⟨some d, .call ⟨.value f, xs, ats⟩, ty, pos, aft, g⟩).run P w = .ok (.round l fn tmps assign body) w := by
    simp [execOp, resolve, ha.ev hf, Deferred.ofValue, invoke, e1, hy1]
  unfold wpListIn
  rw [if_pos (ha.wanted (o := ⟨some d, .call ⟨.value f, xs, ats⟩, ty, pos, aft, g⟩) hg)]
  unfold Oper.wpIn
  refine ⟨fun f _ => rnd_fn _ f, ?_⟩
  rw [semAt_of_ok (by simp) hr, Oper.uponIn_round]
  refine ⟨fun h => by simp [rnd_depth] at h, RoundIn.mono (roundIn_rnd hy2) ?_⟩
  intro e w' r
  obtain ⟨v, rfl⟩ := hR e w' r
  exact h v w' r _ (ha.put v hN)

theorem wpIn_rnd {n m : Nat} {a : Act} (h : c.wpIn (rnd rd) m P Q a w) : c.wpIn (rnd rd) n P Q a w :=
  fun b k cs hro hb _ => h b k cs hro hb (fun d hd => by rw [rnd_depth] at hd; cases hd)

/-- The statement 'for x := range g', g an iterator with a contract; the body never leaves the loop. -/
theorem c_range {α : Type} {go : Operand} {p : Nat} {assign body : Code} {gf : Nat} {lb : List Value} {enc : α → Value} {T : Nat → Prop} {S Sp : List α → Prop} {M m : Nat} (ho : Own P gf)
    (hp : Nat.blt p N = true) (hg : ev L go = some (.func (.func gf) #[] lb.toArray)) (hseq : SeqStopsK Fence.wide m P gf lb.toArray (fun x => #[enc x]) (Upd T) S Sp M w) (hT : ∀ k, w.heap.size ≤ k → T k)
    (I : List α → World → Prop) (hI : OwnFrom w.heap.size I) (h0 : I [] w) (La : α → Slots)
    (hassign : ∀ (l : Nat) (pre : List α) (x : α) (W : World) (K : Act → World → Prop), I pre W → (∀ L', Sub (La x) L' → QK K N [] L' W) → WC (some l) P (Exit.then K (fun _ _ _ => False)) N [] assign ((p, enc x) :: L) W)
    (hbody : ∀ (l : Nat) (pre : List α) (x : α) (W : World), I pre W → pre.length < M → WC (some l) P (ownPostG w.heap.size (Upd T) I (fun _ _ _ => False) (pre ++ [x]) W) N [] body (La x) W)
    (hdone : ∀ (D : Nat) (xs : List α) (W : World), w.heap.size ≤ D → S xs → I xs W → W.heap[D]? = some (.deferred (some [])) → QK (Q .normal) N (mark D :: ds) L W) :
    WC none P Q N ds (.rangeFunc go #[p] assign body) L w := by
  refine ⟨fun a ha => ?_⟩
  have hseq' : SeqStopsK Fence.wide (3 - 1) P gf lb.toArray (fun x => #[enc x]) (Upd T) S Sp M w := by
    intro l J Jx W h1 h2 h3 h4 h5
    refine callsIn_wide.2 (callsIn_wide.1 (hseq l J Jx W h1 h2 h3 (fun pre x W1 h6 h7 => ?_) h5))
    obtain ⟨fn, tmps, assign, body, hy1, hy2⟩ := h4 pre x W1 h6 h7
    exact ⟨fn, tmps, assign, body, hy1, roundIn_rnd (rd := none) hy2⟩
  refine wpIn_rangeFunc_ownH (F := Fence.wide) (n := 3) (w0 := w) rfl (by decide) (ha.ev hg) trivial (fun args w => ho.run args w) hseq' (fun h k => h.trans k)
    (fun W l o o' hl _ _ _ => (Upd.putObj W l o').mono (fun k hk => hT k (by omega))) (Below.refl _ _) (fun _ => rfl) I (fun _ _ _ => False) hI (fun _ _ _ _ _ h _ _ => h) h0
    (fun x a' _ => Kn N [] (La x) a') (fun _ _ _ _ _ _ h _ _ => h) ?_ ?_ ?_ ?_
  · intro l pre x W K hi hK
    have hk : Kn N [] ((p, enc x) :: L) { tmps := (#[p].zip #[enc x]).foldl (fun t (p, v) => t.setIfInBounds p v) a.tmps, defers := [] } := by
      have h1 : Kn N [] L { a with defers := [] } := ⟨ha.size, rfl, ha.get⟩
      have h2 := h1.put (enc x) hp
      refine ⟨by simpa [Act.put] using h2.size, rfl, fun k v hv => ?_⟩
      have := h2.get k v hv
      simpa [Act.put] using this
    refine wpIn_rnd (rd := some l) (m := 3) (hassign l pre x W K hi (fun L' hs => ⟨fun a' ha' => hK a' W (KeepsFrom.refl _ _) (Upd.refl _ _) hi (ha'.sub hs)⟩) _ hk)
  · intro l pre x a' W _ _ hi hA hlen
    exact wpIn_rnd (rd := some l) (m := 3) (hbody l pre x W hi hlen a' hA)
  · intro D xs W hD hS hI' hd
    refine hdone D xs W hD hS hI' hd _ ⟨ha.size, ?_, ha.get⟩
    simp [ha.defers, mark]
  · intro D c pre W _ _ h _
    exact h.elim

theorem f_enterM {R : Value → World → Prop} {f : FuncId} {fn : Func} {vs : List Value} (hf : P.funcs[f]? = some fn) (hb : fn.body = some c) (hn : Nat.ble vs.length N = true) (hN : fn.ntmps = N)
    (h : WC none P (bodyPostM (rnd none) 3 P fn fun e w' => ∃ v, e = .returned v ∧ R v w') N [] c (args 0 vs) w) : CallsV P f vs w R := by
  refine callsIn_wide.1 (callsIn_of_wp_marks (F := Fence.wide) (n := 3) hf hb trivial (h _ ⟨?_, rfl, ?_⟩))
  · have : vs.length ≤ N := Nat.le_of_ble_eq_true hn
    simp [hN]; omega
  · intro k v hk
    have ⟨_, h2⟩ := look_args vs 0 v hk
    rw [Array.getD_eq_getD_getElem?]
    have h3 : k < vs.length := by
      rcases Nat.lt_or_ge k vs.length with h | h
      · exact h
      · simp [List.getElem?_eq_none h] at h2
    rw [Array.getElem?_append_left (by simpa using h3)]
    simpa using congrArg (fun o => o.getD undef) h2

def tmpRes (L : Slots) : ResultVar → Option Value
  | .tmp t => look t L
  | .cell _ _ => none

theorem tmpRes.run {r : ResultVar} {v : Value} (h : tmpRes L r = some v) {a : Act} (ha : Kn N ds L a) (w : World) : (resOf a.tmps r).run P w = .ok v w := by
  cases r with
  | tmp t => simp only [resOf, Sem.run_pure]; rw [ha.get _ _ h]
  | cell s t => cases h

end steps
end Go.Proofs.YtagmkfbbhfaceaaGreatDoor
namespace Go.Proofs.YtagmkfbbhfaceaaGreatDoor
open Go Go.RowKit Go.Proofs.Tryz
set_option maxRecDepth 10000
/-! ### bytes in blocks -/
abbrev Ix (n : Nat) := { k : Nat // k < n }
theorem vals_snoc {n : Nat} {pre : List (Ix n)} {x : Ix n} {l : List Nat} (h : pre.map (·.1) = l) : (pre ++ [x]).map (·.1) = l ++ [x.1] := by rw [List.map_append, h]; rfl
/-- block k of bytes, as it is handed out -/
def encCk (ab : Option Addr) {m : Nat} (x : Ix m) : Value := .slice (subAddr ab (32 * x.1 + 32) (32 * x.1) 1) 32 32
def mk32 (l : List UInt8) : Bk := if h : l.length = 32 then ⟨l, h⟩ else zeroBk
theorem mk32_l {l : List UInt8} (h : l.length = 32) : (mk32 l).l = l := by unfold mk32; rw [dif_pos h]
def ckP (b : List UInt8) (k : Nat) : List UInt8 := (b.drop (32 * k)).take 32
theorem ckP_len {b : List UInt8} {m k : Nat} (hb : b.length = 32 * m) (hk : k < m) : (ckP b k).length = 32 := by unfold ckP; rw [List.length_take, List.length_drop]; omega
/-- the blocks of bytes -/
def blksP (b : List UInt8) (m : Nat) : List Bk := (List.range m).map fun k => mk32 (ckP b k)
theorem blksP_len (b : List UInt8) (m : Nat) : (blksP b m).length = m := by unfold blksP; rw [List.length_map, List.length_range]
/-- what open returns -/
def opE (b : List UInt8) : Int := if b.length % 32 ≠ 0 ∨ b.length / 32 < 2 ∨ b.length / 32 % 5 = 1 then 4 else if 1300 < b.length / 32 then 5 else 0
def opP (b : List UInt8) : List Bk := if opE b = 0 then blksP b (b.length / 32) else []
theorem opE_ok {b : List UInt8} (h : opE b = 0) : b.length = 32 * (b.length / 32) ∧ 2 ≤ b.length / 32 ∧ b.length / 32 % 5 ≠ 1 ∧ b.length / 32 ≤ 1300 := by
  unfold opE at h
  split at h
  · cases h
  · split at h
    · cases h
    · omega
theorem mk32_bytes (v : Bk) : mk32 v.l = v := Bk.ext' (mk32_l v.h)
theorem ckP_bytes : ∀ (v : List Bk) (i : Nat) (h : i < v.length), ckP (bytesP v) i = v[i].l
  | x :: v, 0, _ => by
    have e : bytesP (x :: v) = x.l ++ bytesP v := rfl
    have hx := x.h
    unfold ckP
    rw [e, Nat.mul_zero, List.drop_zero, List.take_append_of_le_length (by omega), List.take_of_length_le (by omega)]; rfl
  | x :: v, i + 1, h => by
    have e : bytesP (x :: v) = x.l ++ bytesP v := rfl
    have hx := x.h
    have ih := ckP_bytes v i (by simpa using h)
    unfold ckP at ih ⊢
    rw [e, List.drop_append, List.drop_of_length_le (by omega), List.nil_append, hx, show 32 * (i + 1) - 32 = 32 * i by omega]
    exact ih
theorem blksP_of (v : List Bk) : blksP (bytesP v) v.length = v := by
  refine List.ext_getElem? fun i => ?_
  unfold blksP
  rw [List.getElem?_map]
  rcases Nat.lt_or_ge i v.length with h | h
  · rw [List.getElem?_range h, List.getElem?_eq_getElem h]
    show some (mk32 (ckP (bytesP v) i)) = some v[i]
    rw [ckP_bytes v i h, mk32_bytes]
  · rw [List.getElem?_eq_none (by rw [List.length_range]; exact h), List.getElem?_eq_none h]; rfl
theorem ck_at {b : List UInt8} {w : World} {ab : Option Addr} {bb ob m k : Nat} (h : Sl encY 1 w ab bb ob b) (hl : b.length = 32 * m) (hk : k < m) : subAddr ab (32 * k + 32) (32 * k) 1 = some ⟨bb, ob + 32 * k, none⟩ ∧ At w bb (ob + 32 * k) (ys (mk32 (ckP b k)).l) := by
  have hc := ckP_len hl hk
  constructor
  · have ha := h.addr (by omega)
    subst ha
    unfold subAddr
    rw [if_neg (by omega)]
    simp [addr_add]
  · rw [mk32_l hc]
    intro j v hv
    have hj : j < (ckP b k).length := by have := (List.getElem?_eq_some_iff.1 hv).1; rwa [ys_length] at this
    have e := (ys_nth hj).symm.trans hv
    injection e with e
    subst e
    have hn : nth (ckP b k) j = nth b (32 * k + j) := by unfold ckP; rw [nth_takeL (by omega), nth_drop]
    rw [hn]
    have h9 := h.at_ (32 * k + j) (by omega) 0 _ rfl
    rwa [show ob + (32 * k + j) * 1 + 0 = ob + 32 * k + j by omega] at h9
theorem own124 : Own Tryz.prog 124 := ⟨Tryz.f124, func124, by kernel_rfl, by kernel_rfl⟩

theorem chunk_c (ab : Option Addr) (n cb : Nat) (w0 : World) :
    CallsV Tryz.prog 75 [.slice ab n cb, .int .i64 32] w0 (fun v w' => (∃ b1 b2, v = .func (.func 124) #[] #[.pointer (some ⟨b1, 0, none⟩), .pointer (some ⟨b2, 0, none⟩)] ∧ w0.heap.size ≤ b1 ∧ w0.heap.size ≤ b2 ∧ Blk w' b1 24 [.slice ab n cb] ∧ Blk w' b2 3 [.int .i64 32]) ∧ Ext w0 w') := by
 refine f_n func75 ?_
 refine go ?_
 refine x_b fun bk2 w3 ebk2 sbk2 B4 u5 => ?_
 refine x_b fun bk7 w8 ebk7 sbk7 B9 u10 => ?_
 refine go ?_
 refine t_mkfunc (vs := []) (us := [.pointer (some ⟨bk2, 0, none⟩), .pointer (some ⟨bk7, 0, none⟩)]) rfl rfl rfl rfl ?_
 refine go ?_
 refine f_1 results75 ?_
 have B15 := (B4.kx u10)
 exact ⟨⟨_, _, rfl, by omega, by omega, B15, B9⟩, u_d⟩

set_option maxHeartbeats 4000000 in
set_option maxRecDepth 20000 in
theorem chunk1_c (m n : Nat) (ab : Option Addr) (cb b1 b2 l q : Nat) (T : Nat → Prop) (J Jx : List (Ix m) → World → Prop) (w0 : World) (hn : n = 32 * m) (hm : m ≤ 100000) (hcb : n ≤ cb) (h1 : Blk w0 b1 24 [.slice ab n cb]) (h2 : Blk w0 b2 3 [.int .i64 32]) (hT1 : ¬ T b1) (hT2 : ¬ T b2) (hJ : AbidesFrom w0.heap.size J) (hY : ∀ pre x W1, J pre W1 → pre.length < m → YieldAt Fence.wide q Tryz.prog l #[encCk ab x] W1 fun e W' => (e = .returned (.bool true) ∧ J (pre ++ [x]) W' ∧ Upd T W1 W') ∨ (e = .returned (.bool false) ∧ Jx (pre ++ [x]) W')) (hJ0 : J [] w0) :
    CallsV Tryz.prog 124 [.func (.yield l) #[] #[], .pointer (some ⟨b1, 0, none⟩), .pointer (some ⟨b2, 0, none⟩)] w0 (fun v w' => ∃ u, v = u ∧ ((∃ xs : List (Ix m), xs.map (·.1) = List.range m ∧ J xs w') ∨ (∃ pre, Jx pre w'))) := by
 have l1 := h1.lt
 have l2 := h2.lt
 refine f_n func124 ?_
 refine go ?_
 refine x_l3 (fun i => T i) [0, 1, 2] (fun (k : Nat) (e : Nat) (pre : List (Ix m)) => [(4, .int .i64 (e : Int))]) (fun k e pre w => (k ≤ m) ∧ (e = 32 * k) ∧ (pre.map (·.1) = List.range k) ∧ (J pre w)) (fun k e pre => m - k) 0 0 ([]) ⟨(Nat.zero_le _), rfl, rfl, hJ0⟩ ?_
 rintro k e pre w3 ⟨hk, he, hpre, hJk⟩ u4 zu4 K2 hK2
 have hplk : pre.length = k := by have h9 := congrArg List.length hpre; rw [List.length_map, List.length_range] at h9; exact h9
 refine go ?_
 refine q_p (fun g9 => ?_) fun g9 => ?_
 ·
  have hkn : k < m := by omega
  have hplm : pre.length < m := by omega
  refine go ?_
  refine c_drawnM follows (fun _ => False) (OTl [0, 2, 4, 6, 8, 10, 12]) (by kernel_rfl) fun w10 u11 => ?_
  have zu11 := u11.size
  refine go ?_
  refine y_sliceFrom (e) underlying24 sizeOf5 rfl rfl rfl rfl rfl (by omega) (by omega) ?_
  refine go ?_
  refine y_min rfl rfl rfl rfl (y_same 18 (v := .int .i64 32) rfl (congrArg (Value.int .i64) (by omega)) ?_)
  refine go ?_
  refine t_slice3 (e) (e + 32) (e + 32) underlying24 sizeOf5 rfl rfl rfl rfl rfl rfl (by omega) (by omega) (by omega) (by omega) (by omega) (by omega) (t_same 28 (v := .slice (subAddr ab (32 * k + 32) (32 * k) 1) 32 32) rfl (by rw [show e + 32 - e = 32 by omega, he]) (t_yield (vs := [.slice (subAddr ab (32 * k + 32) (32 * k) 1) 32 32]) rfl rfl rfl rfl (hY pre ⟨k, hkn⟩ _ (hJ _ _ _ none hJk (Ext.grownBy ((Upd.refl (fun _ => False) _).nx u11)) (fun r e => by cases e)) hplm) (by rintro e w' (⟨rfl, _⟩ | ⟨rfl, _⟩) <;> exact ⟨_, rfl⟩) (fun v14 w15 r16 => ?_)))
  obtain ⟨yb, rfl, hrd⟩ : ∃ b, v14 = .bool b ∧ ((b = true → J (pre ++ [⟨k, hkn⟩]) w15 ∧ Upd T w10 w15) ∧ (b = false → Jx (pre ++ [⟨k, hkn⟩]) w15)) := by
    rcases r16 with ⟨e, h⟩ | ⟨e, h⟩
    · injection e with e; exact ⟨true, e, fun _ => h, fun h => by cases h⟩
    · injection e with e; exact ⟨false, e, fun h => (by cases h), fun _ => h⟩
  refine go ?_
  refine q_b (fun g30 => ?_) fun g30 => ?_
  ·
   refine go ?_
   refine f_ret0 results124 ?_
   exact ⟨_, rfl, .inr ⟨_, hrd.2 (by simpa using g30)⟩⟩
  obtain ⟨hJ2, u17⟩ := hrd.1 (by simpa using g30)
  have zu17 := u17.size
  refine go ?_
  exact hK2 (k + 1) (e + 32) (pre ++ [⟨k, hkn⟩]) ⟨(by omega), (by omega), (by rw [vals_snoc hpre, List.range_succ]), hJ2⟩ (hu := ((u4.nx u11).next u17 (fun i hi (h : T i) => show T i by first | omega | assumption)))
 refine go ?_
 refine f_ret0 results124 ?_
 exact ⟨_, rfl, .inl ⟨pre, (by rw [hpre, show k = m from by omega]), hJk⟩⟩


theorem chunk_seq (m n : Nat) (ab : Option Addr) (cb b1 b2 : Nat) (T : Nat → Prop) (w : World) (hn : n = 32 * m) (hm : m ≤ 100000) (hcb : n ≤ cb) (h1 : Blk w b1 24 [.slice ab n cb]) (h2 : Blk w b2 3 [.int .i64 32]) (hT1 : ¬ T b1) (hT2 : ¬ T b2) :
    SeqStopsK Fence.wide 2 Tryz.prog 124 [.pointer (some ⟨b1, 0, none⟩), .pointer (some ⟨b2, 0, none⟩)].toArray (fun x => #[encCk ab x]) (Upd T) (fun xs : List (Ix m) => xs.map (·.1) = List.range m) (fun _ => True) m w := by
  intro l J Jx W hW hJ hJx hY h0
  have hE : Ext w W := Below.ext hW
  refine callsIn_wide.2 (Calls.mono (chunk1_c m n ab cb b1 b2 l 1 T J Jx W hn hm hcb (h1.keep hE (fun h => h)) (h2.keep hE (fun h => h)) hT1 hT2 hJ hY h0) ?_)
  rintro e w' ⟨v, rfl, u, rfl, h⟩
  exact ⟨⟨_, rfl⟩, h.imp (fun h => h) (fun ⟨pre, h⟩ => ⟨pre, trivial, h⟩)⟩

end Go.Proofs.YtagmkfbbhfaceaaGreatDoor
namespace Go.Proofs.YtagmkfbbhfaceaaGreatDoor
open Go Go.RowKit

/-- Of what lay in w only the marks' blocks may read otherwise. -/
abbrev OffMarks (ds : List Deferred) (w w' : World) : Prop := Upd (fun i => ∃ d ∈ ds, d = mark i) w w'
theorem leavesInM_marksC {P : Program} {fn : Func} {tmps : Array Value} {R : Value → World → Prop} {base : Nat} {v : Value} : ∀ (ds : List Deferred) (w : World), (∀ w', OffMarks ds w w' → (results fn tmps).run P w' = .ok v w') → Marks base ds w → (∀ w', Upd (fun i => base ≤ i) w w' → OffMarks ds w w' → R v w') →
    LeavesInM (rnd none) 3 P fn tmps (fun e w' => ∃ v, e = .returned v ∧ R v w') ds .returning w
  | [], w, hr, _, hR => ⟨v, hr w (Upd.refl _ _), v, rfl, hR w (Upd.refl _ _) (Upd.refl _ _)⟩
  | d :: ds, w, hr, h, hR => by
    obtain ⟨⟨D, rfl, h2, h3, h4⟩, h5⟩ := h
    refine ⟨by simp, .inl ⟨D, _, rfl, run_takeDeferred h3, ?_⟩⟩
    have u := Upd.putObj w D (.deferred none)
    have hm : Marks base ds (w.putObj D (.deferred none)) := h5.keepLow u h4 (fun k hk => by omega)
    have uo : ∀ {w'}, OffMarks ds (w.putObj D (.deferred none)) w' → OffMarks (mark D :: ds) w w' := fun {w'} h => (u.mono (fun k hk => ⟨mark D, by simp, by subst hk; rfl⟩)).trans (h.mono (fun k ⟨d, h1, h2⟩ => ⟨d, by simp [h1], h2⟩))
    exact leavesInM_marksC ds _ (fun w' h => hr w' (uo h)) hm (fun w' u' h => hR w' ((u.mono (fun k hk => by omega)).trans u') (uo h))
theorem Marks.notCells {base : Nat} {b : Nat} {c : Array Value} {t : TypeId} {f : Nat × Nat} : ∀ {ds : List Deferred} {w : World}, Marks base ds w → w.heap[b]? = some (.cells c t f) → ¬ ∃ d ∈ ds, d = mark b
  | [], _, _, _, h => by obtain ⟨_, h, _⟩ := h; cases h
  | d :: ds, w, h, hb, hq => by
    obtain ⟨⟨D, h1, h2, h3, h4⟩, h5⟩ := h
    obtain ⟨d', hd, e⟩ := hq
    rcases List.mem_cons.1 hd with rfl | hd
    · rw [h1] at e
      injection e with e
      injection e with e
      subst e
      rw [h3] at hb
      cases hb
    · exact h5.notCells hb ⟨d', hd, e⟩
theorem Marks.notBlk {base : Nat} {b : Nat} {t : TypeId} {cs : List Value} {ds : List Deferred} {w : World} (h : Marks base ds w) (hb : Blk w b t cs) : ¬ ∃ d ∈ ds, d = mark b := h.notCells hb
/-- A result, read behind the marks. -/
def ResM (P : Program) (ds : List Deferred) (w : World) (L : Slots) (r : ResultVar) (v : Value) : Prop := ∀ w', OffMarks ds w w' → Res P w' L r v
theorem ResM.tmp {P : Program} {ds : List Deferred} {w : World} {L : Slots} {t : Nat} {v : Value} (h : look t L = some v) : ResM P ds w L (.tmp t) v := fun _ _ => h
theorem ResM.cell {P : Program} {ds : List Deferred} {w : World} {L : Slots} {s t b off base : Nat} {t' : TypeId} {cs : List Value} {v : Value} (hm : Marks base ds w) (hl : look s L = some (.pointer (some ⟨b, off, none⟩))) (ha : ∀ w, (isAgg t).run P w = .ok false w) (hb : Blk w b t' cs) (hv : cs[off]? = some v) : ResM P ds w L (.cell s t) v :=
  fun _w' u => ⟨b, off, hl, run_loadVar1 ha ((hb.keep u (hm.notBlk hb)).get hv)⟩

section steps
variable {P : Program} {N : Nat} {ds : List Deferred} {L : Slots} {w : World}
theorem f_retMc2 {R : Value → World → Prop} {fn : Func} {r1 r2 : ResultVar} {v1 v2 : Value} {base : Nat} (hf : fn.results = #[r1, r2]) (h1 : ResM P ds w L r1 v1) (h2 : ResM P ds w L r2 v2) (hm : Marks base ds w) (hR : ∀ w', Upd (fun i => base ≤ i) w w' → OffMarks ds w w' → R (.tuple #[v1, v2]) w') :
    QK (bodyPostM (rnd none) 3 P fn (fun e w' => ∃ v, e = .returned v ∧ R v w') .ret) N ds L w := by
  refine ⟨fun a ha => ?_⟩
  show LeavesInM (rnd none) 3 P fn a.tmps _ a.defers .returning w
  rw [ha.defers]
  refine leavesInM_marksC ds w (fun w' u => ?_) hm hR
  have e1 := Res.run (h1 w' u) ha
  have e2 := Res.run (h2 w' u) ha
  rw [results_of, hf]
  simp [e1, e2]
end steps
end Go.Proofs.YtagmkfbbhfaceaaGreatDoor
namespace Go.Proofs.YtagmkfbbhfaceaaGreatDoor
open Go Go.RowKit Go.Proofs.Tryz
set_option maxRecDepth 10000
set_option maxHeartbeats 4000000 in
set_option maxRecDepth 20000 in
theorem open_c (xs : List UInt8) (ab : Option Addr) (bb ob cb : Nat) (w0 : World) (hs : Sl encY 1 w0 ab bb ob xs) (hcb : xs.length ≤ cb) (hxl : xs.length ≤ 1000000) (hpos : 0 < w0.heap.size) :
    CallsV Tryz.prog 32 [.slice ab xs.length cb] w0 (fun v w' => (∃ a9 g9 c9, v = .tuple #[.slice a9 (List.length (opP xs)) c9, .int .i64 (opE xs)] ∧ Acc encBk 32 111 w0.heap.size w' a9 g9 c9 (opP xs)) ∧ Ext w0 w') := by
 refine f_enterM (N := 36) func32 rfl rfl rfl (q_of ?_)
 refine go ?_
 refine x_n fun bk2 w3 ebk2 sbk2 B4 u5 => ?_
 have hN0 : Acc encBk 32 111 w0.heap.size w3 none 0 0 ([] : List Bk) := Acc.nil _ _ _ _ _ hpos (by omega)
 have lt_0 := hN0.lt
 refine go ?_
 refine t_quo rfl rfl rfl rfl (by omega) (by omega) (t_same 8 (v := .int .i64 ((xs.length / 32 : Nat) : Int)) rfl (congrArg (Value.int .i64) (by omega)) ?_)
 iterate 5 refine st1 ?_
 refine x_k1 (fun _ => False) [0, 2, 4] (fun (z9 : Bool) => [(9, .bool z9)]) (fun z9 w => (z9 = decide (xs.length % 32 ≠ 0 ∨ xs.length / 32 < 2 ∨ xs.length / 32 % 5 = 1))) (fun K13 hK13 => ?_) ?_
 ·
  refine go ?_
  refine t_rem rfl rfl rfl rfl (by omega) (by omega) ?_
  refine go ?_
  refine t_splitp 14 rfl (fun g14 => ?_) (fun g14 => ?_)
  ·
   refine go ?_
   exact hK13 true (by first | exact (decide_eq_false (by omega)).symm | exact (decide_eq_true (by omega)).symm | exact decide_eq_decide.2 (by omega))
  refine go ?_
  refine t_splitp 18 rfl (fun g18 => ?_) (fun g18 => ?_)
  ·
   refine go ?_
   exact hK13 true (by first | exact (decide_eq_false (by omega)).symm | exact (decide_eq_true (by omega)).symm | exact decide_eq_decide.2 (by omega))
  refine go ?_
  refine t_rem rfl rfl rfl rfl (by omega) (by omega) ?_
  refine go ?_
  exact hK13 (decide ((((xs.length / 32 : Nat) : Int) % 5) = 1)) (by first | exact (decide_eq_false (by omega)).symm | exact (decide_eq_true (by omega)).symm | exact decide_eq_decide.2 (by omega))
 rintro z9 w14 hz9 u15 zu15
 have E16 := Sc.mk (((Upd.refl (fun _ => False) w0).nx u5).nx u15)
 refine q_b (fun g9 => ?_) fun g9 => ?_
 ·
  have hzb : (xs.length % 32 ≠ 0 ∨ xs.length / 32 < 2 ∨ xs.length / 32 % 5 = 1) := by rw [hz9] at g9; exact of_decide_eq_true g9
  refine go ?_
  have B18 := (B4.kx u15)
  refine x_s fun w19 sw19 B21 u20 => ?_
  refine go ?_
  have D25 := ((((show Marks w0.heap.size [] w0 from trivial).keep u5 (CellsIn.none _)).keep u15 (CellsIn.none _)).keep u20 (B18).cellsIn)
  have hmkE := D25
  refine f_retMc2 (v1 := .slice none 0 0) (v2 := .int .i64 4) results32 (.cell D25 rfl isAgg105 B21 rfl) (.tmp rfl) D25 (fun w23 u24 omw23 => ?_)
  have zu24 := u24.size
  have he : opE xs = 4 := by unfold opE; rw [if_pos hzb]
  exact ⟨⟨none, 0, 0, by unfold opP; rw [he]; rfl, by unfold opP; rw [he]; exact (Acc.nil _ _ _ _ _ hpos (by omega))⟩, ((E16.u.next u20 (fun i hi h => by omega)).next u24 (fun i hi (h : w0.heap.size ≤ i) => show False by first | omega | assumption))⟩
 have hzb : ¬ (xs.length % 32 ≠ 0 ∨ xs.length / 32 < 2 ∨ xs.length / 32 % 5 = 1) := by rw [hz9] at g9; exact of_decide_eq_false g9
 refine go ?_
 refine q_p (fun g23 => ?_) fun g23 => ?_
 ·
  refine go ?_
  have B29 := (B4.kx u15)
  refine x_s fun w30 sw30 B32 u31 => ?_
  refine go ?_
  have D36 := ((((show Marks w0.heap.size [] w0 from trivial).keep u5 (CellsIn.none _)).keep u15 (CellsIn.none _)).keep u31 (B29).cellsIn)
  have hmkE := D36
  refine f_retMc2 (v1 := .slice none 0 0) (v2 := .int .i64 5) results32 (.cell D36 rfl isAgg105 B32 rfl) (.tmp rfl) D36 (fun w34 u35 omw34 => ?_)
  have zu35 := u35.size
  have he : opE xs = 5 := by unfold opE; rw [if_neg hzb, if_pos (by omega)]
  exact ⟨⟨none, 0, 0, by unfold opP; rw [he]; rfl, by unfold opP; rw [he]; exact (Acc.nil _ _ _ _ _ hpos (by omega))⟩, ((E16.u.next u31 (fun i hi h => by omega)).next u35 (fun i hi (h : w0.heap.size ≤ i) => show False by first | omega | assumption))⟩
 have hE0 : opE xs = 0 := by unfold opE; rw [if_neg hzb, if_neg (by omega)]
 have hok := opE_ok hE0
 refine go ?_
 refine x_c func75 rfl rfl (chunk_c ab xs.length cb _) ?_
 rintro _ w41 ⟨⟨b1, b2, rfl, hgb1, hgb2, hb1, hb2⟩, u42⟩ zu42
 have E44 := Sc.mk (E16.u.nx u42)
 have lb1 := hb1.lt
 have lb2 := hb2.lt
 refine go ?_
 refine WC.weak [(2, .pointer (some ⟨bk2, 0, none⟩)), (27, .func (.func 124) #[] #[.pointer (some ⟨b1, 0, none⟩), .pointer (some ⟨b2, 0, none⟩)])] ⟨rfl, rfl, trivial⟩ ?_
 have B45 := ((B4.kx u15).kx u42)
 have lbv := B45.lt
 have D46 := ((hN0.keep u15 (fun _ h => h)).keep u42 (fun _ h => h))
 refine c_range (α := (Ix (xs.length / 32))) (lb := [.pointer (some ⟨b1, 0, none⟩), .pointer (some ⟨b2, 0, none⟩)]) (enc := (encCk ab)) (T := fun i => i = bk2 ∨ w41.heap.size ≤ i) own124 rfl rfl (chunk_seq (xs.length / 32) xs.length ab cb b1 b2 _ _ hok.1 (by omega) hcb hb1 hb2 (show ¬ (b1 = bk2 ∨ w41.heap.size ≤ b1) by omega) (show ¬ (b2 = bk2 ∨ w41.heap.size ≤ b2) by omega)) (fun i hi => by omega) (fun pre w => ∃ a3 : Option Addr, ∃ g3 : Nat, ∃ c3 : Nat, ∃ v3 : List Bk, Upd (fun i => i = bk2) w41 w ∧ Blk w bk2 105 [.slice a3 v3.length c3] ∧ (Acc encBk 32 111 w0.heap.size w a3 g3 c3 v3) ∧ (v3 = pre.map (fun k => mk32 (ckP xs k.1))) ∧ (g3 = 0 ∨ w41.heap.size ≤ g3) ∧ (v3.length = pre.length)) (ownFrom_ex (fun a3 => ownFrom_ex (fun g3 => ownFrom_ex (fun c3 => ownFrom_ex (fun v3 => (ownFrom_upd (Nat.le_refl _)).and (ownFrom_blk.and (ownFrom_acc.and ((ownFrom_pure _ _).and ((ownFrom_pure _ _).and (ownFrom_pure _ _)))))))))) ⟨none, 0, 0, [], Upd.refl _ _, B45, D46, rfl, (.inl rfl), rfl⟩ (fun x => [(2, .pointer (some ⟨bk2, 0, none⟩)), (5, .slice (subAddr ab (32 * x.1 + 32) (32 * x.1) 1) 32 32)]) ?_ ?_ ?_
 ·
  intro l pre x W K47 hI hK47
  change WC _ _ _ _ _ _ [(28, .slice (subAddr ab (32 * x.1 + 32) (32 * x.1) 1) 32 32), (2, .pointer (some ⟨bk2, 0, none⟩)), (27, .func (.func 124) #[] #[.pointer (some ⟨b1, 0, none⟩), .pointer (some ⟨b2, 0, none⟩)])] _
  refine (q_of ?_)
  refine go ?_
  exact hK47 _ ⟨rfl, rfl, trivial⟩
 ·
  intro l pre x w48 hI hlen
  obtain ⟨a3, g3, c3, v3, u49, I50, I51, I52, I53, I54⟩ := hI
  change WC _ _ _ _ _ _ [(2, .pointer (some ⟨bk2, 0, none⟩)), (5, .slice (subAddr ab (32 * x.1 + 32) (32 * x.1) 1) 32 32)] _
  refine (q_of ?_)
  have zu49 := u49.size
  have E55 := Sc.mk (E44.u.next u49 (fun i hi h => by omega))
  have hA3 := I51; clear I51
  have hv3 := I52; clear I52
  have hg3 := I53; clear I53
  have hl3 := I54; clear I54
  have lt_g3 := hA3.lt
  have hpl : pre.length < (xs.length / 32) := hlen
  have hck := ck_at ((hs.keep E55.u (fun _ h => h))) hok.1 x.2
  have hcellsR := ((I50).cellsIn.or (hA3).cellsIn)
  refine go ?_
  refine c_drawnM follows (fun i => (i = g3 ∧ w0.heap.size ≤ i) ∨ i = bk2) (.look 1 (.look 2 (.act 0 (.act 3 (.act 4 (.act 5 (.act 6 .done .stop) .stop) .stop) .stop) (.act 3 (.act 0 (.act 4 (.act 5 (.act 6 .done .stop) .stop) .stop) (.act 4 (.act 0 (.act 5 (.act 6 .done .stop) .stop) .stop) .stop)) .stop)))) (by kernel_rfl) fun w56 u57 => ?_
  have zu57 := u57.size
  have E58 := Sc.mk (E55.u.nx u57)
  refine go ?_
  refine y_arrP underlying111 rfl rfl rfl (by decide) (y_same 31 (v := .pointer (some ⟨bb, ob + 32 * x.1, none⟩)) rfl (congrArg Value.pointer hck.1) (s_or ?_ ?_))
  ·
   refine go ?_
   refine t_ldY (l := (mk32 (ckP xs x.1)).l) isAgg111 sizeOf111 rfl rfl rfl (ck_at ((hs.keep E58.u (fun _ h => h))) hok.1 x.2).2 (Bk.h (mk32 (ckP xs x.1))) ?_
   refine go ?_
   refine t_bslice1 (vs := ys ((mk32 (ckP xs x.1)).l)) underlying105 sizeOf111 zeroValue111 (by decide) (by decide) rfl rfl rfl rfl (by rw [ys_length]; exact (Bk.h (mk32 (ckP xs x.1)))) (fun bk59 w60 ebk59 sbk59 B61 u62 => ?_)
   refine go ?_
   have D64 := ((hA3.keep u57 (fun _ h => h)).keep u62 (fun _ h => h))
   refine t_append (z := .agg #[.int .u8 0, .int .u8 0, .int .u8 0, .int .u8 0, .int .u8 0, .int .u8 0, .int .u8 0, .int .u8 0, .int .u8 0, .int .u8 0, .int .u8 0, .int .u8 0, .int .u8 0, .int .u8 0, .int .u8 0, .int .u8 0, .int .u8 0, .int .u8 0, .int .u8 0, .int .u8 0, .int .u8 0, .int .u8 0, .int .u8 0, .int .u8 0, .int .u8 0, .int .u8 0, .int .u8 0, .int .u8 0, .int .u8 0, .int .u8 0, .int .u8 0, .int .u8 0]) (bytes := 32) (k := 32) (base := w0.heap.size) (mk32 (ckP xs x.1)) underlying105 (by kernel_rfl) rfl (by decide) encBk_len encBk_one rfl rfl rfl rfl D64 B61 (by omega) (by omega) (by decide) (fun ao65 gb66 cp67 w68 A69 u70 gegb66 lngb66 => ?_)
   have zu70 := u70.size
   have lt_gb66 := A69.lt
   refine go ?_
   refine x_s fun w73 sw73 B75 u74 => ?_
   refine go ?_
   have hUr := (((((Upd.refl (fun i => i = bk2 ∨ (i = g3 ∧ w0.heap.size ≤ i)) w48).nx u57).nx u62).next u70 (fun i hi h => by omega)).next u74 (fun i hi h => by omega))
   have D77 := (A69.keep u74 (fun hb => show ¬ (gb66 = bk2) by first | omega | assumption))
   exact ⟨fun a ha => ⟨KeepsFrom.of_upd hUr hcellsR, hUr.mono (fun i h => show i = bk2 ∨ w41.heap.size ≤ i by omega), ao65, gb66, cp67, (v3 ++ [(mk32 (ckP xs x.1))]), ((((u49.nx u57).nx u62).next u70 (fun i hi h => by omega)).next u74 (fun i hi h => by omega)), B75, D77, (by rw [List.map_append, hv3]; rfl), (show gb66 = 0 ∨ w41.heap.size ≤ gb66 by omega), (by rw [List.length_append, List.length_append, hl3]; rfl)⟩⟩
  refine go ?_
  refine t_ldY (l := (mk32 (ckP xs x.1)).l) isAgg111 sizeOf111 rfl rfl rfl (ck_at ((hs.keep E58.u (fun _ h => h))) hok.1 x.2).2 (Bk.h (mk32 (ckP xs x.1))) ?_
  refine go ?_
  refine s_or ?_ ?_
  ·
   refine go ?_
   refine t_bslice1 (vs := ys ((mk32 (ckP xs x.1)).l)) underlying105 sizeOf111 zeroValue111 (by decide) (by decide) rfl rfl rfl rfl (by rw [ys_length]; exact (Bk.h (mk32 (ckP xs x.1)))) (fun bk78 w79 ebk78 sbk78 B80 u81 => ?_)
   refine go ?_
   have D83 := ((hA3.keep u57 (fun _ h => h)).keep u81 (fun _ h => h))
   refine t_append (z := .agg #[.int .u8 0, .int .u8 0, .int .u8 0, .int .u8 0, .int .u8 0, .int .u8 0, .int .u8 0, .int .u8 0, .int .u8 0, .int .u8 0, .int .u8 0, .int .u8 0, .int .u8 0, .int .u8 0, .int .u8 0, .int .u8 0, .int .u8 0, .int .u8 0, .int .u8 0, .int .u8 0, .int .u8 0, .int .u8 0, .int .u8 0, .int .u8 0, .int .u8 0, .int .u8 0, .int .u8 0, .int .u8 0, .int .u8 0, .int .u8 0, .int .u8 0, .int .u8 0]) (bytes := 32) (k := 32) (base := w0.heap.size) (mk32 (ckP xs x.1)) underlying105 (by kernel_rfl) rfl (by decide) encBk_len encBk_one rfl rfl rfl rfl D83 B80 (by omega) (by omega) (by decide) (fun ao84 gb85 cp86 w87 A88 u89 gegb85 lngb85 => ?_)
   have zu89 := u89.size
   have lt_gb85 := A88.lt
   refine go ?_
   refine x_s fun w92 sw92 B94 u93 => ?_
   refine go ?_
   have hUr := (((((Upd.refl (fun i => i = bk2 ∨ (i = g3 ∧ w0.heap.size ≤ i)) w48).nx u57).nx u81).next u89 (fun i hi h => by omega)).next u93 (fun i hi h => by omega))
   have D96 := (A88.keep u93 (fun hb => show ¬ (gb85 = bk2) by first | omega | assumption))
   exact ⟨fun a ha => ⟨KeepsFrom.of_upd hUr hcellsR, hUr.mono (fun i h => show i = bk2 ∨ w41.heap.size ≤ i by omega), ao84, gb85, cp86, (v3 ++ [(mk32 (ckP xs x.1))]), ((((u49.nx u57).nx u81).next u89 (fun i hi h => by omega)).next u93 (fun i hi h => by omega)), B94, D96, (by rw [List.map_append, hv3]; rfl), (show gb85 = 0 ∨ w41.heap.size ≤ gb85 by omega), (by rw [List.length_append, List.length_append, hl3]; rfl)⟩⟩
  refine go ?_
  refine t_bslice1 (vs := ys ((mk32 (ckP xs x.1)).l)) underlying105 sizeOf111 zeroValue111 (by decide) (by decide) rfl rfl rfl rfl (by rw [ys_length]; exact (Bk.h (mk32 (ckP xs x.1)))) (fun bk97 w98 ebk97 sbk97 B99 u100 => ?_)
  refine go ?_
  have D102 := ((hA3.keep u57 (fun _ h => h)).keep u100 (fun _ h => h))
  refine t_append (z := .agg #[.int .u8 0, .int .u8 0, .int .u8 0, .int .u8 0, .int .u8 0, .int .u8 0, .int .u8 0, .int .u8 0, .int .u8 0, .int .u8 0, .int .u8 0, .int .u8 0, .int .u8 0, .int .u8 0, .int .u8 0, .int .u8 0, .int .u8 0, .int .u8 0, .int .u8 0, .int .u8 0, .int .u8 0, .int .u8 0, .int .u8 0, .int .u8 0, .int .u8 0, .int .u8 0, .int .u8 0, .int .u8 0, .int .u8 0, .int .u8 0, .int .u8 0, .int .u8 0]) (bytes := 32) (k := 32) (base := w0.heap.size) (mk32 (ckP xs x.1)) underlying105 (by kernel_rfl) rfl (by decide) encBk_len encBk_one rfl rfl rfl rfl D102 B99 (by omega) (by omega) (by decide) (fun ao103 gb104 cp105 w106 A107 u108 gegb104 lngb104 => ?_)
  have zu108 := u108.size
  have lt_gb104 := A107.lt
  refine go ?_
  refine x_s fun w111 sw111 B113 u112 => ?_
  refine go ?_
  have hUr := (((((Upd.refl (fun i => i = bk2 ∨ (i = g3 ∧ w0.heap.size ≤ i)) w48).nx u57).nx u100).next u108 (fun i hi h => by omega)).next u112 (fun i hi h => by omega))
  have D115 := (A107.keep u112 (fun hb => show ¬ (gb104 = bk2) by first | omega | assumption))
  exact ⟨fun a ha => ⟨KeepsFrom.of_upd hUr hcellsR, hUr.mono (fun i h => show i = bk2 ∨ w41.heap.size ≤ i by omega), ao103, gb104, cp105, (v3 ++ [(mk32 (ckP xs x.1))]), ((((u49.nx u57).nx u100).next u108 (fun i hi h => by omega)).next u112 (fun i hi h => by omega)), B113, D115, (by rw [List.map_append, hv3]; rfl), (show gb104 = 0 ∨ w41.heap.size ≤ gb104 by omega), (by rw [List.length_append, List.length_append, hl3]; rfl)⟩⟩
 ·
  have hmk0 := ((show Marks w0.heap.size [] w0 from trivial).keep ((((Upd.refl (fun _ => False) _).nx u5).nx u15).nx u42) (CellsIn.none _))
  have hmc0 := (B45).cellsIn
  intro D118 ks w116 hD118 hS hI hdD118
  obtain ⟨a3, g3, c3, v3, u117, I119, I120, I121, I122, I123⟩ := hI
  have zu117 := u117.size
  have hA3 := I120; clear I120
  have hv3 := I121; clear I121
  have hg3 := I122; clear I122
  have hl3 := I123; clear I123
  have lt_g3 := hA3.lt
  have mk125 := (hmk0.keep u117 hmc0).push (D := D118) (by omega) hdD118 (fun d hd D' e => Nat.lt_of_lt_of_le (hmk0.lt d hd D' e) hD118)
  have hvk : v3 = blksP xs (xs.length / 32) := by
    rw [hv3]
    unfold blksP
    rw [← hS, List.map_map]; rfl
  refine go ?_
  refine x_s fun w127 sw127 B129 u128 => ?_
  refine go ?_
  have D131 := (hA3.keep u128 (fun hb => show ¬ (g3 = bk2) by first | omega | assumption))
  have D134 := (mk125.keep u128 (I119).cellsIn)
  have hmkE := D134
  refine f_retMc2 (v1 := .slice a3 v3.length c3) (v2 := .int .i64 0) results32 (.cell D134 rfl isAgg105 B129 rfl) (.tmp rfl) D134 (fun w132 u133 omw132 => ?_)
  have zu133 := u133.size
  have hacW := D131.keep omw132 (fun hb9 hd9 => by
    rcases (D131).at_ with ⟨_, _, _, h6⟩ | ⟨_, _, cur, h7, _⟩
    · omega
    · exact hmkE.notCells h7 hd9)
  have hop : opP xs = v3 := by unfold opP; rw [if_pos hE0, hvk]
  exact ⟨⟨a3, g3, c3, by rw [hop, hE0], by rw [hop]; exact hacW⟩, (((E44.u.next u117 (fun i hi h => by omega)).next u128 (fun i hi h => by omega)).next u133 (fun i hi (h : w0.heap.size ≤ i) => show False by first | omega | assumption))⟩

end Go.Proofs.YtagmkfbbhfaceaaGreatDoor
