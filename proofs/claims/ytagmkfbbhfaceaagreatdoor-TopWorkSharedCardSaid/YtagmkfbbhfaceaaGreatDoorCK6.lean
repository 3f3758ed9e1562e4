/-
  Part 6 of the proof: contracts and plain laws. Conditions: none.
-/
import Derived.ChangeKeysEq
import Derived.Test.YtagmkfbbhfaceaaGreatDoorCK5
namespace Go.Proofs.YtagmkfbbhfaceaaGreatDoor
open Go Go.RowKit Go.Proofs.Tryz Go.Shelf
/-! ### a quotient of two words by one -/
/-- a digit that is guessed: not too small, and what is left of the upper words -/
structure Dg (y1 y0 u n q r : Int) : Prop where
  e : q * y1 + r = u
  r0 : 0 ≤ r
  q0 : 0 ≤ q
  up : u * 4294967296 + n < (q + 1) * (y1 * 4294967296 + y0)
  qb : q ≤ 4294967297
/-- what a digit's words are -/
structure Dw (y1 y0 u n : Int) : Prop where
  hy1 : 2147483648 ≤ y1 ∧ y1 ≤ 4294967295
  hy0 : 0 ≤ y0 ∧ y0 ≤ 4294967295
  hn : 0 ≤ n ∧ n ≤ 4294967295
  hu : 0 ≤ u ∧ u < y1 * 4294967296 + y0
/-- the digit itself -/
structure De (y1 y0 u n q : Int) : Prop where
  q0 : 0 ≤ q ∧ q ≤ 4294967295
  lo : q * (y1 * 4294967296 + y0) ≤ u * 4294967296 + n
  up : u * 4294967296 + n < (q + 1) * (y1 * 4294967296 + y0)
section
variable {y1 y0 u n q r : Int}
theorem Dw.init (h : Dw y1 y0 u n) : Dg y1 y0 u n (u / y1) (u - u / y1 * y1) ∧ u - u / y1 * y1 ≤ 4294967295 ∧ 0 ≤ u / y1 * y1 ∧ u / y1 * y1 ≤ u := by
  obtain ⟨h1, h2, h3, h4⟩ := h
  have e : u % y1 = u - u / y1 * y1 := by rw [Int.emod_def, Int.mul_comm]
  have m0 := Int.emod_nonneg u (show y1 ≠ 0 by omega)
  have m1 := Int.emod_lt_of_pos u (show 0 < y1 by omega)
  rw [e] at m0 m1
  have q0 : 0 ≤ u / y1 := Int.ediv_nonneg h4.1 (by omega)
  have qm := Int.mul_nonneg q0 (show 0 ≤ y1 by omega)
  have qb : u / y1 < 4294967298 := Int.ediv_lt_of_lt_mul (by omega) (by omega)
  refine ⟨⟨by omega, by omega, q0, ?_, by omega⟩, by omega, qm, by omega⟩
  have a1 : (u / y1 + 1) * (y1 * 4294967296 + y0) = (u / y1 * y1 + y1) * 4294967296 + (u / y1 * y0 + y0) := by
    rw [Int.mul_add, Int.add_mul, Int.add_mul, Int.one_mul, Int.one_mul, ← Int.mul_assoc]; omega
  have a2 := Int.mul_nonneg q0 h2.1
  rw [a1]; omega
theorem Dg.pos (hw : Dw y1 y0 u n) (h : Dg y1 y0 u n q r) (hc : 4294967296 ≤ q ∨ 4294967296 * r + n < q * y0) : 1 ≤ q := by
  obtain ⟨e, r0, q0, up, qb⟩ := h
  rcases Int.lt_or_le q 1 with c | c
  · have e0 : q = 0 := by omega
    subst e0
    rw [Int.zero_mul] at hc
    have := hw.hn
    omega
  · exact c
theorem Dg.next (hw : Dw y1 y0 u n) (h : Dg y1 y0 u n q r) (hc : 4294967296 ≤ q ∨ 4294967296 * r + n < q * y0) : Dg y1 y0 u n (q - 1) (r + y1) := by
  have hp := h.pos hw hc
  obtain ⟨e, r0, q0, up, qb⟩ := h
  obtain ⟨h1, h2, h3, h4⟩ := hw
  refine ⟨by rw [Int.sub_mul, Int.one_mul]; omega, by omega, by omega, ?_, by omega⟩
  have a1 : (q - 1 + 1) * (y1 * 4294967296 + y0) = q * y1 * 4294967296 + q * y0 := by
    rw [Int.sub_add_cancel, Int.mul_add, ← Int.mul_assoc]
  rw [a1]
  rcases hc with hc | hc
  · have a2 : 4294967296 * (y1 * 4294967296 + y0) ≤ q * (y1 * 4294967296 + y0) := Int.mul_le_mul_of_nonneg_right hc (by omega)
    rw [Int.mul_add q, ← Int.mul_assoc q] at a2
    omega
  · omega
theorem De.of (hw : Dw y1 y0 u n) (h : Dg y1 y0 u n q r) (hq : q * y0 ≤ 4294967296 * r + n) : De y1 y0 u n q := by
  obtain ⟨e, r0, q0, up, qb⟩ := h
  obtain ⟨h1, h2, h3, h4⟩ := hw
  have a1 : q * (y1 * 4294967296 + y0) = q * y1 * 4294967296 + q * y0 := by rw [Int.mul_add, ← Int.mul_assoc]
  have lo : q * (y1 * 4294967296 + y0) ≤ u * 4294967296 + n := by rw [a1]; omega
  refine ⟨⟨q0, ?_⟩, lo, up⟩
  rcases Int.lt_or_le q 4294967296 with c | c
  · omega
  · have a2 : 4294967296 * (y1 * 4294967296 + y0) ≤ q * (y1 * 4294967296 + y0) := Int.mul_le_mul_of_nonneg_right c (by omega)
    omega
theorem De.brk (hw : Dw y1 y0 u n) (h : Dg y1 y0 u n q r) (hq : q ≤ 4294967296) (hr : 4294967296 ≤ r) : De y1 y0 u n q := by
  refine De.of hw h ?_
  have h2 := hw.hy0
  have a1 : q * y0 ≤ 4294967296 * y0 := Int.mul_le_mul_of_nonneg_right hq h2.1
  have := hw.hn
  omega
/-- what is left behind a digit -/
theorem De.rem (_hw : Dw y1 y0 u n) (h : De y1 y0 u n q) : 0 ≤ u * 4294967296 + n - q * (y1 * 4294967296 + y0) ∧ u * 4294967296 + n - q * (y1 * 4294967296 + y0) < y1 * 4294967296 + y0 := by
  obtain ⟨h1, h2, h3⟩ := h
  rw [Int.add_mul, Int.one_mul] at h3
  omega
/-- the product that the loop looks at -/
theorem Dg.mul (hw : Dw y1 y0 u n) (h : Dg y1 y0 u n q r) (hq : q ≤ 4294967295) : 0 ≤ q * y0 ∧ q * y0 ≤ 18446744065119617025 :=
  ⟨Int.mul_nonneg h.q0 hw.hy0.1, Int.le_trans (Int.mul_le_mul_of_nonneg_right hq hw.hy0.1) (by have := hw.hy0; omega)⟩
end
/-- two digits make the quotient -/
theorem two_dig {y1 y0 u n1 n0 q1 q0 : Int} (_h1 : De y1 y0 u n1 q1) (h0 : De y1 y0 (u * 4294967296 + n1 - q1 * (y1 * 4294967296 + y0)) n0 q0) (hy : 0 < y1 * 4294967296 + y0) :
    (u * 18446744073709551616 + n1 * 4294967296 + n0) / (y1 * 4294967296 + y0) = q1 * 4294967296 + q0 := by
  obtain ⟨a1, a2, a3⟩ := h0
  obtain ⟨Y, hY⟩ : ∃ Y, Y = y1 * 4294967296 + y0 := ⟨_, rfl⟩
  rw [← hY] at a2 a3 hy ⊢
  rw [Int.add_mul, Int.one_mul] at a3
  have e : (q1 * 4294967296 + q0) * Y = q1 * Y * 4294967296 + q0 * Y := by rw [Int.add_mul, Int.mul_right_comm]
  refine Int.le_antisymm (Int.lt_add_one_iff.1 (Int.ediv_lt_of_lt_mul hy ?_)) (Int.le_ediv_of_mul_le hy ?_)
  · rw [Int.add_mul, Int.one_mul, e]; omega
  · rw [e]; omega
/-- the words, shifted -/
theorem shift_words {hi lo y : Int} {s : Nat} (hs : s ≤ 63) (hh : 0 ≤ hi ∧ hi < y) (hl : 0 ≤ lo ∧ lo ≤ 18446744073709551615) (hy : y * 2 ^ s ≤ 18446744073709551615) :
    (0 ≤ hi * 2 ^ s ∧ hi * 2 ^ s ≤ 18446744073709551615) ∧ (0 ≤ lo / 2 ^ (64 - s) ∧ lo / 2 ^ (64 - s) < 2 ^ s) ∧ hi * 2 ^ s + lo / 2 ^ (64 - s) < y * 2 ^ s ∧
    (hi * 18446744073709551616 + lo) * 2 ^ s = (hi * 2 ^ s + lo / 2 ^ (64 - s)) * 18446744073709551616 + lo * 2 ^ s % 18446744073709551616 := by
  have p1 : (0 : Int) < 2 ^ s := Int.pow_pos (by decide)
  have p2 : (0 : Int) < 2 ^ (64 - s) := Int.pow_pos (by decide)
  have pp : (2 : Int) ^ (64 - s) * 2 ^ s = 18446744073709551616 := by
    rw [← Int.pow_add, show 64 - s + s = 64 by omega]; rfl
  have h1 := Int.mul_nonneg hh.1 (Int.le_of_lt p1)
  have h2 : (hi + 1) * 2 ^ s ≤ y * 2 ^ s := Int.mul_le_mul_of_nonneg_right (by omega) (Int.le_of_lt p1)
  rw [Int.add_mul, Int.one_mul] at h2
  have h3 : 0 ≤ lo / 2 ^ (64 - s) := Int.ediv_nonneg hl.1 (Int.le_of_lt p2)
  have h4 : lo / 2 ^ (64 - s) < 2 ^ s := Int.ediv_lt_of_lt_mul p2 (by rw [Int.mul_comm, pp]; omega)
  have h5 : lo * 2 ^ s / 18446744073709551616 = lo / 2 ^ (64 - s) := by
    rw [← pp, Int.mul_ediv_mul_of_pos_left _ _ p1]
  have h6 := Int.emod_add_mul_ediv (lo * 2 ^ s) 18446744073709551616
  rw [h5] at h6
  refine ⟨⟨h1, by omega⟩, ⟨h3, h4⟩, by omega, ?_⟩
  rw [Int.add_mul, Int.mul_right_comm]
  omega
theorem quot_shift {N y : Int} {s : Nat} : N * 2 ^ s / (y * 2 ^ s) = N / y := Int.mul_ediv_mul_of_pos_left _ _ (Int.pow_pos (by decide))
theorem mul_words {x y : Int} (hx : 0 ≤ x ∧ x ≤ 4294967295) (hy : 0 ≤ y ∧ y ≤ 17592186044416) :
    (0 ≤ x * (y % 4294967296) ∧ x * (y % 4294967296) ≤ 18446744065119617025) ∧ (0 ≤ x * (y / 4294967296) ∧ x * (y / 4294967296) ≤ 17592186040320) ∧ (x * (y % 4294967296) / 4294967296 + x * (y / 4294967296)) / 4294967296 = x * y / 18446744073709551616 ∧ 0 ≤ x * y := by
  have e : y = y / 4294967296 * 4294967296 + y % 4294967296 := by omega
  have b1 : x * (y % 4294967296) ≤ 4294967295 * (y % 4294967296) := Int.mul_le_mul_of_nonneg_right hx.2 (by omega)
  have b2 : x * (y / 4294967296) ≤ 4294967295 * (y / 4294967296) := Int.mul_le_mul_of_nonneg_right hx.2 (by omega)
  have n1 := Int.mul_nonneg hx.1 (show 0 ≤ y % 4294967296 by omega)
  have n2 := Int.mul_nonneg hx.1 (show 0 ≤ y / 4294967296 by omega)
  have p : x * y = x * (y / 4294967296) * 4294967296 + x * (y % 4294967296) := by
    rw [Int.mul_assoc, ← Int.mul_add, ← e]
  refine ⟨⟨n1, by omega⟩, ⟨n2, by omega⟩, ?_, Int.mul_nonneg hx.1 hy.1⟩
  rw [p]
  omega

theorem Len64_c (m : Nat) (h0 : m ≠ 0) (h : m < 2 ^ 64) (w0 : World) : CallsV Tryz.prog 173 [.int .u64 (m : Int)] w0 fun v w' => v = .int .i64 ((m.log2 + 1 : Nat) : Int) ∧ Ext w0 w' := by
  refine Calls.mono (Any.bits_Len64 { layLen with } (m : Int) w0 (by omega) (by omega)) ?_
  rintro e w' ⟨rfl, rfl⟩
  exact ⟨_, rfl, by rw [Int.toNat_natCast, bitLen_log2 h0 h], Upd.refl _ _⟩
theorem lz_range {m : Nat} (h0 : m ≠ 0) (h : m < 2 ^ 64) : m.log2 ≤ 63 ∧ 9223372036854775808 ≤ (m : Int) * 2 ^ (63 - m.log2) ∧ (m : Int) * 2 ^ (63 - m.log2) ≤ 18446744073709551615 := by
  have h1 : m.log2 ≤ 63 := by
    have := (Nat.log2_lt h0 (k := 64)).2 h
    omega
  have h2 : 2 ^ m.log2 ≤ m := Nat.log2_self_le h0
  have h3 : m < 2 ^ (m.log2 + 1) := Nat.lt_log2_self
  have p : 2 ^ m.log2 * 2 ^ (63 - m.log2) = 2 ^ 63 := by rw [← Nat.pow_add]; congr 1; omega
  have q : 2 ^ (m.log2 + 1) * 2 ^ (63 - m.log2) = 2 ^ 64 := by rw [← Nat.pow_add]; congr 1; omega
  have p0 : 0 < 2 ^ (63 - m.log2) := Nat.pow_pos (by decide)
  have a1 := Nat.mul_le_mul_right (2 ^ (63 - m.log2)) h2
  have a2 := Nat.mul_lt_mul_of_pos_right h3 p0
  rw [p] at a1
  rw [q] at a2
  have e : (m : Int) * 2 ^ (63 - m.log2) = ((m * 2 ^ (63 - m.log2) : Nat) : Int) := by simp
  rw [e]
  refine ⟨h1, by omega, by omega⟩
theorem mul64W_c (x y : Int) (w0 : World) (hx : 0 ≤ x ∧ x ≤ 4294967295) (hy : 0 ≤ y ∧ y ≤ 17592186044416) :
    CallsV Tryz.prog 161 [.int .u64 x, .int .u64 y] w0 (fun v w' => v = .tuple #[.int .u64 (x * y / 18446744073709551616), .int .u64 (x * y % 18446744073709551616)] ∧ Ext w0 w') := by
 obtain ⟨m1, m2, m3, m4⟩ := mul_words hx hy
 refine f_n func161 ?_
 refine go ?_
 refine t_and32 rfl rfl rfl rfl (by omega) ?_
 refine go ?_
 refine t_shr32 rfl rfl rfl rfl (by omega) (t_same 17 (v := .int .u64 0) rfl (congrArg (Value.int .u64) (by omega)) ?_)
 refine go ?_
 refine t_andM rfl rfl rfl rfl (by omega) ?_
 refine go ?_
 refine t_shr32 rfl rfl rfl rfl (by omega) ?_
 refine go ?_
 refine t_ariW rfl rfl rfl rfl rfl (by omega) ?_
 refine go ?_
 refine t_ariW rfl rfl rfl rfl rfl (by omega) (t_same 27 (v := .int .u64 0) rfl (congrArg (Value.int .u64) (Int.zero_mul _)) ?_)
 refine go ?_
 refine t_shr32 rfl rfl rfl rfl (by omega) (t_ariW rfl rfl rfl rfl rfl (by omega) (t_same 30 (v := .int .u64 (x * (y % 4294967296) / 4294967296)) rfl (congrArg (Value.int .u64) (by omega)) ?_))
 refine go ?_
 refine t_and32 rfl rfl rfl rfl (by omega) ?_
 refine go ?_
 refine t_shr32 rfl rfl rfl rfl (by omega) (t_same 34 (v := .int .u64 0) rfl (congrArg (Value.int .u64) (by omega)) ?_)
 refine go ?_
 refine t_ariW rfl rfl rfl rfl rfl (by omega) (t_ariW rfl rfl rfl rfl rfl (by omega) ?_)
 refine go ?_
 refine t_ariW rfl rfl rfl rfl rfl (by omega) (t_same 42 (v := .int .u64 0) rfl (congrArg (Value.int .u64) (Int.zero_mul _)) ?_)
 refine go ?_
 refine t_ariW rfl rfl rfl rfl rfl (by omega) ?_
 refine go ?_
 refine t_shr32 rfl rfl rfl rfl (by omega) (t_ariW rfl rfl rfl rfl rfl (by omega) (t_same 47 (v := .int .u64 (x * y / 18446744073709551616)) rfl (congrArg (Value.int .u64) (by omega)) ?_))
 refine go ?_
 refine t_ariM (r := ((x * y) % 18446744073709551616)) rfl rfl rfl rfl rfl rfl ?_
 refine go ?_
 refine f_ret2 (v1 := .int .u64 (x * y / 18446744073709551616)) (v2 := .int .u64 ((x * y) % 18446744073709551616)) results161 rfl rfl ?_
 exact ⟨rfl, u_d⟩

theorem lz_c (m : Nat) (w0 : World) (h0 : m ≠ 0) (h : m < 18446744073709551616) :
    CallsV Tryz.prog 197 [.int .u64 (m : Int)] w0 (fun v w' => v = .int .i64 ((63 - m.log2 : Nat) : Int) ∧ Ext w0 w') := by
 obtain ⟨l1, l2, l3⟩ := lz_range h0 (show m < 2 ^ 64 by omega)
 refine f_n func197 ?_
 refine go ?_
 refine x_c func173 rfl rfl (Len64_c m h0 (by omega) _) ?_
 rintro _ w4 ⟨rfl, u5⟩ zu5
 refine st1 ?_
 refine t_same 5 (v := .int .i64 ((63 - m.log2 : Nat) : Int)) rfl (congrArg (Value.int .i64) (by omega)) ?_
 refine go ?_
 refine f_1 results197 ?_
 exact ⟨rfl, u_d⟩

theorem lzS_c (y : Int) (s : Nat) (hs : s = 63 - y.toNat.log2) (hy : 1 ≤ y ∧ y ≤ 18446744073709551615) (w0 : World) : CallsV Tryz.prog 197 [.int .u64 y] w0 fun v w' => v = .int .i64 (s : Int) ∧ Ext w0 w' := by
  have h := lz_c y.toNat w0 (by omega) (by omega)
  rw [Int.toNat_of_nonneg (by omega), ← hs] at h; exact h

set_option maxHeartbeats 4000000 in
theorem div64W_c (hi lo y : Int) (w0 : World) (hh : 0 ≤ hi ∧ hi < y) (hl : 0 ≤ lo ∧ lo ≤ 18446744073709551615) (hyr : 1 ≤ y ∧ y ≤ 18446744073709551615) :
    CallsV Tryz.prog 162 [.int .u64 hi, .int .u64 lo, .int .u64 y] w0 (fun v w' => (∃ r9 : Int, v = .tuple #[.int .u64 ((hi * 18446744073709551616 + lo) / y), .int .u64 r9]) ∧ Ext w0 w') := by
 refine f_n func162 ?_
 iterate 11 refine st1 ?_
 refine t_same 20 (v := .bool false) rfl (congrArg Value.bool (decide_eq_false (by omega))) ?_
 iterate 11 refine st1 ?_
 refine t_same 24 (v := .bool false) rfl (congrArg Value.bool (decide_eq_false (by omega))) ?_
 refine go ?_
 refine q_p (fun g27 => ?_) fun g27 => ?_
 ·
  refine go ?_
  refine c_drawnM follows (fun _ => False) (OTl [0, 2, 6, 8, 10, 5, 12, 14]) (by kernel_rfl) fun w9 u10 => ?_
  have zu10 := u10.size
  refine go ?_
  refine y_rem8 rfl rfl rfl rfl (by omega) (by omega) ?_
  refine go ?_
  refine t_quoW rfl rfl rfl rfl (by omega) (by omega) ?_
  refine go ?_
  refine f_ret2 (v1 := .int .u64 (lo / y)) (v2 := .int .u64 (lo % y)) results162 rfl rfl ?_
  have hq9 : (hi * 18446744073709551616 + lo) / y = lo / y := by rw [show hi = 0 by omega, Int.zero_mul, Int.zero_add]
  rw [hq9]
  exact ⟨⟨_, rfl⟩, u_d⟩
 obtain ⟨s, hs9, hs63, hYl, hYu⟩ : ∃ s : Nat, s = 63 - y.toNat.log2 ∧ s ≤ 63 ∧ 9223372036854775808 ≤ y * 2 ^ s ∧ y * 2 ^ s ≤ 18446744073709551615 := by
   obtain ⟨l1, l2, l3⟩ := lz_range (m := y.toNat) (by omega) (by omega)
   rw [Int.toNat_of_nonneg (by omega)] at l2 l3
   exact ⟨_, rfl, by omega, l2, l3⟩
 obtain ⟨sw1, sw2, sw3, sw4⟩ := shift_words (hi := hi) (lo := lo) hs63 (by omega) (by omega) hYu
 obtain ⟨Y, hY⟩ : ∃ Y, Y = y * 2 ^ s := ⟨_, rfl⟩
 obtain ⟨H, hH⟩ : ∃ H, H = hi * 2 ^ s := ⟨_, rfl⟩
 obtain ⟨l1, hl1⟩ : ∃ l1, l1 = lo / 2 ^ (64 - s) := ⟨_, rfl⟩
 obtain ⟨z, hz⟩ : ∃ z, z = lo * 2 ^ s % 18446744073709551616 := ⟨_, rfl⟩
 have hH2 : H = ((2 ^ s * hi.toNat : Nat) : Int) := by rw [hH, Int.natCast_mul, Int.toNat_of_nonneg (by omega), Int.mul_comm]; simp
 rw [← hH, ← hl1, ← hz] at sw4
 rw [← hH] at sw1
 rw [← hl1] at sw2
 rw [← hH, ← hl1, ← hY] at sw3
 have hYl2 := hYl
 have hYu2 := hYu
 rw [← hY] at hYl2 hYu2
 have hl1r : 0 ≤ l1 ∧ l1 < 2 ^ s := sw2
 have hzr : 0 ≤ z ∧ z ≤ 18446744073709551615 := by omega
 clear sw2 hYl hYu
 obtain ⟨y1, hy1⟩ : ∃ y1, y1 = Y / 4294967296 := ⟨_, rfl⟩
 obtain ⟨y0, hy0⟩ : ∃ y0, y0 = Y % 4294967296 := ⟨_, rfl⟩
 obtain ⟨n1, hn1⟩ : ∃ n1, n1 = z / 4294967296 := ⟨_, rfl⟩
 obtain ⟨n0, hn0⟩ : ∃ n0, n0 = z % 4294967296 := ⟨_, rfl⟩
 obtain ⟨u, hu⟩ : ∃ u, u = H + l1 := ⟨_, rfl⟩
 have hYe : y1 * 4294967296 + y0 = Y := by omega
 have hw1 : Dw y1 y0 u n1 := ⟨by omega, by omega, by omega, by omega⟩
 have hi1 := hw1.init
 refine go ?_
 refine x_c func197 rfl rfl (lzS_c y s hs9 hyr _) ?_
 rintro _ w14 ⟨rfl, u15⟩ zu15
 refine t_conv underlying3 underlying175 rfl rfl rfl (IntWalk.u64_in _ (by omega)) ?_
 refine go ?_
 refine t_shlM (r := Y) s (by omega) (by rw [← hY]; omega) rfl rfl rfl rfl ?_
 refine go ?_
 refine t_shr32 rfl rfl rfl rfl (by omega) (t_same 41 (v := .int .u64 y1) rfl (congrArg (Value.int .u64) (by omega)) ?_)
 refine go ?_
 refine t_andM rfl rfl rfl rfl (by omega) (t_same 43 (v := .int .u64 y0) rfl (congrArg (Value.int .u64) (by omega)) ?_)
 refine go ?_
 refine t_shlM (r := H) s (by omega) (by rw [← hH]; omega) rfl rfl rfl rfl ?_
 refine go ?_
 refine t_ariW rfl rfl rfl rfl rfl (by omega) (t_shrM (r := l1) (64 - s) (show (64 - (s : Int)) = ((64 - s : Nat) : Int) by omega) (by omega) (by omega) hl1.symm rfl rfl rfl rfl (t_orM hi.toNat s hH2 hl1r (by omega) rfl rfl rfl rfl (t_same 51 (v := .int .u64 u) rfl (congrArg (Value.int .u64) (by omega)) ?_)))
 refine go ?_
 refine t_shlM (r := z) s (by omega) hz.symm rfl rfl rfl rfl ?_
 refine go ?_
 refine t_shr32 rfl rfl rfl rfl (by omega) (t_same 56 (v := .int .u64 n1) rfl (congrArg (Value.int .u64) (by omega)) ?_)
 refine go ?_
 refine t_andM rfl rfl rfl rfl (by omega) (t_same 58 (v := .int .u64 n0) rfl (congrArg (Value.int .u64) (by omega)) ?_)
 refine go ?_
 refine t_quoW rfl rfl rfl rfl (by omega) (by omega) ?_
 refine go ?_
 refine t_ariW rfl rfl rfl rfl rfl (by omega) (t_ariW rfl rfl rfl rfl rfl (by omega) ?_)
 iterate 3 refine st1 ?_
 refine x_k1 (fun _ => False) [2, 8, 9, 10, 11, 13, 14] (fun (q1 : Int) => [(15, .int .u64 q1)]) (fun q1 w => (De y1 y0 u n1 q1)) (fun K31 hK31 => ?_) ?_
 ·
  refine go ?_
  refine x_l2 (fun _ => False) [2, 8, 9, 10, 11, 13, 14] (fun (q : Int) (r : Int) => [(15, .int .u64 q), (16, .int .u64 r)]) (fun q r w => (Dg y1 y0 u n1 q r) ∧ (r ≤ 4294967295)) (fun q r => (4294967296 - r).toNat) (u / y1) (u - u / y1 * y1) ⟨hw1.init.1, hw1.init.2.1⟩ ?_
  rintro q r w35 ⟨hdg, hrb⟩ u36 zu36 K34 hK34
  have hr0 := hdg.r0
  have hq0 := hdg.q0
  have hqb := hdg.qb
  refine go ?_
  refine t_splitp 69 rfl (fun g69 => ?_) (fun g69 => ?_)
  ·
   have hc9 : 4294967296 ≤ q ∨ 4294967296 * r + n1 < q * y0 := by omega
   have hdn := hdg.next hw1 hc9
   have hp9 := hdg.pos hw1 hc9
   refine go ?_
   refine t_ariW rfl rfl rfl rfl rfl (by omega) ?_
   refine go ?_
   refine t_ariW rfl rfl rfl rfl rfl (by omega) ?_
   refine go ?_
   refine q_p (fun g85 => ?_) fun g85 => ?_
   ·
    refine go ?_
    exact hK31 (q - 1) (by first | exact De.of hw1 hdg (by omega) | exact De.brk hw1 hdn (by omega) (by omega))
   refine go ?_
   exact hK34 (q - 1) (r + y1) ⟨hdn, (by omega)⟩
  have hmq := hdg.mul hw1 (by omega)
  refine go ?_
  refine t_ariW rfl rfl rfl rfl rfl (by omega) ?_
  refine go ?_
  refine t_ariW rfl rfl rfl rfl rfl (by omega) ?_
  refine go ?_
  refine t_ariW rfl rfl rfl rfl rfl (by omega) ?_
  refine go ?_
  refine q_p (fun g78 => ?_) fun g78 => ?_
  ·
   have hc9 : 4294967296 ≤ q ∨ 4294967296 * r + n1 < q * y0 := by omega
   have hdn := hdg.next hw1 hc9
   have hp9 := hdg.pos hw1 hc9
   refine go ?_
   refine t_ariW rfl rfl rfl rfl rfl (by omega) ?_
   refine go ?_
   refine t_ariW rfl rfl rfl rfl rfl (by omega) ?_
   refine go ?_
   refine q_p (fun g85 => ?_) fun g85 => ?_
   ·
    refine go ?_
    exact hK31 (q - 1) (by first | exact De.of hw1 hdg (by omega) | exact De.brk hw1 hdn (by omega) (by omega))
   refine go ?_
   exact hK34 (q - 1) (r + y1) ⟨hdn, (by omega)⟩
  refine go ?_
  exact hK31 q (by first | exact De.of hw1 hdg (by omega) | exact De.brk hw1 hdn (by omega) (by omega))
 rintro q1 w32 hD1 u33 zu33
 have hr1 := hD1.rem hw1
 have hqr1 := hD1.q0
 rw [hYe] at hr1
 obtain ⟨u1, hu1⟩ : ∃ u1, u1 = u * 4294967296 + n1 - q1 * Y := ⟨_, rfl⟩
 have hw0 : Dw y1 y0 u1 n0 := ⟨by omega, by omega, by omega, by omega⟩
 have hi0 := hw0.init
 refine go ?_
 refine t_ariM (r := ((u * 4294967296) % 18446744073709551616)) rfl rfl rfl rfl rfl rfl ?_
 refine go ?_
 refine t_ariM (r := ((((u * 4294967296) % 18446744073709551616) + n1) % 18446744073709551616)) rfl rfl rfl rfl rfl rfl ?_
 refine go ?_
 refine t_ariM (r := ((q1 * Y) % 18446744073709551616)) rfl rfl rfl rfl rfl rfl (t_ariM (r := u1) (by omega) rfl rfl rfl rfl rfl ?_)
 refine go ?_
 refine t_quoW rfl rfl rfl rfl (by omega) (by omega) ?_
 refine go ?_
 refine t_ariW rfl rfl rfl rfl rfl (by omega) (t_ariW rfl rfl rfl rfl rfl (by omega) ?_)
 iterate 3 refine st1 ?_
 refine x_k1 (fun _ => False) [2, 8, 14, 15, 17] (fun (q0 : Int) => [(18, .int .u64 q0)]) (fun q0 w => (De y1 y0 u1 n0 q0)) (fun K54 hK54 => ?_) ?_
 ·
  refine go ?_
  refine x_l2 (fun _ => False) [2, 8, 9, 10, 14, 15, 17] (fun (q : Int) (r : Int) => [(16, .int .u64 r), (18, .int .u64 q)]) (fun q r w => (Dg y1 y0 u1 n0 q r) ∧ (r ≤ 4294967295)) (fun q r => (4294967296 - r).toNat) (u1 / y1) (u1 - u1 / y1 * y1) ⟨hw0.init.1, hw0.init.2.1⟩ ?_
  rintro q r w58 ⟨hdg, hrb⟩ u59 zu59 K57 hK57
  have hr0 := hdg.r0
  have hq0 := hdg.q0
  have hqb := hdg.qb
  refine go ?_
  refine t_splitp 104 rfl (fun g104 => ?_) (fun g104 => ?_)
  ·
   have hc9 : 4294967296 ≤ q ∨ 4294967296 * r + n0 < q * y0 := by omega
   have hdn := hdg.next hw0 hc9
   have hp9 := hdg.pos hw0 hc9
   refine go ?_
   refine t_ariW rfl rfl rfl rfl rfl (by omega) ?_
   refine go ?_
   refine t_ariW rfl rfl rfl rfl rfl (by omega) ?_
   refine go ?_
   refine q_p (fun g120 => ?_) fun g120 => ?_
   ·
    refine go ?_
    exact hK54 (q - 1) (by first | exact De.of hw0 hdg (by omega) | exact De.brk hw0 hdn (by omega) (by omega))
   refine go ?_
   exact hK57 (q - 1) (r + y1) ⟨hdn, (by omega)⟩
  have hmq := hdg.mul hw0 (by omega)
  refine go ?_
  refine t_ariW rfl rfl rfl rfl rfl (by omega) ?_
  refine go ?_
  refine t_ariW rfl rfl rfl rfl rfl (by omega) ?_
  refine go ?_
  refine t_ariW rfl rfl rfl rfl rfl (by omega) ?_
  refine go ?_
  refine q_p (fun g113 => ?_) fun g113 => ?_
  ·
   have hc9 : 4294967296 ≤ q ∨ 4294967296 * r + n0 < q * y0 := by omega
   have hdn := hdg.next hw0 hc9
   have hp9 := hdg.pos hw0 hc9
   refine go ?_
   refine t_ariW rfl rfl rfl rfl rfl (by omega) ?_
   refine go ?_
   refine t_ariW rfl rfl rfl rfl rfl (by omega) ?_
   refine go ?_
   refine q_p (fun g120 => ?_) fun g120 => ?_
   ·
    refine go ?_
    exact hK54 (q - 1) (by first | exact De.of hw0 hdg (by omega) | exact De.brk hw0 hdn (by omega) (by omega))
   refine go ?_
   exact hK57 (q - 1) (r + y1) ⟨hdn, (by omega)⟩
  refine go ?_
  exact hK54 q (by first | exact De.of hw0 hdg (by omega) | exact De.brk hw0 hdn (by omega) (by omega))
 rintro q0 w55 hD0 u56 zu56
 have hr0 := hD0.rem hw0
 have hqr0 := hD0.q0
 rw [hYe] at hr0
 refine go ?_
 refine t_ariW rfl rfl rfl rfl rfl (by omega) ?_
 refine go ?_
 refine t_ariW rfl rfl rfl rfl rfl (by omega) ?_
 refine go ?_
 refine t_ariM (r := ((u1 * 4294967296) % 18446744073709551616)) rfl rfl rfl rfl rfl rfl ?_
 refine go ?_
 refine t_ariM (r := ((((u1 * 4294967296) % 18446744073709551616) + n0) % 18446744073709551616)) rfl rfl rfl rfl rfl rfl ?_
 refine go ?_
 refine t_ariM (r := ((q0 * Y) % 18446744073709551616)) rfl rfl rfl rfl rfl rfl (t_ariM (r := ((((((u1 * 4294967296) % 18446744073709551616) + n0) % 18446744073709551616) - ((q0 * Y) % 18446744073709551616)) % 18446744073709551616)) rfl rfl rfl rfl rfl rfl ?_)
 refine go ?_
 refine t_shrM (r := (((((((u1 * 4294967296) % 18446744073709551616) + n0) % 18446744073709551616) - ((q0 * Y) % 18446744073709551616)) % 18446744073709551616) / 2 ^ s)) s rfl (by omega) (by omega) rfl rfl rfl rfl rfl ?_
 refine go ?_
 refine f_ret2 (v1 := .int .u64 ((q1 * 4294967296) + q0)) (v2 := .int .u64 (((((((u1 * 4294967296) % 18446744073709551616) + n0) % 18446744073709551616) - ((q0 * Y) % 18446744073709551616)) % 18446744073709551616) / 2 ^ s)) results162 rfl rfl ?_
 have hu2 : u1 = u * 4294967296 + n1 - q1 * (y1 * 4294967296 + y0) := by rw [hYe]; exact hu1
 rw [hu2] at hD0
 have h8 := two_dig hD1 hD0 (by omega)
 rw [hYe] at h8
 have hq9 : (hi * 18446744073709551616 + lo) / y = q1 * 4294967296 + q0 := by
   rw [← quot_shift (s := s), ← hY, sw4, ← h8]
   congr 1; omega
 rw [hq9]
 exact ⟨⟨_, rfl⟩, u_d⟩

end Go.Proofs.YtagmkfbbhfaceaaGreatDoor
namespace Go.Proofs.YtagmkfbbhfaceaaGreatDoor
open Go Go.RowKit Go.Proofs.Tryz
set_option maxRecDepth 10000
end Go.Proofs.YtagmkfbbhfaceaaGreatDoor
namespace Go.Proofs.YtagmkfbbhfaceaaGreatDoor
open Go Go.RowKit Go.Proofs.Tryz
set_option maxRecDepth 10000
theorem weigh_c (l : List UInt8) (al : Option Addr) (bl ol cl : Nat) (by_ : Int) (w0 : World) (hs : Sl encY 1 w0 al bl ol l) (hl : l.length ≤ 100000) (hby : 1 ≤ by_) :
    CallsV Tryz.prog 125 [.slice al l.length cl, .int .i64 by_] w0 (fun v w' => v = .int .i64 (weighP l by_) ∧ Ext w0 w') := by
 refine f_n func125 ?_
 refine go ?_
 refine x_l1 (fun _ => False) [1, 7, 8] (fun (k : Nat) => [(4, .int .i64 (wsum 0 (l.take k))), (9, .int .i64 (k : Int))]) (fun k w => (k ≤ l.length)) (fun k => l.length - k) 0 (Nat.zero_le _) ?_
 rintro k w5 hk u6 zu6 K4 hK4
 have hw := wsum_take hl k
 have hu := u8_range (nth l k)
 have hkb := mul_bound (a := (k : Int) + 1) (b := ((nth l k).toNat : Int)) (n := 100001) (by omega) (by omega) (u8_range _).1 (u8_range _).2
 have hsn : wsum 0 (l.take (k + 1)) = wsum 0 (l.take k) + ((k : Int) + 1) * ((nth l k).toNat : Int) ∨ l.length ≤ k := by
   rcases Nat.lt_or_ge k l.length with h | h
   · left; rw [take_nth h, wsum_snoc, List.length_take, Nat.min_eq_left (by omega)]; simp
   · exact .inr h
 refine go ?_
 refine q_p (fun g10 => ?_) fun g10 => ?_
 ·
  refine go ?_
  refine g_i k (hs.keep ((Upd.refl (fun _ => False) w0).nx u6) (fun _ h => h)) (fun _ => ?_)
  refine go ?_
  refine t_conv underlying5 underlying3 rfl rfl rfl (IntWalk.i64_in _ (by omega)) ?_
  refine go ?_
  exact hK4 (k + 1) (by omega) (hs := by exact ⟨(congrArg (fun z => some (Value.int .i64 z)) (by omega)), rfl, rfl, rfl, rfl, trivial⟩)
 refine go ?_
 refine t_rem rfl rfl rfl rfl (by omega) (by omega) ?_
 refine go ?_
 refine f_1 results125 ?_
 exact ⟨by rw [List.take_of_length_le (by omega)]; rfl, u_d⟩


end Go.Proofs.YtagmkfbbhfaceaaGreatDoor
namespace Go.Proofs.YtagmkfbbhfaceaaGreatDoor
open Go Go.RowKit

theorem ys_nth {l : List UInt8} {j : Nat} (h : j < l.length) : (ys l)[j]? = some (.int .u8 ((nth l j).toNat : Int)) := by simp [ys, h, nth_eq h]
theorem ys_append (a b : List UInt8) : ys (a ++ b) = ys a ++ ys b := List.map_append
theorem ys_take (a : List UInt8) (k : Nat) : (ys a).take k = ys (a.take k) := by simp [ys, List.map_take]
theorem ys_drop (a : List UInt8) (k : Nat) : (ys a).drop k = ys (a.drop k) := by simp [ys, List.map_drop]
/-- Bytes that lie one behind the other, as elements of a slice. -/
theorem SlY.at {w : World} {b off : Nat} {l : List UInt8} (hb : b < w.heap.size) (h : At w b off (ys l)) : Sl encY 1 w (some ⟨b, off, none⟩) b off l :=
  ⟨fun _ => rfl, fun _ => hb, fun i hi j v hv => by
    cases j with
    | zero =>
      simp only [encY, List.getElem?_cons_zero, Option.some.injEq] at hv
      subst hv
      have := h i _ (ys_nth hi)
      rwa [show off + i * 1 + 0 = off + i by omega]
    | succ j => simp [encY] at hv⟩
theorem SlY.own {w : World} {b : Nat} {t : TypeId} {l : List UInt8} (h : Blk w b t (ys l)) : Sl encY 1 w (some ⟨b, 0, none⟩) b 0 l := SlY.at h.lt h.at
theorem At.ysub {w : World} {b off : Nat} {l : List UInt8} (h : At w b off (ys l)) (k n : Nat) : At w b (off + k) (ys ((l.drop k).take n)) := by
  have := h.sub k n
  rwa [ys_drop, ys_take] at this
theorem lay_all (vs cs : List Value) (h : vs.length = cs.length) : lay cs 0 vs = vs := by
  have := lay_take vs cs 0 (by omega)
  rw [Nat.zero_add, List.take_of_length_le (by rw [lay_length]; omega)] at this
  simpa using this
section
variable {rd : Option Nat} {P : Program} {ops : Array Oper} {Q : Exit → Act → World → Prop} {N : Nat} {ds : List Deferred} {rest : List Oper} {L : Slots} {w : World}
variable {d : Nat} {ty : TypeId} {pos : String} {aft : Array Edge} {g : Option (Nat × Bool)}
/-- One byte is stored. -/
theorem t_storeY {t u : TypeId} {x y : Operand} {b : Nat} {ls : List UInt8} {v : UInt8} (i : Nat) (hs : ∀ w, (sizeOf u).run P w = .ok 1 w) (hg : grd ops L g = true)
    (hx : ev L x = some (.pointer (some ⟨b, 0 + i * 1, none⟩))) (hy : ev L y = some (.int .u8 (v.toNat : Int))) (hb : Blk w b t (ys ls)) (hl : i < ls.length)
    (h : ∀ w', w'.heap.size = w.heap.size → Blk w' b t (ys (ls.set i v)) → Upd (· = b) w w' → WL rd P ops Q N ds rest L w') :
    WL rd P ops Q N ds (⟨none, .store u x y, ty, pos, aft, g⟩ :: rest) L w := by
  refine t_store (vs := [.int .u8 (v.toNat : Int)]) hs hg hx hy hb rfl rfl (by simp [ys]; omega) (by simp [Value.oneCell']) (fun w' h1 h2 h3 => h w' h1 ?_ h3)
  have : lay (ys ls) (0 + i * 1) [.int .u8 (v.toNat : Int)] = ys (ls.set i v) := by
    simp [lay, ys, List.map_set]
  rwa [this] at h2
/-- A whole array is stored. -/
theorem t_stY {t u : TypeId} {x y : Operand} {b n : Nat} {cs : List Value} {l : List UInt8} (hs : ∀ w, (sizeOf u).run P w = .ok n w) (hg : grd ops L g = true)
    (hx : ev L x = some (.pointer (some ⟨b, 0, none⟩))) (hy : ev L y = some (.agg (ys l).toArray)) (hb : Blk w b t cs) (hn : l.length = n) (hc : cs.length = n)
    (h : ∀ w', w'.heap.size = w.heap.size → Blk w' b t (ys l) → Upd (· = b) w w' → WL rd P ops Q N ds rest L w') :
    WL rd P ops Q N ds (⟨none, .store u x y, ty, pos, aft, g⟩ :: rest) L w := by
  refine t_store (vs := ys l) hs hg hx hy hb rfl (by rw [ys_length]; exact hn) (by omega) (ys_one l) (fun w' h1 h2 h3 => h w' h1 ?_ h3)
  rwa [lay_all _ _ (by rw [ys_length]; omega)] at h2
/-- A whole array is loaded. -/
theorem t_ldY {t : TypeId} {x : Operand} {n b off : Nat} {l : List UInt8} (ha : ∀ w, (isAgg t).run P w = .ok true w) (hs : ∀ w, (sizeOf t).run P w = .ok n w) (hg : grd ops L g = true) (hN : Nat.blt d N = true)
    (hx : ev L x = some (.pointer (some ⟨b, off, none⟩))) (hv : At w b off (ys l)) (hn : l.length = n) (h : WL rd P ops Q N ds rest ((d, .agg (ys l).toArray) :: L) w) : WL rd P ops Q N ds (⟨some d, .load t x, ty, pos, aft, g⟩ :: rest) L w :=
  t_loadN ha hs hg hN hx hv (by rw [ys_length]; exact hn) h
/-- A slice of an array. -/
theorem run_arrS {t e : TypeId} {n s b off : Nat} {x x1 x2 : Operand} {lo hi : Option Operand} {k k' : IntKind} {m q : Int} (i j : Nat) (hu : P.underlying t = some (.array n e)) (hs : ∀ w, (sizeOf e).run P w = .ok s w) (hx : ev L x = some (.pointer (some ⟨b, off, none⟩)))
    (hl : lo = some x1 ∧ ev L x1 = some (.int k m) ∧ m = (i : Int) ∨ lo = none ∧ i = 0) (hh : hi = some x2 ∧ ev L x2 = some (.int k' q) ∧ q = (j : Int) ∨ hi = none ∧ j = n) (hij : i ≤ j) (hj : j ≤ n) (hin : i < n)
    {a : Act} (hk : Kn N ds L a) {d : Option Tmp} (w : World) : (execOp a.eval ⟨d, .slice t x lo hi none, ty, pos, aft, g⟩).run P w = .ok (.value (.slice (some ⟨b, off + i * s, none⟩) (j - i) (n - i))) w := by
  have hne : n ≠ i := by omega
  rcases hl with ⟨rfl, h1, rfl⟩ | ⟨rfl, rfl⟩ <;> rcases hh with ⟨rfl, h2, rfl⟩ | ⟨rfl, rfl⟩
  · simp [execOp, hk.ev hx, hk.ev h1, hk.ev h2, Instr.sliceAt, Instr.sliceBounds, Instr.sliceBound, Instr.sureAddr, asIntOf, run_underlying hu, hs, hj, hij, hne, addr_add]
  · simp [execOp, hk.ev hx, hk.ev h1, Instr.sliceAt, Instr.sliceBounds, Instr.sliceBound, Instr.sureAddr, asIntOf, run_underlying hu, hs, hij, hne, addr_add]
  · simp [execOp, hk.ev hx, hk.ev h2, Instr.sliceAt, Instr.sliceBounds, Instr.sliceBound, Instr.sureAddr, asIntOf, run_underlying hu, hs, hj, addr_add]
  · simp [execOp, hk.ev hx, Instr.sliceAt, Instr.sliceBounds, Instr.sureAddr, run_underlying hu, hs, addr_add]
theorem t_arrS {t e : TypeId} {n s b off : Nat} {x x1 x2 : Operand} {lo hi : Option Operand} {k k' : IntKind} {m q : Int} (i j : Nat) (hu : P.underlying t = some (.array n e)) (hs : ∀ w, (sizeOf e).run P w = .ok s w) (hg : grd ops L g = true) (hN : Nat.blt d N = true) (hx : ev L x = some (.pointer (some ⟨b, off, none⟩)))
    (hl : lo = some x1 ∧ ev L x1 = some (.int k m) ∧ m = (i : Int) ∨ lo = none ∧ i = 0) (hh : hi = some x2 ∧ ev L x2 = some (.int k' q) ∧ q = (j : Int) ∨ hi = none ∧ j = n) (hij : i ≤ j) (hj : j ≤ n) (hin : i < n)
    (h : WL rd P ops Q N ds rest ((d, .slice (some ⟨b, off + i * s, none⟩) (j - i) (n - i)) :: L) w) : WL rd P ops Q N ds (⟨some d, .slice t x lo hi none, ty, pos, aft, g⟩ :: rest) L w :=
  WL.value hg rfl hN (fun _a hk => run_arrS i j hu hs hx hl hh hij hj hin hk w) h
theorem y_arrS {w1 : World} {S : Nat → Prop} {rest : OX} {t e : TypeId} {n s b off : Nat} {x x1 x2 : Operand} {lo hi : Option Operand} {k k' : IntKind} {m q : Int} (i j : Nat) (hu : P.underlying t = some (.array n e)) (hs : ∀ w, (sizeOf e).run P w = .ok s w) (hg : grd ops L g = true) (hN : Nat.blt d N = true) (hx : ev L x = some (.pointer (some ⟨b, off, none⟩)))
    (hl : lo = some x1 ∧ ev L x1 = some (.int k m) ∧ m = (i : Int) ∨ lo = none ∧ i = 0) (hh : hi = some x2 ∧ ev L x2 = some (.int k' q) ∧ q = (j : Int) ∨ hi = none ∧ j = n) (hij : i ≤ j) (hj : j ≤ n) (hin : i < n)
    (h : SC rd P ops Q N ds w1 S rest ((d, .slice (some ⟨b, off + i * s, none⟩) (j - i) (n - i)) :: L) w) : SC rd P ops Q N ds w1 S (.look ⟨some d, .slice t x lo hi none, ty, pos, aft, g⟩ rest) L w :=
  s_F hg rfl hN (fun _a hk w _ => run_arrS i j hu hs hx hl hh hij hj hin hk w) h
/-- A number's lowest byte. -/
theorem t_conv8 {src dst : TypeId} {x : Operand} {k' : IntKind} {n : Int} {ds' : TypeDesc} (hs : P.underlying src = some ds') (hd : P.underlying dst = some (.int .u8)) (hg : grd ops L g = true) (hN : Nat.blt d N = true) (hx : ev L x = some (.int k' n))
    (h : WL rd P ops Q N ds rest ((d, .int .u8 (n % 256)) :: L) w) : WL rd P ops Q N ds (⟨some d, .convert src dst x, ty, pos, aft, g⟩ :: rest) L w :=
  WL.value hg rfl hN (fun a ha => by
    simp only [execOp, ha.ev hx]
    simp [convert, run_underlying hs, run_underlying hd, Conv.intToInt, IntKind.wrap_u8]) h
/-! ### A literal of one element whose cells are not told -/
theorem foldl_lay : ∀ (l : List Value) (k : Nat) (cs : Array Value), ((l.zipIdx k).foldl (fun cs (p : Value × Nat) => cs.setIfInBounds (0 + p.2) p.1) cs).toList = lay cs.toList k l
  | [], k, cs => rfl
  | v :: l, k, cs => by
    simp only [List.zipIdx_cons, List.foldl_cons, lay]
    rw [foldl_lay l (k + 1) (cs.setIfInBounds (0 + k) v)]
    simp
theorem run_bslice1 {t e n : Nat} {z v : Value} {vs : List Value} (hu : P.underlying t = some (.slice e)) (hs : ∀ w, (sizeOf e).run P w = .ok n w) (hz : ∀ w, (zeroValue e).run P w = .ok z w) (h0 : 0 < n) (h1 : n ≤ 1000) (hv : v.cells = vs.toArray) (hn : vs.length = n) (w : World) :
    (Instr.buildSlice t 1 #[(0, v)]).run P w = .ok (.slice (some ⟨w.heap.size, 0, none⟩) 1 1) (w.alloc (.cells vs.toArray e)) := by
  have e1 : ¬ (n > 16777216) := by omega
  have e2 : n ≠ 0 := by omega
  have hf : ∀ C : Array Value, C.size = n → Instr.fill (fun i => some (i * n, n)) C [(0, v)] = some vs.toArray := fun C hC => by
    simp only [Instr.fill, Nat.zero_mul, hv]
    rw [if_neg (by simp [hn, hC])]
    congr 1
    apply Array.toList_inj.1
    have := foldl_lay vs 0 C
    rw [lay_all _ _ (by simp [hn, hC])] at this
    rw [← Array.foldl_toList]
    simpa using this
  simp [Instr.buildSlice, run_underlying hu, hs, hz, e1, e2, hf, newRow, newObj, Sem.run]
theorem t_bslice1 {t e n : Nat} {z v : Value} {vs : List Value} {x : Operand} (hu : P.underlying t = some (.slice e)) (hs : ∀ w, (sizeOf e).run P w = .ok n w) (hz : ∀ w, (zeroValue e).run P w = .ok z w) (h0 : 0 < n) (h1 : n ≤ 1000) (hg : grd ops L g = true) (hN : Nat.blt d N = true)
    (hx : ev L x = some v) (hv : v.cells = vs.toArray) (hn : vs.length = n)
    (h : ∀ b w', b = w.heap.size → w'.heap.size = w.heap.size + 1 → Blk w' b e vs → Ext w w' → WL rd P ops Q N ds rest ((d, .slice (some ⟨b, 0, none⟩) 1 1) :: L) w') :
    WL rd P ops Q N ds (⟨some d, .buildSlice t 1 #[(0, x)], ty, pos, aft, g⟩ :: rest) L w :=
  t_bslice (ps := [(0, v)]) (cs := vs) (e := e) hg hN ⟨by simp [evs, hx], rfl⟩ (fun w => run_bslice1 hu hs hz h0 h1 hv hn w) h
end
end Go.Proofs.YtagmkfbbhfaceaaGreatDoor
namespace Go.Proofs.YtagmkfbbhfaceaaGreatDoor
open Go Go.RowKit Go.Proofs.Tryz
set_option maxRecDepth 10000
/-! ### blocks -/
structure Bk where
  l : List UInt8
  h : l.length = 32
instance : Inhabited Bk := ⟨⟨List.replicate 32 0, by simp⟩⟩
theorem Bk.ext' {a b : Bk} (h : a.l = b.l) : a = b := by cases a; cases b; cases h; rfl
instance : DecidableEq Bk := fun a b => if h : a.l = b.l then isTrue (Bk.ext' h) else isFalse (fun e => h (by rw [e]))
def zeroBk : Bk := ⟨List.replicate 32 0, by simp⟩
def chkN (l : List UInt8) (k : Nat) : Int := (weighP (l.take 30) 65521 + 977 * (k : Int)) % 65521
theorem chkN_range (l : List UInt8) (k : Nat) : 0 ≤ chkN l k ∧ chkN l k < 65521 := ⟨Int.emod_nonneg _ (by decide), Int.emod_lt_of_pos _ (by decide)⟩
theorem weighP_range (l : List UInt8) : 0 ≤ weighP l 65521 ∧ weighP l 65521 < 65521 := ⟨Int.emod_nonneg _ (by decide), Int.emod_lt_of_pos _ (by decide)⟩
def chkP (l : List UInt8) (k : Nat) : List UInt8 := [UInt8.ofNat ((chkN l k).toNat / 256), UInt8.ofNat ((chkN l k).toNat % 256)]
def sealL (l : List UInt8) (k : Nat) : List UInt8 := l.take 30 ++ chkP l k
theorem sealL_length {l : List UInt8} {k : Nat} (h : l.length = 32) : (sealL l k).length = 32 := by
  unfold sealL chkP; rw [List.length_append, List.length_take]; simp; omega
def Bk.shutB (b : Bk) (k : Nat) : Bk := ⟨sealL b.l k, sealL_length b.h⟩
def mixK (k : Nat) (l os : List UInt8) : List UInt8 := List.zipWith (· ^^^ ·) (l.take k) (os.take k) ++ l.drop k
theorem mixK_length {k : Nat} {l os : List UInt8} (h : l.length = 32) (ho : os.length = 32) (hk : k ≤ 32) : (mixK k l os).length = 32 := by
  unfold mixK; simp; omega
theorem mixK_nth {k : Nat} {l os : List UInt8} (h : l.length = 32) (ho : os.length = 32) (hk : k < 32) : nth (mixK k l os) k = nth l k := by
  have hl : (List.zipWith (· ^^^ ·) (l.take k) (os.take k)).length = k := by simp; omega
  unfold nth mixK
  rw [List.getD_eq_getElem?_getD, List.getD_eq_getElem?_getD, List.getElem?_append_right (by omega), hl, Nat.sub_self, List.getElem?_drop, Nat.add_zero]
theorem mixK_step {k : Nat} {l os : List UInt8} (h : l.length = 32) (ho : os.length = 32) (hk : k < 32) : (mixK k l os).set k (nth l k ^^^ nth os k) = mixK (k + 1) l os := by
  unfold mixK
  have hl : (List.zipWith (· ^^^ ·) (l.take k) (os.take k)).length = k := by simp; omega
  rw [List.set_append_right _ _ (by omega), hl, Nat.sub_self, drop_nth (show k < l.length by omega), List.set_cons_zero, take_nth (show k < l.length by omega), take_nth (show k < os.length by omega), List.zipWith_append (by simp; omega)]
  simp
def mixL (l os : List UInt8) : List UInt8 := mixK 30 l os
theorem mixL_length {l os : List UInt8} (h : l.length = 32) (ho : os.length = 32) : (mixL l os).length = 32 := mixK_length h ho (by decide)
def Bk.mix (a b : Bk) : Bk := ⟨mixL a.l b.l, mixL_length a.h b.h⟩
def Bk.sound (b : Bk) (k : Nat) : Prop := b.l.drop 30 = chkP b.l k
instance (b : Bk) (k : Nat) : Decidable (b.sound k) := inferInstanceAs (Decidable (_ = _))
theorem chk_hi (l : List UInt8) (k : Nat) : (chkN l k / 2 ^ 8) = ((UInt8.ofNat ((chkN l k).toNat / 256)).toNat : Int) := by
  have h := chkN_range l k
  rw [UInt8.toNat_ofNat']; omega
theorem chk_lo (l : List UInt8) (k : Nat) : (chkN l k) % 256 = ((UInt8.ofNat ((chkN l k).toNat % 256)).toNat : Int) := by
  have h := chkN_range l k
  rw [UInt8.toNat_ofNat']; omega

theorem check_c (b off : Nat) (l : List UInt8) (k : Nat) (w0 : World) (hl : l.length = 32) (hA : At w0 b off (ys l)) (hb : b < w0.heap.size) (hk : k ≤ 1000000) :
    CallsV Tryz.prog 76 [.pointer (some ⟨b, off, none⟩), .int .i64 (k : Int)] w0 (fun v w' => v = .agg (ys (chkP l k)).toArray ∧ Ext w0 w') := by
 refine f_n func76 ?_
 refine go ?_
 refine x_n fun bk2 w3 ebk2 sbk2 B4 u5 => ?_
 refine go ?_
 refine t_arrS 0 30 underlying111 sizeOf5 rfl rfl rfl (.inr ⟨rfl, rfl⟩) (k := .i64) (m := 0) (x1 := .tmp 0) (.inl ⟨rfl, rfl, rfl⟩) (by omega) (by omega) (by omega) (t_same 8 (v := .slice (some ⟨b, off + 0 * 1, none⟩) ((l.take 30).length) 32) rfl (by rw [List.length_take, hl]; rfl) ?_)
 have D8 := (hA.keep u5 (by omega) (fun h => h))
 refine x_c func125 rfl rfl (weigh_c (l.take 30) (some ⟨b, off + 0 * 1, none⟩) b (off + 0 * 1) 32 65521 _ (by have h9 := (D8).ysub 0 30; rw [List.drop_zero] at h9; exact SlY.at (by omega) h9) (by rw [List.length_take]; omega) (by decide)) ?_
 rintro _ w10 ⟨rfl, u11⟩ zu11
 have hwr := weighP_range (l.take 30)
 refine go ?_
 refine t_rem rfl rfl rfl rfl (by omega) (by omega) (t_same 13 (v := .int .i64 (chkN l k)) rfl rfl ?_)
 refine go ?_
 refine t_bo (Bo.shr (k := .i64) (m := (chkN l k).toNat) 8 rfl (by decide)) rfl rfl (by show _ = some (Value.int .i64 (((chkN l k).toNat : Nat) : Int)); rw [Int.toNat_of_nonneg (chkN_range l k).1]; rfl) rfl (t_conv underlying3 underlying5 rfl rfl rfl (IntWalk.u8_in _ (by have h9 := chkN_range l k; omega)) (t_same 16 (v := .int .u8 ((UInt8.ofNat ((chkN l k).toNat / 256)).toNat : Int)) rfl (congrArg (Value.int .u8) (by rw [← chk_hi]; have h9 := chkN_range l k; omega)) ?_))
 refine go ?_
 refine t_conv8 underlying3 underlying5 rfl rfl rfl (t_same 18 (v := .int .u8 ((UInt8.ofNat ((chkN l k).toNat % 256)).toNat : Int)) rfl (congrArg (Value.int .u8) (chk_lo l k)) (t_build (ps := [(0, .int .u8 ((UInt8.ofNat ((chkN l k).toNat / 256)).toNat : Int)), (1, .int .u8 ((UInt8.ofNat ((chkN l k).toNat % 256)).toNat : Int))]) (v := .agg #[.int .u8 ((UInt8.ofNat ((chkN l k).toNat / 256)).toNat : Int), .int .u8 ((UInt8.ofNat ((chkN l k).toNat % 256)).toNat : Int)]) rfl rfl ⟨rfl, rfl⟩ (fun w => by kernel_rfl) ?_))
 refine x_s fun w15 sw15 B17 u16 => ?_
 refine go ?_
 refine f_ret1 (v := .agg #[.int .u8 ((UInt8.ofNat ((chkN l k).toNat / 256)).toNat : Int), .int .u8 ((UInt8.ofNat ((chkN l k).toNat % 256)).toNat : Int)]) results76 ⟨_, _, rfl, run_loadVarN (vs := [.int .u8 ((UInt8.ofNat ((chkN l k).toNat / 256)).toNat : Int), .int .u8 ((UInt8.ofNat ((chkN l k).toNat % 256)).toNat : Int)]) isAgg182 sizeOf182 rfl (B17.at.sub 0 2)⟩ ?_
 exact ⟨rfl, u_d⟩

theorem seal_lay {l : List UInt8} {k : Nat} (hl : l.length = 32) : lay (ys l) (0 + 30 * 1) (ys (chkP l k)) = ys (sealL l k) := by
  rw [lay_eq (by rw [ys_length, ys_length, hl]; exact Nat.le_refl _), ys_take, ys_drop, ys_length, ← ys_append, ← ys_append]
  unfold sealL
  rw [List.drop_of_length_le (by rw [hl]; exact Nat.le_refl _), List.append_nil]

theorem seal_c (b : Nat) (l : List UInt8) (k : Nat) (w0 : World) (hl : l.length = 32) (hB : Blk w0 b 111 (ys l)) (hk : k ≤ 1000000) :
    CallsV Tryz.prog 36 [.pointer (some ⟨b, 0, none⟩), .int .i64 (k : Int)] w0 (fun _v w' => Blk w' b 111 (ys (sealL l k)) ∧ Upd (· = b) w0 w') := by
 have lt_b := hB.lt
 refine f_n func36 ?_
 refine go ?_
 refine x_c func76 rfl rfl (check_c b 0 l k _ hl (hB).at (hB).lt (by omega)) ?_
 rintro _ w3 ⟨rfl, u4⟩ zu4
 refine x_n fun bk7 w8 ebk7 sbk7 B9 u10 => ?_
 refine x_s fun w12 sw12 B14 u13 => ?_
 refine go ?_
 refine c_drawnM follows (fun i => i = b) (OTl [0, 2, 4, 6, 9]) (by kernel_rfl) fun w16 u17 => ?_
 have zu17 := u17.size
 refine go ?_
 refine y_arrS 30 32 underlying111 sizeOf5 rfl rfl rfl (.inl ⟨rfl, rfl, rfl⟩) (.inr ⟨rfl, rfl⟩) (k' := .i64) (q := 0) (x2 := .tmp 0) (by omega) (by omega) (by omega) (y_arrS 0 2 underlying182 sizeOf5 rfl rfl rfl (.inr ⟨rfl, rfl⟩) (k := .i64) (m := 0) (x1 := .tmp 0) (.inr ⟨rfl, rfl⟩) (k' := .i64) (q := 0) (x2 := .tmp 0) (by omega) (by omega) (by omega) ?_)
 refine go ?_
 have B22 := ((((hB.kx u4).kx u10).keep u13 (by omega)).kx u17)
 have B23 := (B14.kx u17)
 refine t_copyB (k := 1) (cs := ys l) (vs := ys (chkP l k)) (o := 0 + 30 * 1) (so := 0 + 0 * 1) underlying24 sizeOf5 rfl rfl rfl rfl B22 (B23).at rfl (by rw [ys_length, ys_length, hl]; exact Nat.le_refl _) (ys_one _) (fun w19 sw19 B21 u20 => ?_)
 have B25 : Blk w19 b 111 (ys (sealL l k)) := by
   have e : lay (ys l) (0 + 30 * 1) (ys (chkP l k)) = ys (sealL l k) := seal_lay hl
   rw [← e]; exact B21
 refine go ?_
 refine f_ret0 results36 ?_
 exact ⟨B25, u_d⟩

theorem mix_c (b : Nat) (l os : List UInt8) (w0 : World) (hl : l.length = 32) (ho : os.length = 32) (hB : Blk w0 b 111 (ys l)) :
    CallsV Tryz.prog 35 [.pointer (some ⟨b, 0, none⟩), .agg (ys os).toArray] w0 (fun v w' => Blk w' b 111 (ys (mixL l os)) ∧ Upd (· = b) w0 w') := by
 have lt_b := hB.lt
 refine f_n func35 ?_
 refine go ?_
 refine x_b fun bk2 w3 ebk2 sbk2 B4 u5 => ?_
 refine go ?_
 have B8 := (hB.kx u5)
 refine x_l1 (fun i => i = b) [0, 3] (fun (k : Nat) => [(5, .int .i64 (k : Int))]) (fun k w => Blk w b 111 (ys (mixK k l os)) ∧ (k ≤ 30)) (fun k => 30 - k) 0 ⟨(show Blk _ b 111 (ys (mixK 0 l os)) from B8), (Nat.zero_le _)⟩ ?_
 rintro k w10 ⟨I12, hk⟩ u11 zu11 K9 hK9
 have hml := mixK_length hl ho (k := k) (by omega)
 refine go ?_
 refine q_p (fun g6 => ?_) fun g6 => ?_
 ·
  refine go ?_
  refine c_drawnM follows (fun i => i = b) (OTl [0, 2, 4, 6, 10, 12, 14, 18, 9, 16, 20, 23]) (by kernel_rfl) fun w18 u19 => ?_
  have zu19 := u19.size
  refine go ?_
  refine y_indexArr (j := k) (0 + k * 1) underlying111 sizeOf5 rfl rfl rfl rfl rfl (by omega) rfl ?_
  refine go ?_
  refine y_indexArr (j := k) (0 + k * 1) underlying111 sizeOf5 rfl rfl rfl rfl rfl (by omega) rfl ?_
  have B21 := ((B4.keep u11 (by omega)).kx u19)
  refine y_load isAgg5 rfl rfl rfl (((SlY.own B21).at_ k (by omega)) 0 _ rfl) (by show ¬ (bk2 = b); first | omega | assumption) ?_
  refine go ?_
  have B22 := (I12.kx u19)
  refine t_load isAgg5 rfl rfl rfl (((SlY.own B22).at_ k (by omega)) 0 _ rfl) (t_same 12 (v := .int .u8 ((nth l k).toNat : Int)) rfl (by rw [mixK_nth hl ho (by omega)]) ?_)
  refine go ?_
  refine y_bo (Bo.xor8 (nth l k) (nth os k)) rfl rfl rfl rfl ?_
  refine y_indexArr (j := k) (0 + k * 1) underlying111 sizeOf5 rfl rfl rfl rfl rfl (by omega) rfl ?_
  refine go ?_
  refine t_storeY (ls := (mixK k l os)) (v := ((nth l k) ^^^ (nth os k))) k sizeOf5 rfl rfl rfl B22 (by omega) (fun w23 sw23 B25 u24 => ?_)
  refine go ?_
  exact hK9 (k + 1) ⟨(by rw [← mixK_step hl ho (by omega)]; exact B25), (by omega)⟩
 refine go ?_
 refine f_ret0 results35 ?_
 have hk30 : k = 30 := by omega
 subst hk30
 exact ⟨I12, u_d⟩

end Go.Proofs.YtagmkfbbhfaceaaGreatDoor
