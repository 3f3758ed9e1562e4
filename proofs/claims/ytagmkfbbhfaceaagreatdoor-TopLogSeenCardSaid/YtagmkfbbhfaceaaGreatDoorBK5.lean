/-
  Part 5 of the proof: contracts and plain laws. Conditions: none.
-/
import Derived.Test.YtagmkfbbhfaceaaGreatDoorProg
import Derived.Shelf.Small.Bits
import Derived.Ground.NamesProg
import Derived.Lib.ItoaNum
import Derived.ChangeKeysEq
import Derived.Test.YtagmkfbbhfaceaaGreatDoorBK4
namespace Go.Proofs.YtagmkfbbhfaceaaGreatDoor
open Go Go.RowKit Go.Proofs.Tryz
set_option maxRecDepth 10000

theorem any_snoc {α : Type} [Inhabited α] {p : α → Bool} {xs : List α} {k : Nat} (hk : k < xs.length) (h : (xs.take k).any p = false) (hx : p (nth xs k) = false) : (xs.take (k + 1)).any p = false := by
  rw [take_nth hk, List.any_append, h]; simp [hx]
theorem any_hit {α : Type} [Inhabited α] {p : α → Bool} {xs : List α} {k : Nat} (hk : k < xs.length) (hx : p (nth xs k) = true) : decide ((0 : Int) ≤ (k : Int)) = xs.any p := by
  have : xs.any p = true := List.any_eq_true.2 ⟨nth xs k, nth_mem hk, hx⟩
  rw [this]; simp
theorem any_none {α : Type} {p : α → Bool} {xs : List α} {k : Nat} (hk : xs.length ≤ k) (h : (xs.take k).any p = false) : decide ((0 : Int) ≤ -1) = xs.any p := by
  rw [List.take_of_length_le hk] at h; rw [h]; decide
theorem not_any_out (lo hi : Int) (xs : List Int) : (!(xs.any fun n => decide (n < lo ∨ hi < n))) = decide (∀ n ∈ xs, lo ≤ n ∧ n ≤ hi) := by
  rw [Bool.eq_iff_iff]
  simp only [Bool.not_eq_true', List.any_eq_false, decide_eq_true_eq]
  exact ⟨fun h n hn => by have := h n hn; omega, fun h n hn => by have := h n hn; omega⟩
def encI (n : Int) : List Value := [.int .i64 n]
theorem SlI.own {w : World} {b : Nat} {t : TypeId} {xs : List Int} (h : Blk w b t (xs.map (Value.int .i64))) : Sl encI 1 w (some ⟨b, 0, none⟩) b 0 xs :=
  ⟨fun _ => rfl, fun _ => h.lt, fun i hi j v hv => by
    cases j with
    | zero =>
      rw [nth_eq hi] at hv
      simp [encI] at hv
      subst hv
      exact h.get (off := 0 + i * 1 + 0) (by simp [hi])
    | succ j => simp [encI] at hv⟩

theorem follows : Tryz.prog.follows .mixedOrders = true := by kernel_rfl

theorem own151 : Own Tryz.prog 151 := ⟨Tryz.f151, func151, by kernel_rfl, by kernel_rfl⟩
abbrev out1 (lo hi n : Int) : Bool := decide (n < lo ∨ hi < n)

theorem within1_c (lo hi n : Int) (b c : Nat) (t1 t2 : TypeId) (w0 : World) (hb : Blk w0 b t1 [.int .i64 lo]) (hc : Blk w0 c t2 [.int .i64 hi]) :
    CallsV Tryz.prog 151 [.int .i64 n, .pointer (some ⟨b, 0, none⟩), .pointer (some ⟨c, 0, none⟩)] w0 (fun v w' => v = .bool (out1 lo hi n) ∧ Ext w0 w') := by
 refine f_n func151 ?_
 refine go ?_
 refine t_splitp 8 rfl (fun g8 => ?_) (fun g8 => ?_)
 ·
  refine go ?_
  refine f_1 results151 ?_
  exact ⟨by simp [out1, *], u_d⟩
 refine go ?_
 refine f_1 results151 ?_
 exact ⟨by simp [out1, *], u_d⟩

theorem indexI_c (p : Int → Bool) (fv : FuncId) (caps : List Value) (xs : List Int) (ao : Option Addr) (b o cap : Nat) (w0 : World) (ho : Own Tryz.prog fv) (hp : ∀ x ∈ xs, ∀ w, Ext w0 w → CallsV Tryz.prog fv ([.int .i64 x] ++ caps) w fun v w' => v = .bool (p x) ∧ Ext w w') (hs : Sl encI 1 w0 ao b o xs) (hl : xs.length ≤ 1000000) :
    CallsV Tryz.prog 132 [.slice ao xs.length cap, .func (.func fv) #[] (caps).toArray] w0 (fun v w' => (∃ n : Int, v = .int .i64 n ∧ decide (0 ≤ n) = xs.any p) ∧ Ext w0 w') := by
 refine f_n func132 ?_
 refine go ?_
 refine x_l1 (fun _ => False) [0, 1, 7] (fun (k : Nat) => [(8, .int .i64 (k : Int))]) (fun k w => (k ≤ xs.length) ∧ ((xs.take k).any p = false)) (fun k => xs.length - k) 0 ⟨Nat.zero_le _, (by simp)⟩ ?_
 rintro k w5 ⟨hle, hnot⟩ u6 zu6 K4 hK4
 have E7 := Sc.mk ((Upd.refl (fun _ => False) w0).nx u6)
 refine go ?_
 refine q_p (fun g9 => ?_) fun g9 => ?_
 ·
  refine go ?_
  refine g_i k (hs.keep E7.u (fun _ h => h)) (fun _ => ?_)
  refine go ?_
  refine t_call (fs := []) (cs := caps) ho rfl rfl rfl rfl (hp (nth xs k) (nth_mem (by omega)) _ E7.u) (fun v14 w15 r17 => ?_)
  obtain ⟨rfl, u16⟩ := r17
  have zu16 := u16.size
  refine go ?_
  refine q_b (fun g16 => ?_) fun g16 => ?_
  ·
   refine go ?_
   refine f_1 results132 ?_
   exact ⟨⟨_, rfl, any_hit (by omega) g16⟩, u_d⟩
  refine go ?_
  exact hK4 (k + 1) ⟨(by omega), (any_snoc (by omega) hnot g16)⟩
 refine go ?_
 refine f_1 results132 ?_
 exact ⟨⟨_, rfl, any_none (by omega) hnot⟩, u_d⟩

theorem containsI_c (p : Int → Bool) (fv : FuncId) (caps : List Value) (xs : List Int) (ao : Option Addr) (b o cap : Nat) (w0 : World) (ho : Own Tryz.prog fv) (hp : ∀ x ∈ xs, ∀ w, Ext w0 w → CallsV Tryz.prog fv ([.int .i64 x] ++ caps) w fun v w' => v = .bool (p x) ∧ Ext w w') (hs : Sl encI 1 w0 ao b o xs) (hl : xs.length ≤ 1000000) :
    CallsV Tryz.prog 82 [.slice ao xs.length cap, .func (.func fv) #[] (caps).toArray] w0 (fun v w' => v = .bool (xs.any p) ∧ Ext w0 w') := by
 refine f_n func82 ?_
 refine go ?_
 refine x_c func132 rfl rfl (indexI_c p fv caps xs ao b o cap _ ho hp hs hl) ?_
 rintro _ w4 ⟨⟨n, rfl, hn⟩, u5⟩ zu5
 refine go ?_
 refine f_1 results82 ?_
 exact ⟨by rw [hn], u_d⟩

theorem within_c (lo hi : Int) (xs : List Int) (ao : Option Addr) (b o cap : Nat) (w0 : World) (hs : Sl encI 1 w0 ao b o xs) (hl : xs.length ≤ 1000000) :
    CallsV Tryz.prog 108 [.int .i64 lo, .int .i64 hi, .slice ao xs.length cap] w0 (fun v w' => v = .bool (decide (∀ n ∈ xs, lo ≤ n ∧ n ≤ hi)) ∧ Ext w0 w') := by
 refine f_n func108 ?_
 refine go ?_
 refine x_b fun bk2 w3 ebk2 sbk2 B4 u5 => ?_
 refine x_b fun bk7 w8 ebk7 sbk7 B9 u10 => ?_
 refine go ?_
 refine t_mkfunc (vs := []) (us := [.pointer (some ⟨bk2, 0, none⟩), .pointer (some ⟨bk7, 0, none⟩)]) rfl rfl rfl rfl ?_
 have B13 := (B4.kx u10)
 refine x_c func82 rfl rfl (containsI_c (out1 lo hi) 151 [.pointer (some ⟨bk2, 0, none⟩), .pointer (some ⟨bk7, 0, none⟩)] xs ao b o cap _ own151 (fun x _ w u => within1_c lo hi x bk2 bk7 _ _ w (B13.keep u (fun h => h)) (B9.keep u (fun h => h))) (hs.keep (((Upd.refl (fun _ => False) w0).nx u5).nx u10) (fun _ h => h)) hl) ?_
 rintro _ w15 ⟨rfl, u16⟩ zu16
 refine go ?_
 refine f_1 results108 ?_
 exact ⟨by rw [not_any_out], u_d⟩

theorem within1_v (lo hi m : Int) (b : Nat) (t : TypeId) (w : World) (h : Blk w b t [.int .i64 m]) :
    CallsV Tryz.prog 108 [.int .i64 lo, .int .i64 hi, .slice (some ⟨b, 0, none⟩) 1 1] w (fun v w' => v = .bool (decide ((lo ≤ m ∧ m ≤ hi))) ∧ Ext w w') :=
  (within_c lo hi [m] _ b 0 1 w (SlI.own (xs := [m]) h) (by simp)).mono fun v w' ⟨e, u⟩ => ⟨by rw [e]; simp, u⟩

end Go.Proofs.YtagmkfbbhfaceaaGreatDoor
namespace Go.Proofs.YtagmkfbbhfaceaaGreatDoor
open Go Go.RowKit Go.Proofs.Tryz
set_option maxRecDepth 10000

/-! ### digits and codes -/
def bitB (n i : Nat) : UInt8 := 48 + UInt8.ofNat (n / 2 ^ i % 2)
def putP (n : Nat) : Nat → List UInt8
  | 0 => []
  | k + 1 => bitB n k :: putP n k
def codeP (n : Nat) : List UInt8 := putP (n + 1) (2 * (n + 1).log2 + 1)
theorem putP_length (n k : Nat) : (putP n k).length = k := by
  induction k with
  | zero => rfl
  | succ k ih => simp [putP, ih]
theorem bitB_cases (n i : Nat) : (n / 2 ^ i % 2 = 0 ∧ bitB n i = 48) ∨ (n / 2 ^ i % 2 = 1 ∧ bitB n i = 49) := by
  unfold bitB
  rcases Nat.mod_two_eq_zero_or_one (n / 2 ^ i) with h | h <;> rw [h] <;> decide
theorem putP_bits (n k : Nat) : ∀ c ∈ putP n k, c = 48 ∨ c = 49 := by
  induction k with
  | zero => intro c h; cases h
  | succ k ih =>
    intro c h
    rcases List.mem_cons.1 h with rfl | h
    · rcases bitB_cases n k with h | h
      · exact .inl h.2
      · exact .inr h.2
    · exact ih c h
/-- The state of a decoder: zeros seen, digits left (-1: no one yet), the number so far, how many bytes are behind. -/
def decG (z : Nat) (lf : Int) (n : Int) (i : Nat) : List UInt8 → Int × Int × Int
  | [] => (0, 0, 120)
  | c :: r =>
    if c ≠ 48 ∧ c ≠ 49 then (0, 0, 4)
    else if lf < 0 ∧ c = 48 then (if z + 1 = 30 then (0, 0, 3) else decG (z + 1) lf n (i + 1) r)
    else if lf < 0 then (if z = 0 then (0, (i : Int) + 1, 0) else decG z z 1 (i + 1) r)
    else if lf - 1 = 0 then (if 2 * n + ((c.toNat : Int) - 48) - 1 > 1000000000 then (0, 0, 3) else (2 * n + ((c.toNat : Int) - 48) - 1, (i : Int) + 1, 0))
    else decG z (lf - 1) (2 * n + ((c.toNat : Int) - 48)) (i + 1) r
def decP (l : List UInt8) : Int × Int × Int := decG 0 (-1) 0 0 l
theorem div_step (m j : Nat) : 2 * (m / 2 ^ (j + 1)) + m / 2 ^ j % 2 = m / 2 ^ j := by
  have : m / 2 ^ (j + 1) = m / 2 ^ j / 2 := by rw [Nat.pow_succ, Nat.div_div_eq_div_mul]
  omega
theorem dec_bits (z m : Nat) (hm : m ≤ 1000000001) (r : List UInt8) : ∀ (j i : Nat), decG z ((j : Int) + 1) ((m / 2 ^ (j + 1) : Nat) : Int) i (putP m (j + 1) ++ r) = ((m : Int) - 1, (i : Int) + (j : Int) + 1, 0)
  | 0, i => by
    have h1 := div_step m 0
    simp only [Nat.zero_add, Nat.pow_zero, Nat.div_one] at h1
    have e : putP m 1 ++ r = bitB m 0 :: r := rfl
    show decG z (((0 : Nat) : Int) + 1) _ i (putP m 1 ++ r) = _
    rw [e]
    unfold decG
    rcases bitB_cases m 0 with ⟨h, hb⟩ | ⟨h, hb⟩ <;> rw [hb] <;> simp only [Nat.pow_zero, Nat.div_one] at h
    · rw [if_neg (by decide), if_neg (by intro h; omega), if_neg (by omega), if_pos (by omega)]
      have e2 : 2 * ((m / 2 ^ (0 + 1) : Nat) : Int) + (((48 : UInt8).toNat : Int) - 48) - 1 = (m : Int) - 1 := by
        show 2 * ((m / 2 ^ (0 + 1) : Nat) : Int) + (48 - 48) - 1 = (m : Int) - 1
        simp only [Nat.zero_add] at h1 ⊢; omega
      rw [e2, if_neg (by omega)]; simp
    · rw [if_neg (by decide), if_neg (by intro h; omega), if_neg (by omega), if_pos (by omega)]
      have e2 : 2 * ((m / 2 ^ (0 + 1) : Nat) : Int) + (((49 : UInt8).toNat : Int) - 48) - 1 = (m : Int) - 1 := by
        show 2 * ((m / 2 ^ (0 + 1) : Nat) : Int) + (49 - 48) - 1 = (m : Int) - 1
        simp only [Nat.zero_add] at h1 ⊢; omega
      rw [e2, if_neg (by omega)]; simp
  | j + 1, i => by
    have h1 := div_step m (j + 1)
    have e : putP m (j + 1 + 1) ++ r = bitB m (j + 1) :: (putP m (j + 1) ++ r) := rfl
    rw [e]
    unfold decG
    rcases bitB_cases m (j + 1) with ⟨h, hb⟩ | ⟨h, hb⟩ <;> rw [hb]
    · rw [if_neg (by decide), if_neg (by intro h; omega), if_neg (by omega), if_neg (by omega)]
      have e2 : 2 * ((m / 2 ^ (j + 1 + 1) : Nat) : Int) + (((48 : UInt8).toNat : Int) - 48) = ((m / 2 ^ (j + 1) : Nat) : Int) := by
        show 2 * ((m / 2 ^ (j + 1 + 1) : Nat) : Int) + (48 - 48) = _
        omega
      rw [e2, show (((j + 1 : Nat) : Int) + 1 - 1) = (j : Int) + 1 by omega, dec_bits z m hm r j (i + 1)]
      simp only [Prod.mk.injEq, and_true, true_and]; omega
    · rw [if_neg (by decide), if_neg (by intro h; omega), if_neg (by omega), if_neg (by omega)]
      have e2 : 2 * ((m / 2 ^ (j + 1 + 1) : Nat) : Int) + (((49 : UInt8).toNat : Int) - 48) = ((m / 2 ^ (j + 1) : Nat) : Int) := by
        show 2 * ((m / 2 ^ (j + 1 + 1) : Nat) : Int) + (49 - 48) = _
        omega
      rw [e2, show (((j + 1 : Nat) : Int) + 1 - 1) = (j : Int) + 1 by omega, dec_bits z m hm r j (i + 1)]
      simp only [Prod.mk.injEq, and_true, true_and]; omega
theorem dec_zeros (n : Int) (r : List UInt8) : ∀ (k z i : Nat), z + k < 30 → decG z (-1) n i (List.replicate k 48 ++ r) = decG (z + k) (-1) n (i + k) r
  | 0, z, i, _ => rfl
  | k + 1, z, i, h => by
    rw [List.replicate_succ, List.cons_append]
    conv => lhs; unfold decG
    rw [if_neg (by decide), if_pos ⟨by decide, rfl⟩, if_neg (by omega), dec_zeros n r k (z + 1) (i + 1) (by omega)]
    congr 1 <;> omega
theorem putP_zeros (m : Nat) (r : List UInt8) : ∀ (L k : Nat), m < 2 ^ L → putP m (k + L) ++ r = List.replicate k 48 ++ (putP m L ++ r)
  | L, 0, _ => by simp
  | L, k + 1, h => by
    have e : putP m (k + 1 + L) = bitB m (k + L) :: putP m (k + L) := by rw [show k + 1 + L = (k + L) + 1 by omega]; rfl
    have h2 : m < 2 ^ (k + L) := Nat.lt_of_lt_of_le h (Nat.pow_le_pow_right (by decide) (by omega))
    rw [e, List.cons_append, putP_zeros m r L k h, List.replicate_succ, List.cons_append]
    rcases bitB_cases m (k + L) with ⟨_, hb⟩ | ⟨hq, hb⟩
    · rw [hb]
    · rw [Nat.div_eq_of_lt h2] at hq; cases hq
theorem dec_code (n : Nat) (hn : n ≤ 1000000000) (r : List UInt8) : decP (codeP n ++ r) = ((n : Int), ((codeP n).length : Int), 0) := by
  have hl : (codeP n).length = 2 * (n + 1).log2 + 1 := putP_length _ _
  have h1 : 2 ^ (n + 1).log2 ≤ n + 1 := Nat.log2_self_le (by omega)
  have h2 : n + 1 < 2 ^ ((n + 1).log2 + 1) := Nat.lt_log2_self
  rw [hl]
  unfold codeP decP
  generalize (n + 1).log2 = L at h1 h2
  have h3 : L < 30 := by
    rcases Nat.lt_or_ge L 30 with h | h
    · exact h
    · have : 2 ^ 30 ≤ 2 ^ L := Nat.pow_le_pow_right (by decide) h
      have e : (2 : Nat) ^ 30 = 1073741824 := rfl
      omega
  rw [show 2 * L + 1 = L + (L + 1) by omega, putP_zeros (n + 1) r (L + 1) L h2, dec_zeros _ _ L 0 0 (by omega)]
  have e : putP (n + 1) (L + 1) ++ r = bitB (n + 1) L :: (putP (n + 1) L ++ r) := rfl
  have h4 : (n + 1) / 2 ^ L = 1 := by
    apply Nat.div_eq_of_lt_le
    · omega
    · rw [Nat.pow_succ] at h2; omega
  have hb : bitB (n + 1) L = 49 := by unfold bitB; rw [h4]; decide
  rw [e, hb]
  unfold decG
  rw [if_neg (by decide), if_neg (by intro h; exact absurd h.2 (by decide)), if_pos (by decide)]
  cases L with
  | zero =>
    rw [if_pos (by omega)]
    simp only [Nat.pow_zero, Nat.div_one] at h4
    simp only [Prod.mk.injEq, and_true]; omega
  | succ j =>
    rw [if_neg (by omega)]
    have := dec_bits (0 + (j + 1)) (n + 1) (by omega) r j (0 + (j + 1) + 1)
    rw [h4] at this
    rw [show (((0 + (j + 1) : Nat)) : Int) = (j : Int) + 1 by omega]
    refine Eq.trans this ?_
    simp only [Prod.mk.injEq, and_true]; omega
theorem bitB_val (n i : Nat) : (48 + ((n / 2 ^ i % 2 : Nat) : Int)) = ((bitB n i).toNat : Int) := by
  rcases bitB_cases n i with ⟨h, hb⟩ | ⟨h, hb⟩ <;> rw [h, hb] <;> rfl
theorem log2_le29 {n : Nat} (h : n ≤ 1000000000) : (n + 1).log2 ≤ 29 := by
  rcases Nat.lt_or_ge (n + 1).log2 30 with h1 | h1
  · omega
  · have h2 : 2 ^ (n + 1).log2 ≤ n + 1 := Nat.log2_self_le (by omega)
    have h3 : 2 ^ 30 ≤ 2 ^ (n + 1).log2 := Nat.pow_le_pow_right (by decide) h1
    have e : (2 : Nat) ^ 30 = 1073741824 := rfl
    omega
theorem codeP_length {n : Nat} : (codeP n).length = 2 * (n + 1).log2 + 1 := putP_length _ _
theorem codeP_len_le {n : Nat} (h : n ≤ 1000000000) : (codeP n).length ≤ 59 := by rw [codeP_length]; have := log2_le29 h; omega
/-- codes, one after another -/
def codesP (l : List Int) : List UInt8 := l.flatMap fun z => codeP z.toNat
theorem codesP_snoc (l : List Int) (z : Int) : codesP (l ++ [z]) = codesP l ++ codeP z.toNat := by unfold codesP; rw [List.flatMap_append]; simp
theorem codesP_len : ∀ {l : List Int}, (∀ z ∈ l, 0 ≤ z ∧ z ≤ 1000000000) → (codesP l).length ≤ 59 * l.length
  | [], _ => Nat.zero_le _
  | z :: l, h => by
    have h1 := codesP_len (l := l) (fun y hy => h y (List.mem_cons_of_mem _ hy))
    have h2 : (codeP z.toNat).length ≤ 59 := codeP_len_le (by have := h z List.mem_cons_self; omega)
    have e : codesP (z :: l) = codeP z.toNat ++ codesP l := rfl
    rw [e, List.length_append, List.length_cons]; omega
/-! ### the decoder, step by step -/
section
variable {z i : Nat} {lf n : Int} {c : UInt8} {r : List UInt8}
theorem u8_eq {c d : UInt8} : ((c.toNat : Int) = (d.toNat : Int)) ↔ c = d := ⟨fun h => UInt8.toNat_inj.1 (by omega), fun h => by rw [h]⟩
theorem u8_48 {c : UInt8} : ((c.toNat : Int) = 48) ↔ c = 48 := u8_eq (d := 48)
theorem u8_49 {c : UInt8} : ((c.toNat : Int) = 49) ↔ c = 49 := u8_eq (d := 49)
theorem dG1 (h1 : (c.toNat : Int) ≠ 48) (h2 : (c.toNat : Int) ≠ 49) : decG z lf n i (c :: r) = (0, 0, 4) := by
  unfold decG; rw [if_pos ⟨fun h => h1 (u8_48.2 h), fun h => h2 (u8_49.2 h)⟩]
theorem dG2 (h1 : (c.toNat : Int) = 48) (h2 : lf < 0) (h3 : (z : Int) + 1 = 30) : decG z lf n i (c :: r) = (0, 0, 3) := by
  unfold decG; rw [if_neg (fun h => h.1 (u8_48.1 h1)), if_pos ⟨h2, u8_48.1 h1⟩, if_pos (by omega)]
theorem dG3 (h1 : (c.toNat : Int) = 48) (h2 : lf < 0) (h3 : (z : Int) + 1 ≠ 30) : decG z lf n i (c :: r) = decG (z + 1) lf n (i + 1) r := by
  conv => lhs; unfold decG
  rw [if_neg (fun h => h.1 (u8_48.1 h1)), if_pos ⟨h2, u8_48.1 h1⟩, if_neg (by omega)]
theorem dG4 (h1 : (c.toNat : Int) = 49) (h2 : lf < 0) (h3 : (z : Int) = 0) : decG z lf n i (c :: r) = (0, (i : Int) + 1, 0) := by
  unfold decG; rw [if_neg (fun h => h.2 (u8_49.1 h1)), if_neg (fun h => by have := u8_48.2 h.2; omega), if_pos h2, if_pos (by omega)]
theorem dG5 (h1 : (c.toNat : Int) = 49) (h2 : lf < 0) (h3 : (z : Int) ≠ 0) : decG z lf n i (c :: r) = decG z z 1 (i + 1) r := by
  conv => lhs; unfold decG
  rw [if_neg (fun h => h.2 (u8_49.1 h1)), if_neg (fun h => by have := u8_48.2 h.2; omega), if_pos h2, if_neg (by omega)]
theorem dG6 (h1 : (c.toNat : Int) = 48 ∨ (c.toNat : Int) = 49) (_h2 : 0 ≤ lf) (h3 : lf - 1 = 0) : decG z lf n i (c :: r) = if 2 * n + ((c.toNat : Int) - 48) - 1 > 1000000000 then (0, 0, 3) else (2 * n + ((c.toNat : Int) - 48) - 1, (i : Int) + 1, 0) := by
  unfold decG; rw [if_neg (fun h => h1.elim (fun q => h.1 (u8_48.1 q)) (fun q => h.2 (u8_49.1 q))), if_neg (fun h => by omega), if_neg (by omega), if_pos h3]
theorem dG7 (h1 : (c.toNat : Int) = 48 ∨ (c.toNat : Int) = 49) (h2 : 0 ≤ lf) (h3 : lf - 1 ≠ 0) : decG z lf n i (c :: r) = decG z (lf - 1) (2 * n + ((c.toNat : Int) - 48)) (i + 1) r := by
  conv => lhs; unfold decG
  rw [if_neg (fun h => h1.elim (fun q => h.1 (u8_48.1 q)) (fun q => h.2 (u8_49.1 q))), if_neg (fun h => by omega), if_neg (by omega), if_neg h3]
end
/-- What a decoder knows of its numbers. -/
def decB (z : Nat) (lf n : Int) : Prop := z ≤ 29 ∧ ((lf < 0 ∧ n = 0) ∨ (1 ≤ lf ∧ lf ≤ z ∧ 0 ≤ n ∧ ∃ k : Nat, (k : Int) = z + 1 - lf ∧ n < 2 ^ k))
theorem decB.zero : decB 0 (-1) 0 := ⟨by decide, .inl ⟨by decide, rfl⟩⟩
theorem decB.big {z : Nat} {lf n : Int} (h : decB z lf n) : 0 ≤ n ∧ n ≤ 1073741824 := by
  obtain ⟨hz, ⟨_, h2⟩ | ⟨h1, h2, h3, k, hk, h4⟩⟩ := h
  · omega
  · have h5 : (2 : Int) ^ k ≤ 2 ^ 30 := by exact_mod_cast Nat.pow_le_pow_right (by decide) (show k ≤ 30 by omega)
    have e : (2 : Int) ^ 30 = 1073741824 := rfl
    omega
theorem decB.seen {z : Nat} {lf n : Int} (h : decB z lf n) (h1 : lf < 0) (h2 : (z : Int) + 1 ≠ 30) : decB (z + 1) lf n := by
  obtain ⟨hz, ⟨q1, q2⟩ | ⟨q1, _⟩⟩ := h
  · exact ⟨by omega, .inl ⟨q1, q2⟩⟩
  · omega
theorem decB.one {z : Nat} (h : z ≤ 29) (h3 : (z : Int) ≠ 0) : decB z z 1 := ⟨h, .inr ⟨by omega, by omega, by decide, 1, by omega, by decide⟩⟩
theorem decB.bit {z : Nat} {lf n b : Int} (h : decB z lf n) (h1 : 0 ≤ lf) (h2 : lf - 1 ≠ 0) (hb : 0 ≤ b ∧ b ≤ 1) : decB z (lf - 1) (2 * n + b) := by
  obtain ⟨hz, ⟨q1, q2⟩ | ⟨q1, q2, q3, k, hk, h4⟩⟩ := h
  · omega
  · refine ⟨hz, .inr ⟨by omega, by omega, by omega, k + 1, by omega, ?_⟩⟩
    rw [Int.pow_succ]; omega
theorem decB.le {z : Nat} {lf n : Int} (h : decB z lf n) : z ≤ 29 ∧ (0 ≤ lf → 1 ≤ lf ∧ lf ≤ z) ∧ (lf < 0 → n = 0) := by
  obtain ⟨hz, ⟨q1, q2⟩ | ⟨q1, q2, q3, k, hk, h4⟩⟩ := h
  · exact ⟨hz, fun h => by omega, fun _ => q2⟩
  · exact ⟨hz, fun _ => ⟨q1, q2⟩, fun h => by omega⟩
/-! ### weighed sums -/
def wsum : Nat → List UInt8 → Int
  | _, [] => 0
  | i, b :: r => ((i : Int) + 1) * (b.toNat : Int) + wsum (i + 1) r
def weighP (l : List UInt8) (by_ : Int) : Int := wsum 0 l % by_
theorem wsum_snoc (b : UInt8) : ∀ (l : List UInt8) (i : Nat), wsum i (l ++ [b]) = wsum i l + ((i + l.length : Nat) + 1 : Int) * (b.toNat : Int)
  | [], i => by simp [wsum]
  | a :: l, i => by
    have := wsum_snoc b l (i + 1)
    simp only [List.cons_append, wsum, List.length_cons] at this ⊢
    rw [this, show (i + 1 + l.length : Nat) = i + (l.length + 1) by omega]; omega
theorem mul_bound {a b n : Int} (h1 : 0 ≤ a) (h2 : a ≤ n) (h3 : 0 ≤ b) (h4 : b ≤ 255) : 0 ≤ a * b ∧ a * b ≤ 255 * n := by
  refine ⟨Int.mul_nonneg h1 h3, ?_⟩
  have q1 : a * b ≤ a * 255 := Int.mul_le_mul_of_nonneg_left h4 h1
  omega
theorem wsum_bound : ∀ (l : List UInt8) (i N : Nat), i + l.length ≤ N → 0 ≤ wsum i l ∧ wsum i l ≤ 255 * (N : Int) * (l.length : Int)
  | [], _, N, _ => by simp [wsum]
  | b :: l, i, N, h => by
    simp only [List.length_cons] at h
    have h1 := wsum_bound l (i + 1) N (by omega)
    have hb := b.toNat_lt
    have h2 := mul_bound (a := (i : Int) + 1) (b := (b.toNat : Int)) (n := (N : Int)) (by omega) (by omega) (by omega) (by omega)
    have e : 255 * (N : Int) * ((l.length + 1 : Nat) : Int) = 255 * (N : Int) * (l.length : Int) + 255 * (N : Int) := by
      rw [show ((l.length + 1 : Nat) : Int) = (l.length : Int) + 1 by omega, Int.mul_add, Int.mul_one]
    simp only [wsum, List.length_cons]
    rw [e]; omega
theorem wsum_take {l : List UInt8} {N : Nat} (h : l.length ≤ N) (k : Nat) : 0 ≤ wsum 0 (l.take k) ∧ wsum 0 (l.take k) ≤ 255 * (N : Int) * (N : Int) := by
  have h1 := wsum_bound (l.take k) 0 N (by rw [List.length_take]; omega)
  have h2 : 255 * (N : Int) * ((l.take k).length : Int) ≤ 255 * (N : Int) * (N : Int) := Int.mul_le_mul_of_nonneg_left (by rw [List.length_take]; omega) (by omega)
  omega

theorem put_c (n k : Nat) (bt base : Nat) (ao : Option Addr) (gb cp : Nat) (xs : List UInt8) (w0 : World) (hb : Blk w0 bt 118 [.slice ao xs.length cp]) (ha : Acc encY 1 5 base w0 ao gb cp xs) (hbs : base ≤ w0.heap.size) (hne : base ≤ gb → gb ≠ bt) (hn : n < 18446744073709551616) (hk : k ≤ 64) (hx : xs.length + k ≤ 1000000) :
    CallsV Tryz.prog 72 [.pointer (some ⟨bt, 0, none⟩), .int .u64 (n : Int), .int .i64 (k : Int)] w0 (fun v w' => (∃ a9 g9 c9, Blk w' bt 118 [.slice a9 (List.length (xs ++ putP n k)) c9] ∧ Acc encY 1 5 base w' a9 g9 c9 (xs ++ putP n k) ∧ (g9 = gb ∨ w0.heap.size ≤ g9)) ∧ Upd (fun i => i = bt ∨ (i = gb ∧ base ≤ i)) w0 w') := by
 have lt_gb := ha.lt
 have lt_bt := hb.lt
 refine f_n func72 ?_
 refine go ?_
 refine x_l5 (fun i => i = bt ∨ (i = gb ∧ base ≤ i)) [0, 1] (fun (m : Nat) (a1 : Option Addr) (g1 : Nat) (c1 : Nat) (cur : List UInt8) => [(6, .int .i64 ((m : Int) - 1))]) (fun m a1 g1 c1 cur w => Blk w bt 118 [.slice a1 cur.length c1] ∧ (m ≤ k) ∧ (Acc encY 1 5 base w a1 g1 c1 cur) ∧ (cur ++ putP n m = xs ++ putP n k) ∧ ((g1 = gb ∨ w0.heap.size ≤ g1))) (fun m a1 g1 c1 cur => m) k ao gb cp xs ⟨hb, (Nat.le_refl _), ha, rfl, (.inl rfl)⟩ ?_
 rintro m a1 g1 c1 cur w3 ⟨I5, hmk, hA, heq, hg1⟩ u4 zu4 K2 hK2
 have lt_g1 := hA.lt
 have hcl : cur.length + m = xs.length + k := by have := congrArg List.length heq; simpa only [List.length_append, putP_length] using this
 refine go ?_
 refine q_p (fun g10 => ?_) fun g10 => ?_
 ·
  obtain ⟨q, rfl⟩ : ∃ q, m = q + 1 := ⟨m - 1, by omega⟩
  refine c_same 6 (v := .int .i64 (q : Int)) rfl (congrArg (Value.int .i64) (by omega)) ?_
  refine go ?_
  refine t_conv underlying3 underlying175 rfl rfl rfl (IntWalk.u64_in _ (by omega)) (t_bo (Bo.shr q rfl (by show q < 64; omega)) rfl rfl rfl rfl (t_bo (Bo.and1 (Nat.lt_of_le_of_lt (Nat.div_le_self _ _) hn)) rfl rfl rfl rfl (t_conv underlying175 underlying5 rfl rfl rfl (IntWalk.u8_in _ (by omega)) (t_bo (Bo.ari8 rfl (by omega)) rfl rfl rfl rfl (t_same 23 (v := .int .u8 ((bitB n q).toNat : Int)) rfl (congrArg (Value.int .u8) (bitB_val n q)) ?_)))))
  refine x_l fun bk10 w11 ebk10 sbk10 B12 u13 => ?_
  have D15 := (hA.keep u13 (fun _ h => h))
  refine t_append (z := .int .u8 0) (bytes := 1) (k := 1) (base := base) (bitB n q) underlying118 (by kernel_rfl) rfl (by decide) (fun _ => rfl) (by intro x; simp [encY, Value.oneCell']) rfl rfl rfl rfl D15 B12 (by omega) (by omega) (by decide) (fun ao16 gb17 cp18 w19 A20 u21 gegb17 lngb17 => ?_)
  have zu21 := u21.size
  have lt_gb17 := A20.lt
  refine go ?_
  refine x_s fun w23 sw23 B25 u24 => ?_
  refine go ?_
  have D27 := (A20.keep u24 (fun hb => show ¬ (gb17 = bt) by first | omega | assumption))
  exact hK2 q ao16 gb17 cp18 (cur ++ [(bitB n q)]) ⟨B25, (by omega), D27, (by rw [List.append_assoc]; exact heq), (by omega)⟩
 refine go ?_
 refine f_ret0 results72 ?_
 have hm0 : m = 0 := by omega
 subst hm0
 have hcur : cur = xs ++ putP n k := by rw [← heq]; exact (List.append_nil _).symm
 subst hcur
 exact ⟨⟨a1, g1, c1, I5, hA, hg1⟩, u_d⟩

end Go.Proofs.YtagmkfbbhfaceaaGreatDoor
namespace Go.Proofs
open Go.Shelf
def YtagmkfbbhfaceaaGreatDoor.layLen_ren : Go.Shelf.Ren := ⟨fun | 125 => 121 | 128 => 172 | 129 => 173 | n => n, fun | 46 => 175 | 3 => 3 | 51 => 94 | 53 => 225 | 4 => 4 | 5 => 5 | 9 => 9 | n => n, fun | n => n⟩
theorem YtagmkfbbhfaceaaGreatDoor.layLen : Go.Proofs.Lays.n125 Tryz.prog YtagmkfbbhfaceaaGreatDoor.layLen_ren := {
  mixed := by kernel_rfl
  f125 := Tryz.func121.trans (congrArg some (by kernel_rfl))
  f128 := Tryz.func172.trans (congrArg some (by kernel_rfl))
  f129 := Tryz.func173.trans (congrArg some (by kernel_rfl))
  t3 := Tryz.underlying3
  a3 := Tryz.isAgg3
  z3 := Tryz.sizeOf3
  v3 := Tryz.zeroValue3
  t4 := Tryz.underlying4
  a4 := Tryz.isAgg4
  z4 := Tryz.sizeOf4
  v4 := Tryz.zeroValue4
  t5 := Tryz.underlying5
  a5 := Tryz.isAgg5
  z5 := Tryz.sizeOf5
  v5 := Tryz.zeroValue5
  t9 := Tryz.underlying9
  a9 := Tryz.isAgg9
  z9 := Tryz.sizeOf9
  v9 := Tryz.zeroValue9
  t46 := Tryz.underlying175
  a46 := Tryz.isAgg175
  z46 := Tryz.sizeOf175
  v46 := Tryz.zeroValue175
  t51 := Tryz.underlying94
  a51 := Tryz.isAgg94
  z51 := Tryz.sizeOf94
  v51 := Tryz.zeroValue94
  t53 := Tryz.underlying225
  a53 := Tryz.isAgg225
  z53 := Tryz.sizeOf225
  v53 := Tryz.zeroValue225 }
end Go.Proofs
namespace Go.Proofs.YtagmkfbbhfaceaaGreatDoor
open Go Go.RowKit Go.Proofs.Tryz
set_option maxRecDepth 10000
theorem bitLen_log2 {m : Nat} (h0 : m ≠ 0) (h : m < 2 ^ 64) : Lib.bitLen m = m.log2 + 1 := by
  obtain ⟨h1, h2, h3⟩ := Lib.bitLenAux_bounds 64 m h h0
  have e : m.log2 = Lib.bitLenAux 64 m - 1 := (Nat.log2_eq_iff h0).2 ⟨h2, by rw [Nat.sub_add_cancel h1]; exact h3⟩
  show Lib.bitLenAux 64 m = _
  omega
theorem len_c (m : Nat) (h0 : m ≠ 0) (h : m < 2 ^ 64) (w0 : World) : CallsV Tryz.prog 121 [.int .u64 (m : Int)] w0 fun v w' => v = .int .i64 ((m.log2 + 1 : Nat) : Int) ∧ Ext w0 w' := by
  refine Calls.mono (Any.bits_Len layLen (m : Int) w0 (by omega) (by omega)) ?_
  rintro e w' ⟨rfl, rfl⟩
  exact ⟨_, rfl, by rw [Int.toNat_natCast, bitLen_log2 h0 h], Upd.refl _ _⟩

set_option maxHeartbeats 4000000 in
theorem code_c (zs : List Int) (al : Option Addr) (bl ol cl : Nat) (bt base : Nat) (ao : Option Addr) (gb cp : Nat) (xs : List UInt8) (w0 : World) (hb : Blk w0 bt 118 [.slice ao xs.length cp]) (ha : Acc encY 1 5 base w0 ao gb cp xs) (hbs : base ≤ w0.heap.size) (hne : base ≤ gb → gb ≠ bt) (hl : Sl encI 1 w0 al bl ol zs) (hnl : bl ≠ bt ∧ (base ≤ gb → bl ≠ gb)) (hz1 : ∀ z ∈ zs, 0 ≤ z ∧ z ≤ 1000000000) (hx : xs.length + 59 * zs.length ≤ 1000000) :
    CallsV Tryz.prog 71 [.pointer (some ⟨bt, 0, none⟩), .slice al zs.length cl] w0 (fun v w' => (∃ a9 g9 c9, Blk w' bt 118 [.slice a9 (List.length (xs ++ codesP zs)) c9] ∧ Acc encY 1 5 base w' a9 g9 c9 (xs ++ codesP zs) ∧ (g9 = gb ∨ w0.heap.size ≤ g9)) ∧ Upd (fun i => i = bt ∨ (i = gb ∧ base ≤ i)) w0 w') := by
 have lt_gb := ha.lt
 have lt_bt := hb.lt
 obtain ⟨hnl1, hnl2⟩ := hnl
 refine f_n func71 ?_
 refine go ?_
 refine x_l5 (fun i => i = bt ∨ (i = gb ∧ base ≤ i)) [0, 7, 8] (fun (k : Nat) (a1 : Option Addr) (g1 : Nat) (c1 : Nat) (cur : List UInt8) => [(9, .int .i64 (k : Int))]) (fun k a1 g1 c1 cur w => Blk w bt 118 [.slice a1 cur.length c1] ∧ (k ≤ zs.length) ∧ (Acc encY 1 5 base w a1 g1 c1 cur) ∧ (cur = xs ++ codesP (zs.take k)) ∧ ((g1 = gb ∨ w0.heap.size ≤ g1))) (fun k a1 g1 c1 cur => zs.length - k) 0 ao gb cp xs ⟨hb, (Nat.zero_le _), ha, (List.append_nil _).symm, (.inl rfl)⟩ ?_
 rintro k a1 g1 c1 cur w3 ⟨I5, hk, hA, hcu, hg1⟩ u4 zu4 K2 hK2
 have lt_g1 := hA.lt
 have hcl : cur.length = xs.length + (codesP (zs.take k)).length := by rw [hcu, List.length_append]
 have hcl2 : (codesP (zs.take k)).length ≤ 59 * k := by have := codesP_len (l := zs.take k) (fun z hz => hz1 z (List.mem_of_mem_take hz)); rw [List.length_take, Nat.min_eq_left hk] at this; exact this
 refine go ?_
 refine q_p (fun g10 => ?_) fun g10 => ?_
 ·
  have hz2 := hz1 (nth zs k) (nth_mem (by omega))
  have hlg := log2_le29 (n := (nth zs k).toNat) (by omega)
  refine go ?_
  have D11 := (hl.keep u4 (fun _ => show ¬ (bl = bt ∨ (bl = gb ∧ base ≤ bl)) by omega))
  refine g_i k D11 (fun _ => ?_)
  refine go ?_
  refine t_conv underlying3 underlying175 rfl rfl rfl (IntWalk.u64_in _ (by omega)) (t_ariW rfl rfl rfl rfl rfl (by omega) (t_same 15 (v := .int .u64 (((nth zs k).toNat + 1 : Nat) : Int)) rfl (congrArg (Value.int .u64) (by omega)) ?_))
  refine go ?_
  refine x_c func121 rfl rfl (len_c ((nth zs k).toNat + 1) (by omega) (by omega) _) ?_
  rintro _ w15 ⟨rfl, u16⟩ zu16
  iterate 2 refine st1 ?_
  refine t_same 21 (v := .int .i64 ((2 * ((nth zs k).toNat + 1).log2 + 1 : Nat) : Int)) rfl (congrArg (Value.int .i64) (by omega)) ?_
  have D20 := (hA.keep u16 (fun _ h => h))
  have B21 := (I5.kx u16)
  refine x_c func72 rfl rfl (put_c ((nth zs k).toNat + 1) (2 * ((nth zs k).toNat + 1).log2 + 1) bt base a1 g1 c1 cur _ B21 D20 (by omega) (by omega) (by omega) (by omega) (by have := codeP_length (n := (nth zs k).toNat); omega)) ?_
  rintro v22 w23 ⟨⟨at19, gt19, ct19, hBt19, hAt19, hGt19⟩, u24⟩ zu24
  have lt_gt19 := hAt19.lt
  refine go ?_
  exact hK2 (k + 1) at19 gt19 ct19 (cur ++ putP ((nth zs k).toNat + 1) (2 * ((nth zs k).toNat + 1).log2 + 1)) ⟨hBt19, (by omega), hAt19, (by rw [take_nth (by omega), codesP_snoc, ← List.append_assoc, ← hcu]; rfl), (by omega)⟩
 refine go ?_
 refine f_ret0 results71 ?_
 have hkz : k = zs.length := by omega
 subst hkz
 rw [List.take_length] at hcu
 subst hcu
 exact ⟨⟨a1, g1, c1, I5, hA, hg1⟩, u_d⟩


end Go.Proofs.YtagmkfbbhfaceaaGreatDoor
namespace Go.Proofs.YtagmkfbbhfaceaaGreatDoor
open Go Go.RowKit Go.Proofs.Tryz
set_option maxRecDepth 10000
set_option maxHeartbeats 4000000 in
theorem Decode_c (l : List UInt8) (w0 : World) (hl : l.length ≤ 1000000000) :
    CallsV Tryz.prog 77 [.string (strB l)] w0 (fun v w' => v = .tuple #[.int .i64 (decP l).1, .int .i64 (decP l).2.1, .int .i64 (decP l).2.2] ∧ Ext w0 w') := by
 refine f_n func77 ?_
 refine go ?_
 refine t_lenS underlying9 rfl rfl rfl rfl ?_
 refine go ?_
 refine x_l4 (fun _ => False) [0, 10] (fun (z : Nat) (lf : Int) (n : Int) (i : Nat) => [(2, .int .i64 n), (5, .int .i64 (z : Int)), (6, .int .i64 lf), (11, .int .i64 (i : Int))]) (fun z lf n i w => (i ≤ l.length) ∧ (decG z lf n i (l.drop i) = decP l) ∧ (decB z lf n)) (fun z lf n i => l.length - i) 0 (-1) 0 0 ⟨(Nat.zero_le _), rfl, decB.zero⟩ ?_
 rintro z lf n i w6 ⟨hi, hd, hB⟩ u7 zu7 K5 hK5
 have hL := hB.le
 have hnb := hB.big
 refine go ?_
 refine q_p (fun g12 => ?_) fun g12 => ?_
 ·
  refine go ?_
  refine t_idxS i underlying9 rfl rfl rfl rfl rfl (by omega) ?_
  refine go ?_
  refine t_splitp 28 rfl (fun g28 => ?_) (fun g28 => ?_)
  ·
   refine go ?_
   refine q_p (fun g25 => ?_) fun g25 => ?_
   ·
    refine go ?_
    refine f_ret3 (v1 := .int .i64 0) (v2 := .int .i64 0) (v3 := .int .i64 4) results77 rfl rfl rfl ?_
    rw [drop_nth (by omega)] at hd
    exact ⟨by rw [← hd, dG1 (by omega) (by omega)], u_d⟩
   have hc2 : ((nth l i).toNat : Int) = 48 ∨ ((nth l i).toNat : Int) = 49 := by omega
   refine go ?_
   refine t_splitp 35 rfl (fun g35 => ?_) (fun g35 => ?_)
   ·
    refine go ?_
    refine q_p (fun g32 => ?_) fun g32 => ?_
    ·
     exact (by omega : False).elim
    refine go ?_
    refine q_p (fun g43 => ?_) fun g43 => ?_
    ·
     refine go ?_
     refine q_p (fun g48 => ?_) fun g48 => ?_
     ·
      refine go ?_
      refine f_ret3 (v1 := .int .i64 0) (v2 := .int .i64 ((i : Int) + 1)) (v3 := .int .i64 0) results77 rfl rfl rfl ?_
      rw [drop_nth (by omega)] at hd
      exact ⟨by rw [← hd, dG4 (by omega) (by omega) (by omega)], u_d⟩
     refine go ?_
     exact hK5 z (z : Int) 1 (i + 1) ⟨(by omega), (by rw [drop_nth (by omega)] at hd; rw [← hd]; exact (dG5 (by omega) (by omega) (by omega)).symm), (decB.one hL.1 (by omega))⟩
    exact (by omega : False).elim
   refine go ?_
   refine q_p (fun g43 => ?_) fun g43 => ?_
   ·
    exact (by omega : False).elim
   refine go ?_
   refine t_bo (Bo.shl1 (by omega)) rfl rfl rfl rfl ?_
   refine go ?_
   refine t_bo (Bo.ari8 rfl (by omega)) rfl rfl rfl rfl (t_conv underlying5 underlying3 rfl rfl rfl (IntWalk.i64_in _ (by omega)) (t_bo (Bo.or1 (by omega) (by omega) (by omega)) rfl rfl rfl rfl ?_))
   refine go ?_
   refine q_p (fun g48 => ?_) fun g48 => ?_
   ·
    refine go ?_
    refine q_p (fun g52 => ?_) fun g52 => ?_
    ·
     refine go ?_
     refine f_ret3 (v1 := .int .i64 0) (v2 := .int .i64 0) (v3 := .int .i64 3) results77 rfl rfl rfl ?_
     rw [drop_nth (by omega)] at hd
     exact ⟨by rw [← hd, dG6 hc2 (by omega) (by omega), if_pos (by omega)], u_d⟩
    refine go ?_
    refine f_ret3 (v1 := .int .i64 ((2 * n + (((nth l i).toNat : Int) - 48)) - 1)) (v2 := .int .i64 ((i : Int) + 1)) (v3 := .int .i64 0) results77 rfl rfl rfl ?_
    rw [drop_nth (by omega)] at hd
    exact ⟨by rw [← hd, dG6 hc2 (by omega) (by omega), if_neg (by omega)], u_d⟩
   refine go ?_
   exact hK5 z (lf - 1) (2 * n + (((nth l i).toNat : Int) - 48)) (i + 1) ⟨(by omega), (by rw [drop_nth (by omega)] at hd; rw [← hd]; exact (dG7 hc2 (by omega) (by omega)).symm), (hB.bit (by omega) (by omega) (by omega))⟩
  have hc2 : ((nth l i).toNat : Int) = 48 ∨ ((nth l i).toNat : Int) = 49 := by omega
  refine go ?_
  refine t_splitp 35 rfl (fun g35 => ?_) (fun g35 => ?_)
  ·
   refine go ?_
   refine q_p (fun g32 => ?_) fun g32 => ?_
   ·
    refine go ?_
    refine q_p (fun g42 => ?_) fun g42 => ?_
    ·
     refine go ?_
     refine f_ret3 (v1 := .int .i64 0) (v2 := .int .i64 0) (v3 := .int .i64 3) results77 rfl rfl rfl ?_
     rw [drop_nth (by omega)] at hd
     exact ⟨by rw [← hd, dG2 (by omega) (by omega) (by omega)], u_d⟩
    refine go ?_
    exact hK5 (z + 1) lf n (i + 1) ⟨(by omega), (by rw [drop_nth (by omega)] at hd; rw [← hd]; exact (dG3 (by omega) (by omega) (by omega)).symm), (hB.seen (by omega) (by omega))⟩
   exact (by omega : False).elim
  refine go ?_
  refine q_p (fun g43 => ?_) fun g43 => ?_
  ·
   exact (by omega : False).elim
  refine go ?_
  refine t_bo (Bo.shl1 (by omega)) rfl rfl rfl rfl ?_
  refine go ?_
  refine t_bo (Bo.ari8 rfl (by omega)) rfl rfl rfl rfl (t_conv underlying5 underlying3 rfl rfl rfl (IntWalk.i64_in _ (by omega)) (t_bo (Bo.or1 (by omega) (by omega) (by omega)) rfl rfl rfl rfl ?_))
  refine go ?_
  refine q_p (fun g48 => ?_) fun g48 => ?_
  ·
   refine go ?_
   refine q_p (fun g52 => ?_) fun g52 => ?_
   ·
    refine go ?_
    refine f_ret3 (v1 := .int .i64 0) (v2 := .int .i64 0) (v3 := .int .i64 3) results77 rfl rfl rfl ?_
    rw [drop_nth (by omega)] at hd
    exact ⟨by rw [← hd, dG6 hc2 (by omega) (by omega), if_pos (by omega)], u_d⟩
   refine go ?_
   refine f_ret3 (v1 := .int .i64 ((2 * n + (((nth l i).toNat : Int) - 48)) - 1)) (v2 := .int .i64 ((i : Int) + 1)) (v3 := .int .i64 0) results77 rfl rfl rfl ?_
   rw [drop_nth (by omega)] at hd
   exact ⟨by rw [← hd, dG6 hc2 (by omega) (by omega), if_neg (by omega)], u_d⟩
  refine go ?_
  exact hK5 z (lf - 1) (2 * n + (((nth l i).toNat : Int) - 48)) (i + 1) ⟨(by omega), (by rw [drop_nth (by omega)] at hd; rw [← hd]; exact (dG7 hc2 (by omega) (by omega)).symm), (hB.bit (by omega) (by omega) (by omega))⟩
 refine go ?_
 refine f_ret3 (v1 := .int .i64 0) (v2 := .int .i64 0) (v3 := .int .i64 120) results77 rfl rfl rfl ?_
 exact ⟨by rw [← hd, List.drop_of_length_le (by omega)]; rfl, u_d⟩

end Go.Proofs.YtagmkfbbhfaceaaGreatDoor
namespace Go.Proofs.YtagmkfbbhfaceaaGreatDoor
open Go Go.RowKit Go.Proofs.Tryz
set_option maxRecDepth 10000
theorem weigh_c (l : List UInt8) (al : Option Addr) (bl ol cl : Nat) (by_ : Int) (w0 : World) (hs : Sl encY 1 w0 al bl ol l) (hl : l.length ≤ 100000) (hby : 1 ≤ by_) :
    CallsV Tryz.prog 125 [.slice al l.length cl, .int .i64 by_] w0 (fun v w' => v = .int .i64 (weighP l by_) ∧ Ext w0 w') := by
 refine f_n func125 ?_
 refine go ?_
 refine x_l1 (fun _ => False) [1, 7, 8] (fun (k : Nat) => [(4, .int .i64 (wsum 0 (l.take k))), (9, .int .i64 (k : Int))]) (fun k w => (k ≤ l.length)) (fun k => l.length - k) 0 (Nat.zero_le _) ?_
 rintro k w5 hk u6 zu6 K4 hK4
 have hw := wsum_take hl k
 have hu := u8_range (nth l k)
 have hkb := mul_bound (a := (k : Int) + 1) (b := ((nth l k).toNat : Int)) (n := 100001) (by omega) (by omega) (u8_range _).1 (u8_range _).2
 have hsn : wsum 0 (l.take (k + 1)) = wsum 0 (l.take k) + ((k : Int) + 1) * ((nth l k).toNat : Int) ∨ l.length ≤ k := by
   rcases Nat.lt_or_ge k l.length with h | h
   · left; rw [take_nth h, wsum_snoc, List.length_take, Nat.min_eq_left (by omega)]; simp
   · exact .inr h
 refine go ?_
 refine q_p (fun g10 => ?_) fun g10 => ?_
 ·
  refine go ?_
  refine g_i k (hs.keep ((Upd.refl (fun _ => False) w0).nx u6) (fun _ h => h)) (fun _ => ?_)
  refine go ?_
  refine t_conv underlying5 underlying3 rfl rfl rfl (IntWalk.i64_in _ (by omega)) ?_
  refine go ?_
  exact hK4 (k + 1) (by omega) (hs := by exact ⟨(congrArg (fun z => some (Value.int .i64 z)) (by omega)), rfl, rfl, rfl, rfl, trivial⟩)
 refine go ?_
 refine t_rem rfl rfl rfl rfl (by omega) (by omega) ?_
 refine go ?_
 refine f_1 results125 ?_
 exact ⟨by rw [List.take_of_length_le (by omega)]; rfl, u_d⟩


end Go.Proofs.YtagmkfbbhfaceaaGreatDoor
namespace Go.Proofs.YtagmkfbbhfaceaaGreatDoor
open Go Go.RowKit

theorem ys_nth {l : List UInt8} {j : Nat} (h : j < l.length) : (ys l)[j]? = some (.int .u8 ((nth l j).toNat : Int)) := by simp [ys, h, nth_eq h]
theorem ys_append (a b : List UInt8) : ys (a ++ b) = ys a ++ ys b := List.map_append
theorem ys_take (a : List UInt8) (k : Nat) : (ys a).take k = ys (a.take k) := by simp [ys, List.map_take]
theorem ys_drop (a : List UInt8) (k : Nat) : (ys a).drop k = ys (a.drop k) := by simp [ys, List.map_drop]
/-- Bytes that lie one behind the other, as elements of a slice. -/
theorem SlY.at {w : World} {b off : Nat} {l : List UInt8} (hb : b < w.heap.size) (h : At w b off (ys l)) : Sl encY 1 w (some ⟨b, off, none⟩) b off l :=
  ⟨fun _ => rfl, fun _ => hb, fun i hi j v hv => by
    cases j with
    | zero =>
      simp only [encY, List.getElem?_cons_zero, Option.some.injEq] at hv
      subst hv
      have := h i _ (ys_nth hi)
      rwa [show off + i * 1 + 0 = off + i by omega]
    | succ j => simp [encY] at hv⟩
theorem SlY.own {w : World} {b : Nat} {t : TypeId} {l : List UInt8} (h : Blk w b t (ys l)) : Sl encY 1 w (some ⟨b, 0, none⟩) b 0 l := SlY.at h.lt h.at
theorem At.ysub {w : World} {b off : Nat} {l : List UInt8} (h : At w b off (ys l)) (k n : Nat) : At w b (off + k) (ys ((l.drop k).take n)) := by
  have := h.sub k n
  rwa [ys_drop, ys_take] at this
theorem lay_all (vs cs : List Value) (h : vs.length = cs.length) : lay cs 0 vs = vs := by
  have := lay_take vs cs 0 (by omega)
  rw [Nat.zero_add, List.take_of_length_le (by rw [lay_length]; omega)] at this
  simpa using this
section
variable {rd : Option Nat} {P : Program} {ops : Array Oper} {Q : Exit → Act → World → Prop} {N : Nat} {ds : List Deferred} {rest : List Oper} {L : Slots} {w : World}
variable {d : Nat} {ty : TypeId} {pos : String} {aft : Array Edge} {g : Option (Nat × Bool)}
/-- One byte is stored. -/
theorem t_storeY {t u : TypeId} {x y : Operand} {b : Nat} {ls : List UInt8} {v : UInt8} (i : Nat) (hs : ∀ w, (sizeOf u).run P w = .ok 1 w) (hg : grd ops L g = true)
    (hx : ev L x = some (.pointer (some ⟨b, 0 + i * 1, none⟩))) (hy : ev L y = some (.int .u8 (v.toNat : Int))) (hb : Blk w b t (ys ls)) (hl : i < ls.length)
    (h : ∀ w', w'.heap.size = w.heap.size → Blk w' b t (ys (ls.set i v)) → Upd (· = b) w w' → WL rd P ops Q N ds rest L w') :
    WL rd P ops Q N ds (⟨none, .store u x y, ty, pos, aft, g⟩ :: rest) L w := by
  refine t_store (vs := [.int .u8 (v.toNat : Int)]) hs hg hx hy hb rfl rfl (by simp [ys]; omega) (by simp [Value.oneCell']) (fun w' h1 h2 h3 => h w' h1 ?_ h3)
  have : lay (ys ls) (0 + i * 1) [.int .u8 (v.toNat : Int)] = ys (ls.set i v) := by
    simp [lay, ys, List.map_set]
  rwa [this] at h2
/-- A whole array is stored. -/
theorem t_stY {t u : TypeId} {x y : Operand} {b n : Nat} {cs : List Value} {l : List UInt8} (hs : ∀ w, (sizeOf u).run P w = .ok n w) (hg : grd ops L g = true)
    (hx : ev L x = some (.pointer (some ⟨b, 0, none⟩))) (hy : ev L y = some (.agg (ys l).toArray)) (hb : Blk w b t cs) (hn : l.length = n) (hc : cs.length = n)
    (h : ∀ w', w'.heap.size = w.heap.size → Blk w' b t (ys l) → Upd (· = b) w w' → WL rd P ops Q N ds rest L w') :
    WL rd P ops Q N ds (⟨none, .store u x y, ty, pos, aft, g⟩ :: rest) L w := by
  refine t_store (vs := ys l) hs hg hx hy hb rfl (by rw [ys_length]; exact hn) (by omega) (ys_one l) (fun w' h1 h2 h3 => h w' h1 ?_ h3)
  rwa [lay_all _ _ (by rw [ys_length]; omega)] at h2
/-- A whole array is loaded. -/
theorem t_ldY {t : TypeId} {x : Operand} {n b off : Nat} {l : List UInt8} (ha : ∀ w, (isAgg t).run P w = .ok true w) (hs : ∀ w, (sizeOf t).run P w = .ok n w) (hg : grd ops L g = true) (hN : Nat.blt d N = true)
    (hx : ev L x = some (.pointer (some ⟨b, off, none⟩))) (hv : At w b off (ys l)) (hn : l.length = n) (h : WL rd P ops Q N ds rest ((d, .agg (ys l).toArray) :: L) w) : WL rd P ops Q N ds (⟨some d, .load t x, ty, pos, aft, g⟩ :: rest) L w :=
  t_loadN ha hs hg hN hx hv (by rw [ys_length]; exact hn) h
/-- A slice of an array. -/
theorem run_arrS {t e : TypeId} {n s b off : Nat} {x x1 x2 : Operand} {lo hi : Option Operand} {k k' : IntKind} {m q : Int} (i j : Nat) (hu : P.underlying t = some (.array n e)) (hs : ∀ w, (sizeOf e).run P w = .ok s w) (hx : ev L x = some (.pointer (some ⟨b, off, none⟩)))
    (hl : lo = some x1 ∧ ev L x1 = some (.int k m) ∧ m = (i : Int) ∨ lo = none ∧ i = 0) (hh : hi = some x2 ∧ ev L x2 = some (.int k' q) ∧ q = (j : Int) ∨ hi = none ∧ j = n) (hij : i ≤ j) (hj : j ≤ n) (hin : i < n)
    {a : Act} (hk : Kn N ds L a) {d : Option Tmp} (w : World) : (execOp a.eval ⟨d, .slice t x lo hi none, ty, pos, aft, g⟩).run P w = .ok (.value (.slice (some ⟨b, off + i * s, none⟩) (j - i) (n - i))) w := by
  have hne : n ≠ i := by omega
  rcases hl with ⟨rfl, h1, rfl⟩ | ⟨rfl, rfl⟩ <;> rcases hh with ⟨rfl, h2, rfl⟩ | ⟨rfl, rfl⟩
  · simp [execOp, hk.ev hx, hk.ev h1, hk.ev h2, Instr.sliceAt, Instr.sliceBounds, Instr.sliceBound, Instr.sureAddr, asIntOf, run_underlying hu, hs, hj, hij, hne, addr_add]
  · simp [execOp, hk.ev hx, hk.ev h1, Instr.sliceAt, Instr.sliceBounds, Instr.sliceBound, Instr.sureAddr, asIntOf, run_underlying hu, hs, hij, hne, addr_add]
  · simp [execOp, hk.ev hx, hk.ev h2, Instr.sliceAt, Instr.sliceBounds, Instr.sliceBound, Instr.sureAddr, asIntOf, run_underlying hu, hs, hj, addr_add]
  · simp [execOp, hk.ev hx, Instr.sliceAt, Instr.sliceBounds, Instr.sureAddr, run_underlying hu, hs, addr_add]
theorem t_arrS {t e : TypeId} {n s b off : Nat} {x x1 x2 : Operand} {lo hi : Option Operand} {k k' : IntKind} {m q : Int} (i j : Nat) (hu : P.underlying t = some (.array n e)) (hs : ∀ w, (sizeOf e).run P w = .ok s w) (hg : grd ops L g = true) (hN : Nat.blt d N = true) (hx : ev L x = some (.pointer (some ⟨b, off, none⟩)))
    (hl : lo = some x1 ∧ ev L x1 = some (.int k m) ∧ m = (i : Int) ∨ lo = none ∧ i = 0) (hh : hi = some x2 ∧ ev L x2 = some (.int k' q) ∧ q = (j : Int) ∨ hi = none ∧ j = n) (hij : i ≤ j) (hj : j ≤ n) (hin : i < n)
    (h : WL rd P ops Q N ds rest ((d, .slice (some ⟨b, off + i * s, none⟩) (j - i) (n - i)) :: L) w) : WL rd P ops Q N ds (⟨some d, .slice t x lo hi none, ty, pos, aft, g⟩ :: rest) L w :=
  WL.value hg rfl hN (fun _a hk => run_arrS i j hu hs hx hl hh hij hj hin hk w) h
theorem y_arrS {w1 : World} {S : Nat → Prop} {rest : OX} {t e : TypeId} {n s b off : Nat} {x x1 x2 : Operand} {lo hi : Option Operand} {k k' : IntKind} {m q : Int} (i j : Nat) (hu : P.underlying t = some (.array n e)) (hs : ∀ w, (sizeOf e).run P w = .ok s w) (hg : grd ops L g = true) (hN : Nat.blt d N = true) (hx : ev L x = some (.pointer (some ⟨b, off, none⟩)))
    (hl : lo = some x1 ∧ ev L x1 = some (.int k m) ∧ m = (i : Int) ∨ lo = none ∧ i = 0) (hh : hi = some x2 ∧ ev L x2 = some (.int k' q) ∧ q = (j : Int) ∨ hi = none ∧ j = n) (hij : i ≤ j) (hj : j ≤ n) (hin : i < n)
    (h : SC rd P ops Q N ds w1 S rest ((d, .slice (some ⟨b, off + i * s, none⟩) (j - i) (n - i)) :: L) w) : SC rd P ops Q N ds w1 S (.look ⟨some d, .slice t x lo hi none, ty, pos, aft, g⟩ rest) L w :=
  s_F hg rfl hN (fun _a hk w _ => run_arrS i j hu hs hx hl hh hij hj hin hk w) h
theorem y_arrP {w1 : World} {S : Nat → Prop} {rest : OX} {arr e : TypeId} {x : Operand} {n len cap : Nat} {ao : Option Addr} (hu : P.underlying arr = some (.array n e)) (hg : grd ops L g = true) (hN : Nat.blt d N = true) (hx : ev L x = some (.slice ao len cap)) (hn : n ≤ len)
    (h : SC rd P ops Q N ds w1 S rest ((d, .pointer ao) :: L) w) : SC rd P ops Q N ds w1 S (.look ⟨some d, .sliceToArrayPointer arr x, ty, pos, aft, g⟩ rest) L w :=
  s_F hg rfl hN (fun a hk w _ => by simp [execOp, hk.ev hx, run_arrayAt w arr e n ao len cap hu hn]) h
/-- A number's lowest byte. -/
theorem t_conv8 {src dst : TypeId} {x : Operand} {k' : IntKind} {n : Int} {ds' : TypeDesc} (hs : P.underlying src = some ds') (hd : P.underlying dst = some (.int .u8)) (hg : grd ops L g = true) (hN : Nat.blt d N = true) (hx : ev L x = some (.int k' n))
    (h : WL rd P ops Q N ds rest ((d, .int .u8 (n % 256)) :: L) w) : WL rd P ops Q N ds (⟨some d, .convert src dst x, ty, pos, aft, g⟩ :: rest) L w :=
  WL.value hg rfl hN (fun a ha => by
    simp only [execOp, ha.ev hx]
    simp [convert, run_underlying hs, run_underlying hd, Conv.intToInt, IntKind.wrap_u8]) h
/-- Arrays of bytes, compared. -/
theorem run_eqItemsY {e : TypeId} (he : P.underlying e = some (.int .u8)) (hA : ∀ w, (isAgg e).run P w = .ok false w) (hc : P.cellsOf e = 1) (dd : Nat) (a b : List UInt8) (w : World) : ∀ is : List Nat, (∀ j ∈ is, j < a.length ∧ j < b.length) →
    (Op.eqItems (dd + 1) e (P.cellsOf e) (ys a).toArray (ys b).toArray is).run P w = .ok (is.all fun j => decide (nth a j = nth b j)) w
  | [], _ => by simp [Op.eqItems]
  | j :: is, h => by
    obtain ⟨h1, h2⟩ := h j List.mem_cons_self
    have ih := run_eqItemsY he hA hc dd a b w is (fun k hk => h k (List.mem_cons_of_mem _ hk))
    have p1 : (part e (ys a).toArray (j * P.cellsOf e)).run P w = .ok (.int .u8 ((nth a j).toNat : Int)) w := by
      rw [hc, Nat.mul_one]; simp [part, hA, ys_nth h1]
    have p2 : (part e (ys b).toArray (j * P.cellsOf e)).run P w = .ok (.int .u8 ((nth b j).toNat : Int)) w := by
      rw [hc, Nat.mul_one]; simp [part, hA, ys_nth h2]
    have p3 := run_equalIn_int w dd e .u8 .u8 ((nth a j).toNat : Int) ((nth b j).toNat : Int) he
    have e9 : (((nth a j).toNat : Int) == ((nth b j).toNat : Int)) = decide (nth a j = nth b j) := by
      rw [Bool.beq_eq_decide_eq]
      exact decide_eq_decide.2 ⟨fun q => UInt8.toNat_inj.1 (by omega), fun q => by rw [q]⟩
    rw [e9] at p3
    simp only [Op.eqItems, Sem.run_bind, p1, p2, p3, Result.andThen_ok, List.all_cons]
    cases hd : decide (nth a j = nth b j) with
    | false => simp
    | true => simpa using ih
theorem run_eqArrY {t e : TypeId} {n : Nat} (hu : P.underlying t = some (.array n e)) (hi9 : (P.info? e).isSome = true) (he : P.underlying e = some (.int .u8)) (hA : ∀ w, (isAgg e).run P w = .ok false w) (hc : P.cellsOf e = 1) {a b : List UInt8} (ha : a.length = n) (hb : b.length = n) (w : World) :
    (Op.equalIn 10000 t (.agg (ys a).toArray) (.agg (ys b).toArray)).run P w = .ok (decide (a = b)) w := by
  obtain ⟨i, hi⟩ := Option.isSome_iff_exists.1 hi9
  rw [show (10000 : Nat) = 9998 + 1 + 1 from rfl, run_equalIn_array w (9998 + 1) _ _ hu hi, run_eqItemsY he hA hc 9998 a b w _ (fun j hj => by have := List.mem_range.1 hj; omega)]
  congr 1
  rw [Bool.eq_iff_iff, List.all_eq_true, decide_eq_true_eq]
  constructor
  · intro h
    refine List.ext_getElem (by omega) fun j h1 h2 => ?_
    have := of_decide_eq_true (h j (List.mem_range.2 (by omega)))
    rwa [nth_eq h1, nth_eq h2] at this
  · intro h j _
    rw [h]; simp
/-! ### A literal of one element whose cells are not told -/
theorem foldl_lay : ∀ (l : List Value) (k : Nat) (cs : Array Value), ((l.zipIdx k).foldl (fun cs (p : Value × Nat) => cs.setIfInBounds (0 + p.2) p.1) cs).toList = lay cs.toList k l
  | [], k, cs => rfl
  | v :: l, k, cs => by
    simp only [List.zipIdx_cons, List.foldl_cons, lay]
    rw [foldl_lay l (k + 1) (cs.setIfInBounds (0 + k) v)]
    simp
theorem run_bslice1 {t e n : Nat} {z v : Value} {vs : List Value} (hu : P.underlying t = some (.slice e)) (hs : ∀ w, (sizeOf e).run P w = .ok n w) (hz : ∀ w, (zeroValue e).run P w = .ok z w) (h0 : 0 < n) (h1 : n ≤ 1000) (hv : v.cells = vs.toArray) (hn : vs.length = n) (w : World) :
    (Instr.buildSlice t 1 #[(0, v)]).run P w = .ok (.slice (some ⟨w.heap.size, 0, none⟩) 1 1) (w.alloc (.cells vs.toArray e)) := by
  have e1 : ¬ (n > 16777216) := by omega
  have e2 : n ≠ 0 := by omega
  have hf : ∀ C : Array Value, C.size = n → Instr.fill (fun i => some (i * n, n)) C [(0, v)] = some vs.toArray := fun C hC => by
    simp only [Instr.fill, Nat.zero_mul, hv]
    rw [if_neg (by simp [hn, hC])]
    congr 1
    apply Array.toList_inj.1
    have := foldl_lay vs 0 C
    rw [lay_all _ _ (by simp [hn, hC])] at this
    rw [← Array.foldl_toList]
    simpa using this
  simp [Instr.buildSlice, run_underlying hu, hs, hz, e1, e2, hf, newRow, newObj, Sem.run]
theorem t_bslice1 {t e n : Nat} {z v : Value} {vs : List Value} {x : Operand} (hu : P.underlying t = some (.slice e)) (hs : ∀ w, (sizeOf e).run P w = .ok n w) (hz : ∀ w, (zeroValue e).run P w = .ok z w) (h0 : 0 < n) (h1 : n ≤ 1000) (hg : grd ops L g = true) (hN : Nat.blt d N = true)
    (hx : ev L x = some v) (hv : v.cells = vs.toArray) (hn : vs.length = n)
    (h : ∀ b w', b = w.heap.size → w'.heap.size = w.heap.size + 1 → Blk w' b e vs → Ext w w' → WL rd P ops Q N ds rest ((d, .slice (some ⟨b, 0, none⟩) 1 1) :: L) w') :
    WL rd P ops Q N ds (⟨some d, .buildSlice t 1 #[(0, x)], ty, pos, aft, g⟩ :: rest) L w :=
  t_bslice (ps := [(0, v)]) (cs := vs) (e := e) hg hN ⟨by simp [evs, hx], rfl⟩ (fun w => run_bslice1 hu hs hz h0 h1 hv hn w) h
end
end Go.Proofs.YtagmkfbbhfaceaaGreatDoor
