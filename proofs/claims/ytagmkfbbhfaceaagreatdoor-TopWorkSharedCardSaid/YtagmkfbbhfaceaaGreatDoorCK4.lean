/-
  Part 4 of the proof: contracts and plain laws. Conditions: none.
-/
import Derived.Laws.BytesArg
import Derived.Laws.Strings2
import Derived.Laws.Strings3
import Derived.Laws.Runes
import Derived.Laws.Shifts
import Derived.Laws.BitsLemmas
import Derived.Lib.ConvBytes
import Derived.Lib.Strings
import Derived.Test.YtagmkfbbhfaceaaGreatDoorProg
import Derived.ProofKit
import Derived.OpenShut
import Derived.Deep.Slices
import Derived.Test.YtagmkfbbhfaceaaGreatDoorCK3
namespace Go.Proofs.YtagmkfbbhfaceaaGreatDoor
open Go Go.RowKit

/-- A byte's cell; a list of bytes in memory; a string of bytes. -/
def encY (b : UInt8) : List Value := [.int .u8 (b.toNat : Int)]
def ys (l : List UInt8) : List Value := l.map fun b => .int .u8 (b.toNat : Int)
def strB (l : List UInt8) : ByteArray := ⟨l.toArray⟩
theorem strB_toList (l : List UInt8) : (strB l).toList = l := ByteArray.toList_mk l
theorem strB_size (l : List UInt8) : (strB l).size = l.length := by simp [strB, ByteArray.size]
theorem ys_length (l : List UInt8) : (ys l).length = l.length := List.length_map _
theorem ys_one (l : List UInt8) : ∀ v ∈ ys l, v.oneCell' = true := fun v h => by
  obtain ⟨b, _, rfl⟩ := List.mem_map.1 h; rfl
theorem u8_range (b : UInt8) : (0 : Int) ≤ (b.toNat : Int) ∧ (b.toNat : Int) ≤ 255 := by
  have := b.toNat_lt; omega
section
variable {rd : Option Nat} {P : Program} {ops : Array Oper} {Q : Exit → Act → World → Prop} {N : Nat} {ds : List Deferred} {rest : List Oper} {L : Slots} {w : World}
variable {d : Nat} {ty : TypeId} {pos : String} {aft : Array Edge} {g : Option (Nat × Bool)} {op : BinOp} {xt yt : TypeId} {x y : Operand} {u v r : Value}

/-- What an operator says of two values, in every world. -/
structure Bo (P : Program) (op : BinOp) (xt : TypeId) (u v r : Value) : Prop where
  run : ∀ (x y : Operand) (w : World), (do eqGuard op xt x y u v; binOp op xt u v : Sem Value).run P w = .ok r w
theorem Bo.exec (h : Bo P op xt u v r) {a : Act} (hk : Kn N ds L a) (hx : ev L x = some u) (hy : ev L y = some v) {d : Option Tmp} (w : World) : (execOp a.eval ⟨d, .binOp op xt x y yt, ty, pos, aft, g⟩).run P w = .ok (.value r) w := by
  have := h.run x y w
  simp only [execOp, hk.ev hx, hk.ev hy]
  rw [Sem.run_bind, this]; rfl
theorem t_bo (hr : Bo P op xt u v r) (hg : grd ops L g = true) (hN : Nat.blt d N = true) (hx : ev L x = some u) (hy : ev L y = some v) (h : WL rd P ops Q N ds rest ((d, r) :: L) w) :
    WL rd P ops Q N ds (⟨some d, .binOp op xt x y yt, ty, pos, aft, g⟩ :: rest) L w := WL.value hg rfl hN (fun _ hk => hr.exec hk hx hy w) h
theorem y_bo {w1 : World} {S : Nat → Prop} {rest : OX} (hr : Bo P op xt u v r) (hg : grd ops L g = true) (hN : Nat.blt d N = true) (hx : ev L x = some u) (hy : ev L y = some v) (h : SC rd P ops Q N ds w1 S rest ((d, r) :: L) w) :
    SC rd P ops Q N ds w1 S (.look ⟨some d, .binOp op xt x y yt, ty, pos, aft, g⟩ rest) L w := s_F hg rfl hN (fun _ hk w _ => hr.exec hk hx hy w) h

/-! ### Integers -/
theorem Bo.shr {k k' : IntKind} {m : Nat} {n : Int} (j : Nat) (hn : n = (j : Int)) (hb : j < k.bits) : Bo P .shr xt (.int k (m : Int)) (.int k' n) (.int k ((m / 2 ^ j : Nat) : Int)) := ⟨fun x y w => by
  subst hn
  have e1 : ¬ ((j : Int) < 0) := by omega
  have e2 : min (j : Int).toNat k.bits = j := by rw [Int.toNat_natCast]; omega
  have e3 : (m : Int).fdiv (2 ^ j) = ((m / 2 ^ j : Nat) : Int) := by
    rw [Int.fdiv_eq_ediv_of_nonneg _ (by exact_mod_cast Nat.zero_le _)]; simp
  simp only [eqGuard, binOp, Op.shift, if_neg e1, e2, e3]
  simp⟩
theorem Bo.and1 {m : Nat} (hm : m < 2 ^ 64) : Bo P .and xt (.int .u64 (m : Int)) (.int .u64 1) (.int .u64 ((m % 2 : Nat) : Int)) := ⟨fun x y w => by
  have e := bits_mask .u64 64 (by decide) (fun n h0 h1 => IntWalk.u64_in n (by omega)) 1 (by decide) (m : Int) (by omega) (by omega)
  have e2 : bits .and .u64 (m : Int) 1 = ((m % 2 : Nat) : Int) := by rw [show (1 : Int) = 2 ^ 1 - 1 from rfl, e]; omega
  simp [eqGuard, binOp, Op.intBits]
  exact e2⟩
theorem Bo.ari8 {m n r : Int} (hv : ariI op m n = some r) (hr : 0 ≤ r ∧ r ≤ 255) : Bo P op xt (.int .u8 m) (.int .u8 n) (.int .u8 r) := ⟨fun x y w => by
  have e3 := IntWalk.u8_in r hr
  cases op <;> simp [ariI] at hv <;> subst hv <;> simp [eqGuard, binOp, Op.intArith, e3]⟩
theorem Bo.xor8 (a b : UInt8) : Bo P .xor xt (.int .u8 (a.toNat : Int)) (.int .u8 (b.toNat : Int)) (.int .u8 ((a ^^^ b).toNat : Int)) := ⟨fun x y w => by
  have ha : a.toNat < 2 ^ IntKind.u8.bits := a.toNat_lt
  have hb : b.toNat < 2 ^ IntKind.u8.bits := b.toNat_lt
  simp [eqGuard, binOp, Op.intBits]
  rw [Nat.mod_eq_of_lt ha, Nat.mod_eq_of_lt hb]
  exact IntWalk.u8_in _ (by have := Nat.xor_lt_two_pow (n := 8) ha hb; omega)⟩
theorem Bo.or8 (a b : UInt8) : Bo P .or xt (.int .u8 (a.toNat : Int)) (.int .u8 (b.toNat : Int)) (.int .u8 ((a ||| b).toNat : Int)) := ⟨fun x y w => by
  have ha : a.toNat < 2 ^ IntKind.u8.bits := a.toNat_lt
  have hb : b.toNat < 2 ^ IntKind.u8.bits := b.toNat_lt
  simp [eqGuard, binOp, Op.intBits]
  rw [Nat.mod_eq_of_lt ha, Nat.mod_eq_of_lt hb]
  exact IntWalk.u8_in _ (by have := Nat.or_lt_two_pow (n := 8) ha hb; omega)⟩
/-- A bit, shifted within a byte. -/
theorem Bo.shl8 {k' : IntKind} {b : Nat} {n : Int} (j : Nat) (hn : n = (j : Int)) (hb : b ≤ 1) (hj : j < 8) : Bo P .shl xt (.int .u8 (b : Int)) (.int k' n) (.int .u8 ((b * 2 ^ j : Nat) : Int)) := ⟨fun x y w => by
  subst hn
  have e1 : ¬ ((j : Int) < 0) := by omega
  have e2 : min (j : Int).toNat IntKind.u8.bits = j := by rw [Int.toNat_natCast]; show min j 8 = j; omega
  have e3 : b * 2 ^ j < 256 := by
    have : 2 ^ j ≤ 2 ^ 7 := Nat.pow_le_pow_right (by decide) (by omega)
    have e : (2 : Nat) ^ 7 = 128 := rfl
    have h2 : b * 2 ^ j ≤ 1 * 2 ^ j := Nat.mul_le_mul_right _ hb
    omega
  have e4 : IntKind.u8.wrap ((b : Int) * 2 ^ j) = ((b * 2 ^ j : Nat) : Int) := by
    rw [show ((b : Int) * 2 ^ j) = ((b * 2 ^ j : Nat) : Int) by simp]
    exact IntWalk.u8_in _ (by omega)
  simp only [eqGuard, binOp, Op.shift, if_neg e1, e2, e4]
  simp⟩
/-! ### Strings -/
theorem Bo.eqS (a b : List UInt8) : Bo P .eql xt (.string (strB a)) (.string (strB b)) (.bool (decide (a = b))) := ⟨fun x y w => by
  have e : (a == b) = decide (a = b) := by rw [Bool.beq_eq_decide_eq]
  simp [eqGuard, binOp, Op.stringOp, strB_toList, e]⟩
theorem strB_append (a b : List UInt8) : strB a ++ strB b = strB (a ++ b) := by
  apply ByteArray.ext
  simp [strB, ByteArray.data_append]
theorem Bo.addS {a b : List UInt8} (h : a.length + b.length ≤ 1000000000) : Bo P .add xt (.string (strB a)) (.string (strB b)) (.string (strB (a ++ b))) := ⟨fun x y w => by
  have e : ¬ ((((strB a).size + (strB b).size : Nat) : Int) > IntKind.i64.max) := by
    rw [strB_size, strB_size]; show ¬ (9223372036854775807 < (((a.length + b.length : Nat)) : Int)); omega
  simp only [eqGuard, binOp, Op.stringOp, if_neg e, strB_append]
  simp⟩
theorem t_lenS {t : TypeId} {l : List UInt8} {ats : Array TypeId} (hu : P.underlying t = some .string) (ht : ats = #[t]) (hg : grd ops L g = true) (hN : Nat.blt d N = true) (hx : ev L x = some (.string (strB l)))
    (h : WL rd P ops Q N ds rest ((d, .int .i64 (l.length : Int)) :: L) w) : WL rd P ops Q N ds (⟨some d, .call ⟨.builtin .len, #[x], ats⟩, ty, pos, aft, g⟩ :: rest) L w :=
  WL.value hg rfl hN (fun a hk => by subst ht; simp [execOp, resolve, invoke, builtin, Builtin.len_, run_underlying hu, hk.ev hx, goInt, strB_size]) h
theorem strB_get {l : List UInt8} {j : Nat} (h : j < l.length) : (strB l)[j]? = some (nth l j) := by
  have h2 : j < (strB l).size := by rw [strB_size]; exact h
  rw [ByteArray.getElem?_lt' _ _ h2, nth_eq h]; rfl
theorem run_idxS {t : TypeId} {l : List UInt8} {k : IntKind} {n : Int} (j : Nat) (hu : P.underlying t = some .string) (hj : n = (j : Int)) (hl : j < l.length) (w : World) : (Instr.index t (.string (strB l)) (.int k n)).run P w = .ok (.int .u8 ((nth l j).toNat : Int)) w := by
  subst hj
  have e0 : (0 : Int) ≤ (j : Int) := by omega
  simp [Instr.index, asIntOf, run_underlying hu, e0, strB_get hl]
theorem t_idxS {t : TypeId} {l : List UInt8} {k : IntKind} {n : Int} (j : Nat) (hu : P.underlying t = some .string) (hg : grd ops L g = true) (hN : Nat.blt d N = true) (hx : ev L x = some (.string (strB l))) (hy : ev L y = some (.int k n)) (hj : n = (j : Int)) (hl : j < l.length)
    (h : WL rd P ops Q N ds rest ((d, .int .u8 ((nth l j).toNat : Int)) :: L) w) : WL rd P ops Q N ds (⟨some d, .index t x y, ty, pos, aft, g⟩ :: rest) L w :=
  WL.value hg rfl hN (fun a hk => by simp [execOp, hk.ev hx, hk.ev hy, run_idxS j hu hj hl]) h
theorem strB_extract (l : List UInt8) (a b : Nat) : (strB l).extract a b = strB ((l.drop a).take (b - a)) := ByteArray.extract_mk l a b
variable {x1 x2 : Operand}
theorem run_subS {t : TypeId} {l : List UInt8} {lo hi : Option Operand} {k k' : IntKind} {m n : Int} (i j : Nat) (hu : P.underlying t = some .string) (hx : ev L x = some (.string (strB l)))
    (hl : lo = some x1 ∧ ev L x1 = some (.int k m) ∧ m = (i : Int) ∨ lo = none ∧ i = 0) (hh : hi = some x2 ∧ ev L x2 = some (.int k' n) ∧ n = (j : Int) ∨ hi = none ∧ j = l.length) (hij : i ≤ j) (hj : j ≤ l.length)
    {a : Act} (hk : Kn N ds L a) {d : Option Tmp} (w : World) : (execOp a.eval ⟨d, .slice t x lo hi none, ty, pos, aft, g⟩).run P w = .ok (.value (.string (strB ((l.drop i).take (j - i))))) w := by
  rcases hl with ⟨rfl, h1, rfl⟩ | ⟨rfl, rfl⟩ <;> rcases hh with ⟨rfl, h2, rfl⟩ | ⟨rfl, rfl⟩
  · have e1 : j ≤ (strB l).size := by rw [strB_size]; exact hj
    simp [execOp, hk.ev hx, hk.ev h1, hk.ev h2, Instr.sliceAt, Instr.slice, Instr.sliceBounds, Instr.sliceBound, asIntOf, run_underlying hu, e1, hij, strB_extract]
  · simp [execOp, hk.ev hx, hk.ev h1, Instr.sliceAt, Instr.slice, Instr.sliceBounds, Instr.sliceBound, asIntOf, run_underlying hu, hij, strB_size, strB_extract]
  · have e1 : j ≤ (strB l).size := by rw [strB_size]; exact hj
    simp [execOp, hk.ev hx, hk.ev h2, Instr.sliceAt, Instr.slice, Instr.sliceBounds, Instr.sliceBound, asIntOf, run_underlying hu, e1, strB_extract]
  · simp [execOp, hk.ev hx, Instr.sliceAt, Instr.slice, Instr.sliceBounds, run_underlying hu]
theorem t_subS {t : TypeId} {l : List UInt8} {lo hi : Option Operand} {k k' : IntKind} {m n : Int} (i j : Nat) (hu : P.underlying t = some .string) (hg : grd ops L g = true) (hN : Nat.blt d N = true) (hx : ev L x = some (.string (strB l)))
    (hl : lo = some x1 ∧ ev L x1 = some (.int k m) ∧ m = (i : Int) ∨ lo = none ∧ i = 0) (hh : hi = some x2 ∧ ev L x2 = some (.int k' n) ∧ n = (j : Int) ∨ hi = none ∧ j = l.length) (hij : i ≤ j) (hj : j ≤ l.length)
    (h : WL rd P ops Q N ds rest ((d, .string (strB ((l.drop i).take (j - i)))) :: L) w) : WL rd P ops Q N ds (⟨some d, .slice t x lo hi none, ty, pos, aft, g⟩ :: rest) L w :=
  WL.value hg rfl hN (fun _a hk => run_subS i j hu hx hl hh hij hj hk w) h
/-! ### Conversions -/
theorem t_ofRune {src dst : TypeId} {k : IntKind} {m : Int} (c : Nat) (hs : (P.underlying src).isSome = true) (hd : P.underlying dst = some .string) (hg : grd ops L g = true) (hN : Nat.blt d N = true) (hx : ev L x = some (.int k m)) (hm : m = (c : Int)) (hc : c < 128)
    (h : WL rd P ops Q N ds rest ((d, .string (strB [UInt8.ofNat c])) :: L) w) : WL rd P ops Q N ds (⟨some d, .convert src dst x, ty, pos, aft, g⟩ :: rest) L w :=
  WL.value hg rfl hN (fun a hk => by
    subst hm
    have hv : Utf8.valid (c : Int) = true := by simp [Utf8.valid]; omega
    have e : Utf8.encode (c : Int) = strB [UInt8.ofNat c] := by
      unfold Utf8.encode
      simp only [hv, if_true, Int.toNat_natCast]
      rw [if_pos hc]; rfl
    simp [execOp, hk.ev hx, run_convert_int_string w src dst k _ hs hd, e]) h
/-- A new block that holds bytes, and perhaps more behind them. -/
structure BlkY (w : World) (b : Nat) (t : TypeId) (l : List UInt8) : Prop where
  run : ∃ z f, w.heap[b]? = some (.cells (ys l ++ z).toArray t (f, f + 1)) ∧ l.length ≤ f
theorem BlkY.lt {b : Nat} {t : TypeId} {l : List UInt8} (h : BlkY w b t l) : b < w.heap.size := by
  obtain ⟨z, f, h, _⟩ := h.run
  exact lt_of_block h
theorem BlkY.keep {w' : World} {S : Nat → Prop} {b : Nat} {t : TypeId} {l : List UInt8} (h : BlkY w b t l) (u : Upd S w w') (hn : ¬ S b) : BlkY w' b t l := by
  have hb := h.lt
  obtain ⟨z, f, h, h2⟩ := h.run
  exact ⟨z, f, (u.block b hb hn).trans h, h2⟩
theorem BlkY.sl {b : Nat} {t : TypeId} {l : List UInt8} (h : BlkY w b t l) : Sl encY 1 w (some ⟨b, 0, none⟩) b 0 l := by
  have hb := h.lt
  obtain ⟨z, f, h, _⟩ := h.run
  refine ⟨fun _ => rfl, fun _ => hb, fun j hj i v hv => ?_⟩
  cases i with
  | zero =>
    simp only [encY, List.getElem?_cons_zero, Option.some.injEq] at hv
    subst hv
    have e : (ys l ++ z)[j]? = some (.int .u8 ((nth l j).toNat : Int)) := by
      rw [List.getElem?_append_left (by rw [ys_length]; exact hj)]
      simp [ys, hj, nth_eq hj]
    simp [World.cell?, h]
    rw [show j = j + 0 from rfl] 
    simpa using e
  | succ i => simp [encY] at hv
/-- []byte(s). -/
theorem t_toB {src dst e : TypeId} {l : List UInt8} (hs : P.underlying src = some .string) (hd : P.underlying dst = some (.slice e)) (he : P.underlying e = some (.int .u8))
    (hg : grd ops L g = true) (hN : Nat.blt d N = true) (hx : ev L x = some (.string (strB l)))
    (h : ∀ b c w', b = w.heap.size → w'.heap.size = w.heap.size + 1 → BlkY w' b e l → Ext w w' → WL rd P ops Q N ds rest ((d, .slice (some ⟨b, 0, none⟩) l.length c) :: L) w') : WL rd P ops Q N ds (⟨some d, .convert src dst x, ty, pos, aft, g⟩ :: rest) L w := by
  have hr := Lib.run_convert_string_bytes (P := P) w src dst e (strB l) hs hd he
  rw [strB_size] at hr
  have hB : BlkY (Lib.bytesWorld w e (strB l)) w.heap.size e l := by
    refine ⟨List.replicate (grownCap w (strB l).size 0 e - (strB l).size) (.int .u8 0), (Lib.bytesCells w e (strB l)).size, ?_, ?_⟩
    · rw [Lib.bytesWorld_at_new]
      congr 2
      unfold Lib.bytesCells
      apply Array.toList_inj.1
      simp [strB, ys]
    · unfold Lib.bytesCells
      simp [strB]
  refine WL.value hg rfl hN (fun a hk => by simp [execOp, hk.ev hx, hr]) (h _ (grownCap w l.length 0 e) _ rfl (Lib.bytesWorld_size w e _) hB ?_)
  refine ⟨?_, ?_, ?_, by rw [Lib.bytesWorld_size]; omega, fun k hk _ => Lib.bytesWorld_at_old w e _ k hk⟩ <;> simp [Lib.bytesWorld, World.freeze, World.alloc, World.drew, -World.alloc_eq, -World.drew_eq]
end
end Go.Proofs.YtagmkfbbhfaceaaGreatDoor
namespace Go.Proofs.YtagmkfbbhfaceaaGreatDoor
open Go Go.RowKit
def tb : Tb where
  sc := [1, 2, 3, 4, 5, 6, 9, 10, 11, 12, 15, 16, 17, 20, 21, 22, 23, 24, 25, 27, 28, 30, 32, 35, 36, 39, 42, 45, 49, 50, 52, 53, 54, 57, 58, 59, 62, 63, 64, 68, 73, 74, 75, 78, 79, 81, 82, 83, 85, 89, 91, 93, 94, 96, 97, 98, 100, 103, 104, 105, 106, 107, 109, 112, 114, 115, 116, 117, 118, 119, 122, 123, 124, 125, 126, 127, 128, 129, 130, 131, 132, 133, 136, 139, 140, 141, 142, 143, 144, 147, 149, 152, 153, 154, 155, 158, 159, 160, 164, 165, 168, 169, 170, 171, 172, 173, 174, 175, 176, 177, 178, 179, 180, 181, 183, 185, 186, 189, 191, 192, 193, 194, 195, 196, 197, 198, 199, 201, 202, 203, 204, 205, 206, 207, 208, 209, 211, 212, 215, 216, 217, 218, 219, 220, 222, 223, 224, 225, 228, 229, 231, 232, 233, 236, 237, 238, 239, 240, 241, 242, 243, 244, 245, 246, 247, 248, 249, 250, 251, 252, 253, 254, 255, 256, 259, 260, 261, 262, 263, 264, 265, 266, 268, 269, 270, 271, 272, 274, 275, 276, 277, 278, 281, 284, 285, 286, 287, 288, 289, 290, 291, 292, 293, 294, 295, 296, 297, 298, 299, 301, 302, 303, 304, 305, 306, 307, 308, 311, 312, 313, 314, 315, 320, 322, 323, 324, 325, 326, 327, 328, 330, 331, 334, 335, 336, 337, 338, 339, 340, 342, 343, 344, 345, 346, 348, 350, 351, 352, 356, 358, 359, 360, 361, 362, 363, 364, 365, 366, 367, 368, 369, 370, 371, 374, 375, 376, 377, 378, 383, 390, 391, 392, 393, 394]
  ag := [(7, 4), (8, 4), (13, 2), (14, 2), (18, 1), (19, 1), (33, 2), (34, 2), (37, 3), (38, 3), (40, 6), (41, 6), (43, 6), (44, 6), (46, 1), (47, 1), (55, 5), (56, 5), (60, 6), (61, 6), (65, 5), (66, 5), (69, 3), (70, 3), (71, 2), (72, 2), (76, 2), (77, 2), (84, 2), (86, 3), (87, 3), (88, 2), (101, 3), (102, 3), (110, 32), (111, 32), (120, 2), (121, 2), (134, 2), (135, 2), (137, 9), (138, 9), (145, 5), (146, 5), (150, 3), (151, 3), (156, 5), (157, 5), (161, 4), (162, 4), (166, 11), (167, 11), (182, 2), (187, 4), (188, 4), (213, 2), (214, 2), (226, 4), (227, 4), (234, 6), (235, 6), (257, 6), (258, 6), (279, 13), (280, 13), (282, 2), (283, 2), (309, 2), (310, 2), (316, 2), (317, 2), (318, 3), (319, 3), (332, 3), (333, 3), (347, 24), (353, 1), (354, 1), (372, 20), (380, 2), (381, 2), (382, 32), (384, 64), (385, 4), (386, 4), (387, 0), (388, 0), (389, 0), (395, 11), (396, 11)]
  sl := [(22, 41, 6), (24, 5, 1), (28, 3, 1), (35, 34, 2), (36, 47, 1), (45, 44, 6), (54, 61, 6), (63, 70, 3), (64, 72, 2), (74, 138, 9), (75, 258, 6), (78, 35, 1), (85, 87, 3), (98, 102, 3), (104, 111, 32), (105, 111, 32), (118, 5, 1), (136, 135, 2), (165, 310, 2), (169, 235, 6), (206, 9, 1), (228, 283, 2), (272, 235, 6)]
  fd := [(7, [(0, 2), (1, 3), (2, 4), (3, 6)]), (8, [(0, 2), (1, 3), (2, 4), (3, 6)]), (13, [(0, 9), (1, 12)]), (14, [(0, 9), (1, 12)]), (18, [(0, 17)]), (19, [(0, 17)]), (33, [(0, 3), (1, 3)]), (34, [(0, 3), (1, 3)]), (37, [(0, 3), (1, 35), (2, 36)]), (38, [(0, 3), (1, 35), (2, 36)]), (40, [(0, 3), (1, 39), (2, 3), (3, 3), (4, 3), (5, 3)]), (41, [(0, 3), (1, 39), (2, 3), (3, 3), (4, 3), (5, 3)]), (43, [(0, 42), (1, 3), (2, 3), (3, 3), (4, 34)]), (44, [(0, 42), (1, 3), (2, 3), (3, 3), (4, 34)]), (46, [(0, 45)]), (47, [(0, 45)]), (55, [(0, 34), (2, 54), (3, 3), (4, 3)]), (56, [(0, 34), (2, 54), (3, 3), (4, 3)]), (60, [(0, 3), (1, 3), (2, 34), (4, 34)]), (61, [(0, 3), (1, 3), (2, 34), (4, 34)]), (65, [(0, 3), (1, 63), (2, 64), (3, 64), (4, 3)]), (66, [(0, 3), (1, 63), (2, 64), (3, 64), (4, 3)]), (69, [(0, 3), (1, 3), (2, 64)]), (70, [(0, 3), (1, 3), (2, 64)]), (71, [(0, 3), (1, 3)]), (72, [(0, 3), (1, 3)]), (76, [(0, 74), (1, 75)]), (77, [(0, 74), (1, 75)]), (86, [(0, 3), (1, 3), (2, 28)]), (87, [(0, 3), (1, 3), (2, 28)]), (101, [(0, 3), (1, 3), (2, 3)]), (102, [(0, 3), (1, 3), (2, 3)]), (120, [(0, 9), (1, 4)]), (121, [(0, 9), (1, 4)]), (134, [(0, 3), (1, 3)]), (135, [(0, 3), (1, 3)]), (137, [(0, 3), (1, 3), (2, 34), (4, 136), (5, 3), (6, 34), (8, 3)]), (138, [(0, 3), (1, 3), (2, 34), (4, 136), (5, 3), (6, 34), (8, 3)]), (145, [(0, 66)]), (146, [(0, 66)]), (150, [(0, 77), (2, 78)]), (151, [(0, 77), (2, 78)]), (156, [(0, 152), (1, 153), (2, 154), (3, 155), (4, 3)]), (157, [(0, 152), (1, 153), (2, 154), (3, 155), (4, 3)]), (161, [(0, 3), (1, 3), (2, 3), (3, 3)]), (162, [(0, 3), (1, 3), (2, 3), (3, 3)]), (166, [(0, 3), (1, 3), (2, 3), (3, 3), (4, 3), (5, 3), (6, 3), (7, 3), (8, 3), (9, 3), (10, 165)]), (167, [(0, 3), (1, 3), (2, 3), (3, 3), (4, 3), (5, 3), (6, 3), (7, 3), (8, 3), (9, 3), (10, 165)]), (187, [(0, 38), (3, 98)]), (188, [(0, 38), (3, 98)]), (213, [(0, 212), (1, 24)]), (214, [(0, 212), (1, 24)]), (226, [(0, 225), (1, 225), (2, 225), (3, 225)]), (227, [(0, 225), (1, 225), (2, 225), (3, 225)]), (234, [(0, 3), (1, 3), (2, 3), (3, 233), (4, 3), (5, 3)]), (235, [(0, 3), (1, 3), (2, 3), (3, 233), (4, 3), (5, 3)]), (257, [(0, 3), (1, 34), (3, 3), (4, 34)]), (258, [(0, 3), (1, 34), (3, 3), (4, 34)]), (279, [(0, 167), (11, 278), (12, 228)]), (280, [(0, 167), (11, 278), (12, 228)]), (282, [(0, 3), (1, 3)]), (283, [(0, 3), (1, 3)]), (309, [(0, 3), (1, 3)]), (310, [(0, 3), (1, 3)]), (316, [(0, 3), (1, 3)]), (317, [(0, 3), (1, 3)]), (318, [(0, 317), (2, 3)]), (319, [(0, 317), (2, 3)]), (332, [(0, 9), (1, 9), (2, 209)]), (333, [(0, 9), (1, 9), (2, 209)]), (353, [(0, 9)]), (354, [(0, 9)]), (380, [(0, 5), (1, 5)]), (381, [(0, 5), (1, 5)]), (385, [(0, 17), (1, 17), (2, 17), (3, 9)]), (386, [(0, 17), (1, 17), (2, 17), (3, 9)]), (388, [(0, 387)]), (389, [(0, 387)]), (395, [(0, 12), (1, 12), (2, 94), (3, 390), (4, 5), (5, 5), (6, 391), (7, 392), (8, 263), (9, 393), (10, 394)]), (396, [(0, 12), (1, 12), (2, 94), (3, 390), (4, 5), (5, 5), (6, 391), (7, 392), (8, 263), (9, 393), (10, 394)])]
  el := [(3, .int .i64 0, 1, 8), (5, .int .u8 0, 1, 1), (9, .string (strB ([])), 1, 16), (34, .agg #[.int .i64 0, .int .i64 0], 2, 16), (35, .slice none 0 0, 1, 24), (41, .agg #[.int .i64 0, .int .i64 0, .int .i64 0, .int .i64 0, .int .i64 0, .int .i64 0], 6, 48), (44, .agg #[.int .i64 0, .int .i64 0, .int .i64 0, .int .i64 0, .int .i64 0, .int .i64 0], 6, 48), (47, .agg #[.slice none 0 0], 1, 24), (61, .agg #[.int .i64 0, .int .i64 0, .int .i64 0, .int .i64 0, .int .i64 0, .int .i64 0], 6, 48), (70, .agg #[.int .i64 0, .int .i64 0, .slice none 0 0], 3, 40), (72, .agg #[.int .i64 0, .int .i64 0], 2, 16), (87, .agg #[.int .i64 0, .int .i64 0, .slice none 0 0], 3, 40), (102, .agg #[.int .i64 0, .int .i64 0, .int .i64 0], 3, 24), (111, .agg #[.int .u8 0, .int .u8 0, .int .u8 0, .int .u8 0, .int .u8 0, .int .u8 0, .int .u8 0, .int .u8 0, .int .u8 0, .int .u8 0, .int .u8 0, .int .u8 0, .int .u8 0, .int .u8 0, .int .u8 0, .int .u8 0, .int .u8 0, .int .u8 0, .int .u8 0, .int .u8 0, .int .u8 0, .int .u8 0, .int .u8 0, .int .u8 0, .int .u8 0, .int .u8 0, .int .u8 0, .int .u8 0, .int .u8 0, .int .u8 0, .int .u8 0, .int .u8 0], 32, 32), (135, .agg #[.int .i64 0, .int .i64 0], 2, 16), (138, .agg #[.int .i64 0, .int .i64 0, .int .i64 0, .int .i64 0, .slice none 0 0, .int .i64 0, .int .i64 0, .int .i64 0, .int .i64 0], 9, 88), (235, .agg #[.int .i64 0, .int .i64 0, .int .i64 0, .int .i64 0, .int .i64 0, .int .i64 0], 6, 48), (258, .agg #[.int .i64 0, .int .i64 0, .int .i64 0, .int .i64 0, .int .i64 0, .int .i64 0], 6, 48), (283, .agg #[.int .i64 0, .int .i64 0], 2, 16), (310, .agg #[.int .i64 0, .int .i64 0], 2, 16)]
  zv := [(3, .int .i64 0), (25, .int .i64 0), (34, .agg #[.int .i64 0, .int .i64 0]), (38, .agg #[.int .i64 0, .slice none 0 0, .slice none 0 0]), (41, .agg #[.int .i64 0, .int .i64 0, .int .i64 0, .int .i64 0, .int .i64 0, .int .i64 0]), (44, .agg #[.int .i64 0, .int .i64 0, .int .i64 0, .int .i64 0, .int .i64 0, .int .i64 0]), (47, .agg #[.slice none 0 0]), (56, .agg #[.int .i64 0, .int .i64 0, .slice none 0 0, .int .i64 0, .int .i64 0]), (61, .agg #[.int .i64 0, .int .i64 0, .int .i64 0, .int .i64 0, .int .i64 0, .int .i64 0]), (66, .agg #[.int .i64 0, .slice none 0 0, .slice none 0 0, .slice none 0 0, .int .i64 0]), (70, .agg #[.int .i64 0, .int .i64 0, .slice none 0 0]), (72, .agg #[.int .i64 0, .int .i64 0]), (77, .agg #[.slice none 0 0, .slice none 0 0]), (84, .agg #[.string (strB ([])), .string (strB ([]))]), (85, .slice none 0 0), (87, .agg #[.int .i64 0, .int .i64 0, .slice none 0 0]), (88, .agg #[.int .i64 0, .int .i64 0]), (102, .agg #[.int .i64 0, .int .i64 0, .int .i64 0]), (105, .slice none 0 0), (110, .agg #[.int .u8 0, .int .u8 0, .int .u8 0, .int .u8 0, .int .u8 0, .int .u8 0, .int .u8 0, .int .u8 0, .int .u8 0, .int .u8 0, .int .u8 0, .int .u8 0, .int .u8 0, .int .u8 0, .int .u8 0, .int .u8 0, .int .u8 0, .int .u8 0, .int .u8 0, .int .u8 0, .int .u8 0, .int .u8 0, .int .u8 0, .int .u8 0, .int .u8 0, .int .u8 0, .int .u8 0, .int .u8 0, .int .u8 0, .int .u8 0, .int .u8 0, .int .u8 0]), (111, .agg #[.int .u8 0, .int .u8 0, .int .u8 0, .int .u8 0, .int .u8 0, .int .u8 0, .int .u8 0, .int .u8 0, .int .u8 0, .int .u8 0, .int .u8 0, .int .u8 0, .int .u8 0, .int .u8 0, .int .u8 0, .int .u8 0, .int .u8 0, .int .u8 0, .int .u8 0, .int .u8 0, .int .u8 0, .int .u8 0, .int .u8 0, .int .u8 0, .int .u8 0, .int .u8 0, .int .u8 0, .int .u8 0, .int .u8 0, .int .u8 0, .int .u8 0, .int .u8 0]), (115, .nilFunc), (118, .slice none 0 0), (121, .agg #[.string (strB ([])), .bool false]), (135, .agg #[.int .i64 0, .int .i64 0]), (138, .agg #[.int .i64 0, .int .i64 0, .int .i64 0, .int .i64 0, .slice none 0 0, .int .i64 0, .int .i64 0, .int .i64 0, .int .i64 0]), (146, .agg #[.int .i64 0, .slice none 0 0, .slice none 0 0, .slice none 0 0, .int .i64 0]), (151, .agg #[.slice none 0 0, .slice none 0 0, .slice none 0 0]), (157, .agg #[.nilFunc, .nilFunc, .nilFunc, .nilFunc, .int .i64 0]), (162, .agg #[.int .i64 0, .int .i64 0, .int .i64 0, .int .i64 0]), (167, .agg #[.int .i64 0, .int .i64 0, .int .i64 0, .int .i64 0, .int .i64 0, .int .i64 0, .int .i64 0, .int .i64 0, .int .i64 0, .int .i64 0, .slice none 0 0]), (182, .agg #[.int .u8 0, .int .u8 0]), (188, .agg #[.int .i64 0, .slice none 0 0, .slice none 0 0, .slice none 0 0]), (214, .agg #[.pointer none, .slice none 0 0]), (227, .agg #[.int .u64 0, .int .u64 0, .int .u64 0, .int .u64 0]), (235, .agg #[.int .i64 0, .int .i64 0, .int .i64 0, .int .i64 0, .int .i64 0, .int .i64 0]), (258, .agg #[.int .i64 0, .int .i64 0, .int .i64 0, .int .i64 0, .int .i64 0, .int .i64 0]), (280, .agg #[.int .i64 0, .int .i64 0, .int .i64 0, .int .i64 0, .int .i64 0, .int .i64 0, .int .i64 0, .int .i64 0, .int .i64 0, .int .i64 0, .slice none 0 0, .map none, .slice none 0 0]), (283, .agg #[.int .i64 0, .int .i64 0]), (317, .agg #[.int .i64 0, .int .i64 0]), (319, .agg #[.int .i64 0, .int .i64 0, .int .i64 0]), (347, .agg #[.int .u8 0, .int .u8 0, .int .u8 0, .int .u8 0, .int .u8 0, .int .u8 0, .int .u8 0, .int .u8 0, .int .u8 0, .int .u8 0, .int .u8 0, .int .u8 0, .int .u8 0, .int .u8 0, .int .u8 0, .int .u8 0, .int .u8 0, .int .u8 0, .int .u8 0, .int .u8 0, .int .u8 0, .int .u8 0, .int .u8 0, .int .u8 0]), (354, .agg #[.string (strB ([]))]), (364, .int .u64 0), (372, .agg #[.int .u64 0, .int .u64 0, .int .u64 0, .int .u64 0, .int .u64 0, .int .u64 0, .int .u64 0, .int .u64 0, .int .u64 0, .int .u64 0, .int .u64 0, .int .u64 0, .int .u64 0, .int .u64 0, .int .u64 0, .int .u64 0, .int .u64 0, .int .u64 0, .int .u64 0, .int .u64 0]), (381, .agg #[.int .u8 0, .int .u8 0]), (382, .agg #[.int .u8 0, .int .u8 0, .int .u8 0, .int .u8 0, .int .u8 0, .int .u8 0, .int .u8 0, .int .u8 0, .int .u8 0, .int .u8 0, .int .u8 0, .int .u8 0, .int .u8 0, .int .u8 0, .int .u8 0, .int .u8 0, .int .u8 0, .int .u8 0, .int .u8 0, .int .u8 0, .int .u8 0, .int .u8 0, .int .u8 0, .int .u8 0, .int .u8 0, .int .u8 0, .int .u8 0, .int .u8 0, .int .u8 0, .int .u8 0, .int .u8 0, .int .u8 0]), (384, .agg #[.int .u8 0, .int .u8 0, .int .u8 0, .int .u8 0, .int .u8 0, .int .u8 0, .int .u8 0, .int .u8 0, .int .u8 0, .int .u8 0, .int .u8 0, .int .u8 0, .int .u8 0, .int .u8 0, .int .u8 0, .int .u8 0, .int .u8 0, .int .u8 0, .int .u8 0, .int .u8 0, .int .u8 0, .int .u8 0, .int .u8 0, .int .u8 0, .int .u8 0, .int .u8 0, .int .u8 0, .int .u8 0, .int .u8 0, .int .u8 0, .int .u8 0, .int .u8 0, .int .u8 0, .int .u8 0, .int .u8 0, .int .u8 0, .int .u8 0, .int .u8 0, .int .u8 0, .int .u8 0, .int .u8 0, .int .u8 0, .int .u8 0, .int .u8 0, .int .u8 0, .int .u8 0, .int .u8 0, .int .u8 0, .int .u8 0, .int .u8 0, .int .u8 0, .int .u8 0, .int .u8 0, .int .u8 0, .int .u8 0, .int .u8 0, .int .u8 0, .int .u8 0, .int .u8 0, .int .u8 0, .int .u8 0, .int .u8 0, .int .u8 0, .int .u8 0])]
instance : TbC Tryz.prog := ⟨tb, fun _ => by kernel_rfl, fun _ => by kernel_rfl, fun _ => by kernel_rfl, fun _ => by kernel_rfl, by kernel_rfl, fun _ => by kernel_rfl, by kernel_rfl⟩
end Go.Proofs.YtagmkfbbhfaceaaGreatDoor
namespace Go.Proofs.YtagmkfbbhfaceaaGreatDoor
open Go Go.RowKit Go.ChangeShapes Go.WideShapes Go.ChangeAt

variable {H : Type} {enc : TypeId × Value → H} {P : Program} {w : World} {t e : TypeId} {cs : List Value}

/-- These cells read at type t. -/
def Rd (enc : TypeId × Value → H) (P : Program) (w : World) (t : TypeId) (cs : List Value) : Prop := ∃ fuel x, DataW.trod enc P w 0 (fun _ => true) true fuel t cs = some x

theorem Rd.of {v : Value} {d : DataW H} {p : List MemPlace} (h : DataW.Trod enc P w 0 (fun _ => true) true t v d p) : Rd enc P w t v.cells.toList := by
  obtain ⟨fuel, hf⟩ := h
  exact ⟨fuel, _, hf⟩

theorem Rd.int (ht : P.underlying t = some (.int .i64)) (h : Rd enc P w t cs) : ∃ n : Int, cs = [.int .i64 n] ∧ (-9223372036854775808 ≤ n ∧ n ≤ 9223372036854775807) := by
  obtain ⟨fuel, x, hf⟩ := h
  obtain ⟨n, h1, _, h2⟩ := DataW.trod_int ht hf
  refine ⟨n, h1, ?_⟩
  simp [Lit.wf] at h2
  have e : IntKind.i64.min = -9223372036854775808 := rfl
  omega

theorem Rd.bool (ht : P.underlying t = some .bool) (h : Rd enc P w t cs) : ∃ b : Bool, cs = [.bool b] := by
  obtain ⟨fuel, x, hf⟩ := h
  obtain ⟨b, h1, _⟩ := DataW.trod_bool ht hf
  exact ⟨b, h1⟩

theorem Rd.struct {fs : Array Field} (ht : P.underlying t = some (.struct fs)) (h : Rd enc P w t cs) : cs.length = P.cellsOf t ∧ ∀ (i : Nat) (f : Field), fs[i]? = some f → Rd enc P w f.type ((cs.drop f.offset).take (P.cellsOf f.type)) := by
  obtain ⟨fuel, x, hf⟩ := h
  obtain ⟨xs, n, _, _, h1, h2, h3⟩ := DataW.trod_struct ht hf
  refine ⟨h1, fun i f hi => ?_⟩
  have h4 := h3 i f hi
  have hlt : i < xs.length := by rw [h2]; exact (Array.getElem?_eq_some_iff.1 hi).1
  exact ⟨n, xs[i], by rw [h4]; simp [hlt]⟩

theorem Rd.array {n : Nat} (ht : P.underlying t = some (.array n e)) (h : Rd enc P w t cs) : cs.length = P.cellsOf t ∧ ∀ i, i < n → Rd enc P w e ((cs.drop (i * P.cellsOf e)).take (P.cellsOf e)) := by
  obtain ⟨fuel, x, hf⟩ := h
  obtain ⟨xs, m, _, _, h1, h2, h3⟩ := DataW.trod_array ht hf
  refine ⟨h1, fun i hi => ?_⟩
  exact ⟨m, xs[i], by rw [h3 i hi]; simp [show i < xs.length by omega]⟩

/-- A slice that came in: each element's cells read at the element's type. -/
theorem Rd.slice (ht : P.underlying t = some (.slice e)) (hk : 0 < P.cellsOf e) (h : Rd enc P w t cs) : ∃ ao len cap, cs = [.slice ao len cap] ∧ len ≤ cap ∧ cap ≤ maxLen ∧
    (0 < len → ∃ b o, ao = some ⟨b, o, none⟩ ∧ b < w.heap.size ∧ ∀ i, i < len → ∃ cs', cs'.length = P.cellsOf e ∧ At w b (o + i * P.cellsOf e) cs' ∧ Rd enc P w e cs') := by
  obtain ⟨fuel, x, hf⟩ := h
  rcases Go.Deep.open_slice ht hf with ⟨h1, _⟩ | ⟨a, len, cap, m, n, D, Pl, h1, _, h2, h3, hm, _, h4⟩
  · exact ⟨none, 0, 0, h1, Nat.le_refl _, by decide, fun h => absurd h (Nat.lt_irrefl _)⟩
  · refine ⟨some a, len, cap, h1, h2, h3, fun hp => ?_⟩
    have hlm : len ≤ m := by rw [hm]; simp; exact h2
    have cell : ∀ i, i < len → ∃ cs', w.cells? 0 (a.add (i * P.cellsOf e)) (P.cellsOf e) = some cs' ∧ Rd enc P w e cs' := fun i hi => by
      obtain ⟨cs', q1, q2⟩ := h4 i (by omega)
      exact ⟨cs', q1, n, _, q2⟩
    obtain ⟨c0, q1, _⟩ := cell 0 hp
    obtain ⟨_, hl0, hc0⟩ := World.cells?_some q1
    have hfirst : w.cell? a = c0[0]? := by
      have := hc0 0 hk
      simpa [Addr.add] using this
    have hsp : a.spot = none := World.cell?_spot (by rw [hfirst]; exact List.getElem?_eq_getElem (by omega))
    obtain ⟨b, o, sp⟩ := a
    obtain rfl : sp = none := hsp
    refine ⟨b, o, rfl, World.cells?_block (by simpa [addr_add] using q1) hk, fun i hi => ?_⟩
    obtain ⟨cs', r1, r2⟩ := cell i hi
    obtain ⟨_, hl1, hc1⟩ := World.cells?_some r1
    refine ⟨cs', hl1, fun j v hj => ?_, r2⟩
    have hjl : j < P.cellsOf e := by rw [← hl1]; exact (List.getElem?_eq_some_iff.1 hj).1
    have := hc1 j hjl
    rw [addr_add, addr_add] at this
    rw [this, hj]

/-- A field of a struct that came in. -/
theorem Rd.fld {fs : Array Field} {f : Field} {u : TypeId} {o n : Nat} (ht : P.underlying t = some (.struct fs)) (h : Rd enc P w t cs) (i : Nat) (hi : fs[i]? = some f) (hu : f.type = u) (ho : f.offset = o) (hn : P.cellsOf u = n) : Rd enc P w u ((cs.drop o).take n) := by
  subst hu ho hn; exact (h.struct ht).2 i f hi

/-- An element of an array that came in. -/
theorem Rd.elt {n k : Nat} (ht : P.underlying t = some (.array n e)) (h : Rd enc P w t cs) (i : Nat) (hi : i < n) (hk : P.cellsOf e = k) : Rd enc P w e ((cs.drop (i * k)).take k) := by
  subst hk; exact (h.array ht).2 i hi

/-- A slice that came in, as a list of what its elements are. -/
theorem Rd.sl {α : Type} [Inhabited α] {enc' : α → List Value} {k : Nat} {R : α → Prop} (hk : P.cellsOf e = k) (hk0 : 0 < k) (ht : P.underlying t = some (.slice e)) (he : ∀ cs, Rd enc P w e cs → ∃ x, cs = enc' x ∧ R x) (h : Rd enc P w t cs) :
    ∃ (ao : Option Addr) (b o cap : Nat) (xs : List α), cs = [.slice ao xs.length cap] ∧ xs.length ≤ cap ∧ cap ≤ maxLen ∧ Sl enc' k w ao b o xs ∧ ∀ x ∈ xs, R x := by
  subst hk
  obtain ⟨ao, len, cap, h1, h2, h3, h4⟩ := h.slice ht hk0
  rcases Nat.eq_zero_or_pos len with h0 | h0
  · subst h0
    exact ⟨ao, 0, 0, cap, [], h1, h2, h3, Sl.nil _ _ _ _ _ _, fun x hx => by cases hx⟩
  · obtain ⟨b, o, hao, hb, hel⟩ := h4 h0
    have key : ∀ n, n ≤ len → ∃ xs : List α, xs.length = n ∧ (∀ i, i < n → At w b (o + i * P.cellsOf e) (enc' (nth xs i))) ∧ ∀ x ∈ xs, R x := by
      intro n
      induction n with
      | zero => exact fun _ => ⟨[], rfl, fun i hi => by omega, fun x hx => by cases hx⟩
      | succ n ih =>
        intro hn
        obtain ⟨xs, q1, q2, q3⟩ := ih (by omega)
        obtain ⟨cs', r1, r2, r3⟩ := hel n (by omega)
        obtain ⟨x, rfl, hx⟩ := he _ r3
        refine ⟨xs ++ [x], by simp [q1], fun i hi => ?_, fun y hy => ?_⟩
        · by_cases e : i = n
          · subst e
            have : nth (xs ++ [x]) i = x := by simp [nth, List.getD_eq_getElem?_getD, q1]
            rw [this]; exact r2
          · have : nth (xs ++ [x]) i = nth xs i := by simp [nth, List.getD_eq_getElem?_getD, List.getElem?_append_left (show i < xs.length by omega)]
            rw [this]; exact q2 i (by omega)
        · rcases List.mem_append.1 hy with hy | hy
          · exact q3 y hy
          · have : y = x := by simpa using hy
            subst this; exact hx
    obtain ⟨xs, q1, q2, q3⟩ := key len (Nat.le_refl _)
    subst q1
    exact ⟨ao, b, o, cap, xs, h1, h2, h3, ⟨fun _ => hao, fun _ => hb, q2⟩, q3⟩

end Go.Proofs.YtagmkfbbhfaceaaGreatDoor
namespace Go.Proofs.YtagmkfbbhfaceaaGreatDoor
open Go Go.RowKit
section
variable {rd : Option Nat} {P : Program} {ops : Array Oper} {Q : Exit → Act → World → Prop} {N : Nat} {ds : List Deferred} {rest : List Oper} {L : Slots} {w : World}
variable {d : Nat} {ty : TypeId} {pos : String} {aft : Array Edge} {g : Option (Nat × Bool)}
theorem t_ariW {op : BinOp} {xt yt : TypeId} {x y : Operand} {m n r : Int} (hg : grd ops L g = true) (hN : Nat.blt d N = true)
    (hx : ev L x = some (.int .u64 m)) (hy : ev L y = some (.int .u64 n)) (hv : ariI op m n = some r) (hr : 0 ≤ r ∧ r ≤ 18446744073709551615)
    (h : WL rd P ops Q N ds rest ((d, .int .u64 r) :: L) w) : WL rd P ops Q N ds (⟨some d, .binOp op xt x y yt, ty, pos, aft, g⟩ :: rest) L w :=
  WL.value hg rfl hN (fun a ha => by
    have e1 := ha.ev hx
    have e2 := ha.ev hy
    have e3 := IntWalk.u64_in r hr
    cases op <;> simp [ariI] at hv <;> subst hv <;> simp [execOp, e1, e2, eqGuard, binOp, Op.intArith, e3]) h
theorem t_and32 {xt yt : TypeId} {x y : Operand} {m : Int} (hg : grd ops L g = true) (hN : Nat.blt d N = true) (hx : ev L x = some (.int .u64 m)) (hy : ev L y = some (.int .u64 4294967295)) (h0 : 0 ≤ m ∧ m ≤ 4294967295)
    (h : WL rd P ops Q N ds rest ((d, .int .u64 m) :: L) w) : WL rd P ops Q N ds (⟨some d, .binOp .and xt x y yt, ty, pos, aft, g⟩ :: rest) L w :=
  WL.value hg rfl hN (fun a ha => by
    have e : bits BinOp.and IntKind.u64 m 4294967295 = m := by
      have e1 : m.toNat &&& 4294967295 = m.toNat := by
        have := Nat.and_two_pow_sub_one_eq_mod m.toNat 32
        rw [show (2 ^ 32 - 1 : Nat) = 4294967295 from rfl] at this
        rw [this]; omega
      have e4 := IntWalk.u64_in m (by omega)
      have e5 : (m % 2 ^ IntKind.u64.bits).toNat &&& 4294967295 % 2 ^ IntKind.u64.bits = m.toNat := by
        show (m % 18446744073709551616).toNat &&& 4294967295 = m.toNat
        rw [Int.emod_eq_of_lt h0.1 (by omega)]
        exact e1
      unfold bits
      simp
      rw [e5, Int.toNat_of_nonneg h0.1]
      exact e4
    simp [execOp, ha.ev hx, ha.ev hy, eqGuard, binOp, Op.intBits]
    exact e) h
theorem t_shr32 {xt yt : TypeId} {x y : Operand} {k' : IntKind} {m : Int} (hg : grd ops L g = true) (hN : Nat.blt d N = true) (hx : ev L x = some (.int .u64 m)) (hy : ev L y = some (.int k' 32)) (_h0 : 0 ≤ m)
    (h : WL rd P ops Q N ds rest ((d, .int .u64 (m / 4294967296)) :: L) w) : WL rd P ops Q N ds (⟨some d, .binOp .shr xt x y yt, ty, pos, aft, g⟩ :: rest) L w :=
  WL.value hg rfl hN (fun a ha => by
    have e : m.fdiv 4294967296 = m / 4294967296 := Int.fdiv_eq_ediv_of_nonneg m (by decide)
    simp [execOp, ha.ev hx, ha.ev hy, eqGuard, binOp, Op.shift, IntKind.bits, e]) h
theorem t_quoW {xt yt : TypeId} {x y : Operand} {m n : Int} (hg : grd ops L g = true) (hN : Nat.blt d N = true)
    (hx : ev L x = some (.int .u64 m)) (hy : ev L y = some (.int .u64 n)) (h1 : 0 ≤ m ∧ m ≤ 18446744073709551615) (h2 : 1 ≤ n)
    (h : WL rd P ops Q N ds rest ((d, .int .u64 (m / n)) :: L) w) : WL rd P ops Q N ds (⟨some d, .binOp .quo xt x y yt, ty, pos, aft, g⟩ :: rest) L w :=
  WL.value hg rfl hN (fun a ha => by
    have e1 := ha.ev hx
    have e2 := ha.ev hy
    have e5 : m.tdiv n = m / n := Int.tdiv_eq_ediv_of_nonneg h1.1
    have e6 : 0 ≤ m / n ∧ m / n ≤ m := ⟨Int.ediv_nonneg h1.1 (by omega), Int.ediv_le_self n h1.1⟩
    have e3 : IntKind.u64.wrap (m.tdiv n) = m / n := by rw [e5]; exact IntWalk.u64_in _ (by omega)
    have e4 : n ≠ 0 := by omega
    simp [execOp, e1, e2, eqGuard, binOp, Op.intDiv, e3, e4]) h
end
end Go.Proofs.YtagmkfbbhfaceaaGreatDoor
namespace Go.Proofs.YtagmkfbbhfaceaaGreatDoor
open Go Go.RowKit
theorem wrap_u64 (x : Int) : IntKind.u64.wrap x = x % 18446744073709551616 := rfl
section
variable {rd : Option Nat} {P : Program} {ops : Array Oper} {Q : Exit → Act → World → Prop} {N : Nat} {ds : List Deferred} {rest : List Oper} {L : Slots} {w : World}
variable {d : Nat} {ty : TypeId} {pos : String} {aft : Array Edge} {g : Option (Nat × Bool)}
theorem t_ariM {op : BinOp} {xt yt : TypeId} {x y : Operand} {m n r0 r : Int} (hr : r0 % 18446744073709551616 = r) (hg : grd ops L g = true) (hN : Nat.blt d N = true)
    (hx : ev L x = some (.int .u64 m)) (hy : ev L y = some (.int .u64 n)) (hv : ariI op m n = some r0)
    (h : WL rd P ops Q N ds rest ((d, .int .u64 r) :: L) w) : WL rd P ops Q N ds (⟨some d, .binOp op xt x y yt, ty, pos, aft, g⟩ :: rest) L w :=
  WL.value hg rfl hN (fun a ha => by
    have e1 := ha.ev hx
    have e2 := ha.ev hy
    have e3 : IntKind.u64.wrap r0 = r := (wrap_u64 r0).trans hr
    cases op <;> simp [ariI] at hv <;> subst hv <;> simp [execOp, e1, e2, eqGuard, binOp, Op.intArith, e3]) h
theorem t_shlM {xt yt : TypeId} {x y : Operand} {k' : IntKind} {m r : Int} (s : Nat) (hs : s ≤ 63) (hr : m * 2 ^ s % 18446744073709551616 = r) (hg : grd ops L g = true) (hN : Nat.blt d N = true) (hx : ev L x = some (.int .u64 m)) (hy : ev L y = some (.int k' (s : Int)))
    (h : WL rd P ops Q N ds rest ((d, .int .u64 r) :: L) w) : WL rd P ops Q N ds (⟨some d, .binOp .shl xt x y yt, ty, pos, aft, g⟩ :: rest) L w :=
  WL.value hg rfl hN (fun a ha => by
    have e3 : IntKind.u64.wrap (m * 2 ^ min s 64) = r := by rw [Nat.min_eq_left (by omega)]; exact (wrap_u64 _).trans hr
    have e4 : ¬ ((s : Int) < 0) := by omega
    simp [execOp, ha.ev hx, ha.ev hy, eqGuard, binOp]
    first | exact e3 | exact (wrap_u64 _).trans hr) h
theorem t_shrM {xt yt : TypeId} {x y : Operand} {k' : IntKind} {m n r : Int} (s : Nat) (hn : n = (s : Int)) (hs : s ≤ 64) (_h0 : 0 ≤ m) (hr : m / 2 ^ s = r) (hg : grd ops L g = true) (hN : Nat.blt d N = true) (hx : ev L x = some (.int .u64 m)) (hy : ev L y = some (.int k' n))
    (h : WL rd P ops Q N ds rest ((d, .int .u64 r) :: L) w) : WL rd P ops Q N ds (⟨some d, .binOp .shr xt x y yt, ty, pos, aft, g⟩ :: rest) L w :=
  WL.value hg rfl hN (fun a ha => by
    subst hn
    have e3 : m.fdiv (2 ^ min s 64) = r := by rw [Nat.min_eq_left hs, ← hr]; exact Int.fdiv_eq_ediv_of_nonneg m (Int.le_of_lt (Int.pow_pos (by decide)))
    have e4 : ¬ ((s : Int) < 0) := by omega
    simp [execOp, ha.ev hx, ha.ev hy, eqGuard, binOp]
    first | exact e3 | exact hr) h
theorem bits_and64 {m n : Nat} (hm : m < 18446744073709551616) (hn : n < 18446744073709551616) : bits .and IntKind.u64 (m : Int) (n : Int) = IntKind.u64.wrap ((m &&& n : Nat) : Int) := by
  have e1 : ((m : Int) % 18446744073709551616).toNat = m := by omega
  have e2 : ((n : Int) % 18446744073709551616).toNat = n := by omega
  show IntKind.u64.wrap (((BitVec.ofInt 64 (m : Int) &&& BitVec.ofInt 64 (n : Int)).toNat : Nat) : Int) = _
  rw [BitVec.toNat_and, BitVec.toNat_ofInt, BitVec.toNat_ofInt]
  show IntKind.u64.wrap (((((m : Int) % 18446744073709551616).toNat &&& ((n : Int) % 18446744073709551616).toNat : Nat)) : Int) = _
  rw [e1, e2]
theorem bits_or64 {m n : Nat} (hm : m < 18446744073709551616) (hn : n < 18446744073709551616) : bits .or IntKind.u64 (m : Int) (n : Int) = IntKind.u64.wrap ((m ||| n : Nat) : Int) := by
  have e1 : ((m : Int) % 18446744073709551616).toNat = m := by omega
  have e2 : ((n : Int) % 18446744073709551616).toNat = n := by omega
  show IntKind.u64.wrap (((BitVec.ofInt 64 (m : Int) ||| BitVec.ofInt 64 (n : Int)).toNat : Nat) : Int) = _
  rw [BitVec.toNat_or, BitVec.toNat_ofInt, BitVec.toNat_ofInt]
  show IntKind.u64.wrap (((((m : Int) % 18446744073709551616).toNat ||| ((n : Int) % 18446744073709551616).toNat : Nat)) : Int) = _
  rw [e1, e2]
theorem t_andM {xt yt : TypeId} {x y : Operand} {m : Int} (hg : grd ops L g = true) (hN : Nat.blt d N = true) (hx : ev L x = some (.int .u64 m)) (hy : ev L y = some (.int .u64 4294967295)) (h0 : 0 ≤ m ∧ m ≤ 18446744073709551615)
    (h : WL rd P ops Q N ds rest ((d, .int .u64 (m % 4294967296)) :: L) w) : WL rd P ops Q N ds (⟨some d, .binOp .and xt x y yt, ty, pos, aft, g⟩ :: rest) L w :=
  WL.value hg rfl hN (fun a ha => by
    have e : bits BinOp.and IntKind.u64 m 4294967295 = m % 4294967296 := by
      have h1 := bits_and64 (m := m.toNat) (n := 4294967295) (by omega) (by decide)
      rw [Int.toNat_of_nonneg h0.1] at h1
      rw [show (4294967295 : Int) = ((4294967295 : Nat) : Int) from rfl, h1]
      have h2 := Nat.and_two_pow_sub_one_eq_mod m.toNat 32
      rw [show (2 ^ 32 - 1 : Nat) = 4294967295 from rfl, show (2 ^ 32 : Nat) = 4294967296 from rfl] at h2
      rw [h2, wrap_u64]; omega
    simp [execOp, ha.ev hx, ha.ev hy, eqGuard, binOp, Op.intBits]
    exact e) h
theorem t_orM {xt yt : TypeId} {x y : Operand} {m n : Int} (a s : Nat) (hm : m = ((2 ^ s * a : Nat) : Int)) (hn : 0 ≤ n ∧ n < 2 ^ s) (hb : m + n ≤ 18446744073709551615) (hg : grd ops L g = true) (hN : Nat.blt d N = true) (hx : ev L x = some (.int .u64 m)) (hy : ev L y = some (.int .u64 n))
    (h : WL rd P ops Q N ds rest ((d, .int .u64 (m + n)) :: L) w) : WL rd P ops Q N ds (⟨some d, .binOp .or xt x y yt, ty, pos, aft, g⟩ :: rest) L w :=
  WL.value hg rfl hN (fun ac ha => by
    have hn2 : n.toNat < 2 ^ s := by
      have e : ((2 ^ s : Nat) : Int) = (2 : Int) ^ s := by simp
      have := hn.2
      rw [← e] at this; omega
    have e : bits BinOp.or IntKind.u64 m n = m + n := by
      have h1 := bits_or64 (m := 2 ^ s * a) (n := n.toNat) (by omega) (by omega)
      rw [Int.toNat_of_nonneg hn.1, ← hm] at h1
      rw [h1]
      rw [← Nat.two_pow_add_eq_or_of_lt hn2, wrap_u64, Int.natCast_add, ← hm, Int.toNat_of_nonneg hn.1]; omega
    simp [execOp, ha.ev hx, ha.ev hy, eqGuard, binOp, Op.intBits]
    exact e) h
end
end Go.Proofs.YtagmkfbbhfaceaaGreatDoor
namespace Go.Proofs.YtagmkfbbhfaceaaGreatDoor
open Go Go.RowKit

/-- Only draws, and blocks that are new. -/
def Gr (w w' : World) : Prop := w'.os = w.os ∧ w'.tape = w.tape ∧ w'.output = w.output ∧ w.drawn ≤ w'.drawn ∧ ∃ os : Array Obj, w'.heap = w.heap ++ os
theorem Gr.refl (w : World) : Gr w w := ⟨rfl, rfl, rfl, Nat.le_refl _, #[], by simp⟩
theorem Gr.trans {a b c : World} (h : Gr a b) (k : Gr b c) : Gr a c := by
  obtain ⟨h1, h2, h3, h4, x, h5⟩ := h
  obtain ⟨k1, k2, k3, k4, y, k5⟩ := k
  exact ⟨k1.trans h1, k2.trans h2, k3.trans h3, Nat.le_trans h4 k4, x ++ y, by rw [k5, h5, Array.append_assoc]⟩
theorem Gr.alloc (w : World) (o : Obj) : Gr w (w.alloc o) := ⟨rfl, rfl, rfl, Nat.le_refl _, #[o], by show w.heap.push o = _; simp⟩
theorem Gr.drew (w : World) : Gr w w.drew := ⟨rfl, rfl, rfl, Nat.le_succ _, #[], by show w.heap = _; simp⟩

section
variable {P : Program} {ops : Array Oper} {Q : Exit → Act → World → Prop} {N : Nat} {ds : List Deferred} {rest : List Oper} {L : Slots} {w : World} {rd : Option Nat} {d : Nat} {ty : TypeId} {pos : String} {aft : Array Edge} {g : Option (Nat × Bool)}
theorem t_boxG {e : TypeId} {x : Operand} {v : Value} {cs : List Value} (hg : grd ops L g = true) (hN : Nat.blt d N = true) (hx : ev L x = some v) (hc : v.cells = cs.toArray)
    (h : ∀ b w', b = w.heap.size → w'.heap.size = w.heap.size + 1 → Blk w' b e cs → Ext w w' → Gr w w' → WL rd P ops Q N ds rest ((d, .pointer (some ⟨b, 0, none⟩)) :: L) w') :
    WL rd P ops Q N ds (⟨some d, .box e x, ty, pos, aft, g⟩ :: rest) L w :=
  WL.value (w' := w.alloc (.cells cs.toArray e)) hg rfl hN (fun a hk => by simp [execOp, hk.ev hx, Instr.box, newVar, newRow, newObj, Sem.run, hc]) (h _ _ rfl (by simp) (Blk.new _ _ _) (Upd.alloc _ _) (Gr.alloc _ _))
theorem t_bsliceG {t e : TypeId} {n : Nat} {parts : Array (Nat × Operand)} {ps : List (Nat × Value)} {cs : List Value} (hg : grd ops L g = true) (hN : Nat.blt d N = true)
    (hp : evs L (parts.toList.map (·.2)) = some (ps.map (·.2)) ∧ parts.toList.map (·.1) = ps.map (·.1))
    (hr : ∀ w, (Instr.buildSlice t n ps.toArray).run P w = .ok (.slice (some ⟨w.heap.size, 0, none⟩) n n) (w.alloc (.cells cs.toArray e)))
    (h : ∀ b w', b = w.heap.size → w'.heap.size = w.heap.size + 1 → Blk w' b e cs → Ext w w' → Gr w w' → WL rd P ops Q N ds rest ((d, .slice (some ⟨b, 0, none⟩) n n) :: L) w') :
    WL rd P ops Q N ds (⟨some d, .buildSlice t n parts, ty, pos, aft, g⟩ :: rest) L w :=
  WL.value hg rfl hN (fun a hk => by
    have e : parts.map (fun (i, x) => (i, a.eval x)) = ps.toArray := parts_ev hk hp.1 hp.2
    simp only [execOp]
    rw [e]
    simp [hr]) (h _ _ rfl (by simp) (Blk.new _ _ _) (Upd.alloc _ _) (Gr.alloc _ _))
theorem c_drawnMG {id : Nat} {L0 : Slots} {l : List Oper} (hm : P.follows .mixedOrders = true) (T : Nat → Prop) (t : OT) (hc : (l.all plainB && t.ok l (List.range l.length) []) = true)
    (h : ∀ w1, Ext w w1 → Gr w w1 → SC rd P l.toArray Q N ds w1 (SW w1.heap.size T) (OX.of l t) L0 w1) : WC rd P Q N ds (.region id l.toArray true) L0 w := by
  simp only [Bool.and_eq_true] at hc
  obtain ⟨h1, h2⟩ := hc
  refine ⟨fun a ha => ?_⟩
  refine wpIn_region_any hm (wAny.any ((SC.run (S := SW w.drew.heap.size T) (w1 := w.drew) ?_ ?_ t (List.range l.length) [] _ a _ L0 _ (by simp) (fun j hj => List.mem_range.1 hj) (fun j hj => ?_) h2 (by simp) (Upd.refl _ _) ha (h w.drew (Upd.drew _) (Gr.drew _))).1 rfl))
  · intro j o cs b ho he
    have := List.all_eq_true.1 h1 o (List.mem_of_getElem? (by simpa using ho))
    simp [plainB, he] at this
  · intro j o c ho he
    have := List.all_eq_true.1 h1 o (List.mem_of_getElem? (by simpa using ho))
    simp [plainB, he] at this
  · rw [Array.getD_eq_getD_getElem?]
    simp [hj]
end
end Go.Proofs.YtagmkfbbhfaceaaGreatDoor
namespace Go.Proofs.YtagmkfbbhfaceaaGreatDoor
open Go Go.RowKit

theorem Acc.lit {α : Type} (enc : α → List Value) (k : Nat) {e : TypeId} {base : Nat} {w : World} {b : Nat} (h : Blk w b e []) (hb : base ≤ b) : Acc enc k e base w (some ⟨b, 0, none⟩) b 0 [] :=
  ⟨h.lt, .inr ⟨rfl, hb, #[], h, Nat.le_refl _, by decide, by simp, by simp⟩⟩

theorem sl_cells {α : Type} [Inhabited α] {enc : α → List Value} {k : Nat} (hk0 : 0 < k) (hk : ∀ x, (enc x).length = k) {w : World} {ao : Option Addr} {b o : Nat} {xs : List α} (h : Sl enc k w ao b o xs) : ∀ j u, (xs.flatMap enc)[j]? = some u → w.cell? (Addr.add ⟨b, o, none⟩ j) = some u := by
  intro j u hj
  have hlt : j < xs.length * k := by
    rw [← flatMap_len hk xs]
    exact (List.getElem?_eq_some_iff.1 hj).1
  have hi : j / k < xs.length := (Nat.div_lt_iff_lt_mul hk0).2 hlt
  have hm : j % k < k := Nat.mod_lt _ hk0
  have h2 := flatMap_at hk xs (j / k) (j % k) ((enc (nth xs (j / k)))[j % k]'(by rw [hk]; exact hm)) hi (by simp [hk, hm])
  rw [Nat.div_add_mod'] at h2
  rw [h2] at hj
  cases hj
  have := h.at_ (j / k) hi (j % k) ((enc (nth xs (j / k)))[j % k]'(by rw [hk]; exact hm)) (by simp [hk, hm])
  rw [addr_add]
  rwa [Nat.add_assoc, Nat.div_add_mod'] at this

section
variable {rd : Option Nat} {P : Program} {ops : Array Oper} {Q : Exit → Act → World → Prop} {N : Nat} {ds : List Deferred} {rest : List Oper} {L : Slots} {w : World}
variable {d : Nat} {ty : TypeId} {pos : String} {aft : Array Edge} {g : Option (Nat × Bool)}

theorem t_appendAll {α : Type} [Inhabited α] {enc : α → List Value} {k : Nat} {t e : TypeId} {z : Value} {bytes base : Nat} {s x : Operand} {ao ay : Option Addr} {gb cap b o c : Nat} {xs ys : List α}
    (hu : P.underlying t = some (.slice e)) (hi : (P.info? e).map (fun i => (i.zero, i.size, i.bytes)) = some (some z, k, bytes)) (hz : z.cells.size = k) (hk0 : 0 < k) (hk : ∀ x, (enc x).length = k) (h1 : ∀ x, ∀ u ∈ enc x, u.oneCell' = true)
    (hg : grd ops L g = true) (hN : Nat.blt d N = true) (hs : ev L s = some (.slice ao xs.length cap)) (hx : ev L x = some (.slice ay ys.length c))
    (ha : Acc enc k e base w ao gb cap xs) (hb : Sl enc k w ay b o ys) (hbase : base ≤ w.heap.size) (hlen : xs.length ≤ 1000000) (hlen2 : ys.length ≤ 1000000) (hbytes : bytes ≤ 1000)
    (h : ∀ ao' g' cap' w', Acc enc k e base w' ao' g' cap' (xs ++ ys) → Upd (fun i => i = gb ∧ base ≤ i) w w' → (g' = gb ∨ w.heap.size ≤ g') → (xs ++ ys).length = xs.length + ys.length → WL rd P ops Q N ds rest ((d, .slice ao' (xs ++ ys).length cap') :: L) w') :
    WL rd P ops Q N ds (⟨some d, .call ⟨.builtin .append, #[s, x], #[t, t]⟩, ty, pos, aft, g⟩ :: rest) L w := by
  obtain ⟨i, hi0, hi1, hi2, hi3⟩ := info_parts' hi
  have hlen' : (xs ++ ys).length = xs.length + ys.length := by simp
  rcases Nat.eq_zero_or_pos ys.length with h0 | h0
  · have : ys = [] := List.eq_nil_of_length_eq_zero h0
    subst this
    have hle := ha.cap_le
    have hr : (Builtin.append_ #[t, t] ty #[.slice ao xs.length cap, .slice ay ([] : List α).length c]).run P w = .ok (.slice ao xs.length cap) w := by
      cases ao <;> cases ay <;> simp [Builtin.append_, run_underlying hu, sizeOf, typeInfo, hi0, Builtin.lenOf, Builtin.firstCells, loadCells, loadCellsFrom, storeCells, hle]
    have hacc : Acc enc k e base w ao gb cap (xs ++ []) := by simpa using ha
    have := h ao gb cap w hacc (Upd.refl _ _) (.inl rfl) hlen'
    rw [show (xs ++ ([] : List α)).length = xs.length from by simp] at this
    exact WL.value hg rfl hN (fun a hk' => by
      have hx' : a.eval x = .slice ay 0 c := hk'.ev hx
      have hr' : (Builtin.append_ #[t, t] ty #[.slice ao xs.length cap, .slice ay 0 c]).run P w = .ok (.slice ao xs.length cap) w := hr
      simp only [execOp, resolve, invoke, builtin]
      simp [hk'.ev hs, hx', hr']) this
  · have hay := hb.addr h0
    subst hay
    obtain ⟨gg, cc, w', hr, hown, hgrow, hgeq⟩ := run_append_lies (P := P) (w := w) t ty base e i z k bytes hu hi0 hi1 hi2 hi3 hz hk0 (.slice ao xs.length cap) xs.length (xs.flatMap enc) (ha.owns hk)
      ⟨b, o, none⟩ ys.length c (ys.flatMap enc) (flatMap_len hk ys) (sl_cells hk0 hk hb) (fun u hu => by
        obtain ⟨y, _, hy⟩ := List.mem_flatMap.1 hu
        exact h1 y u hy) h0 (by unfold maxLen; omega) (by
        have : (xs.length + ys.length) * bytes ≤ 2000000 * 1000 := Nat.mul_le_mul (by omega) hbytes
        omega) hbase _ rfl
    have hacc : Acc enc k e base w' (some ⟨gg, 0, none⟩) gg cc (xs ++ ys) := by
      obtain ⟨hl, hown⟩ := hown
      rcases hown with ⟨hq, _⟩ | ⟨g2, cap2, cur, he, hbg, hh, hc1, hc2, hc3, hc4⟩
      · cases hq
      · cases he
        refine ⟨?_, .inr ⟨rfl, hbg, cur, hh, by rw [hlen']; exact hc1, hc2, hc3, ?_⟩⟩
        · rcases Nat.lt_or_ge gg w'.heap.size with h | h
          · exact h
          · rw [Array.getElem?_eq_none h] at hh; cases hh
        · rw [hlen']; simpa using hc4
    have hupd : Upd (fun i => i = gb ∧ base ≤ i) w w' := ⟨hgrow.os, hgrow.tape, hgrow.output, hgrow.size, fun q hq hn => hgrow.block q hq (fun he => by
      rcases ha.at_ with ⟨h1, _, _, _⟩ | ⟨h1, h2, _⟩
      · subst h1; cases he
      · subst h1; simp [Value.ownBlock] at he; exact hn ⟨he, by omega⟩)⟩
    have hge : gg = gb ∨ w.heap.size ≤ gg := by
      rcases hgeq with h | h
      · left
        rcases ha.at_ with ⟨h1, _, _, _⟩ | ⟨h1, h2, _⟩
        · subst h1; simp [Value.ownBlock] at h
        · subst h1; simp [Value.ownBlock] at h; omega
      · right; omega
    have := h _ _ _ w' hacc hupd hge hlen'
    rw [hlen'] at this
    refine WL.value hg rfl hN (fun a hk' => ?_) this
    simp only [execOp, resolve, invoke, builtin]
    simp [hk'.ev hs, hk'.ev hx, hr]

/-- append([]E{}, xs...): a copy. -/
theorem t_copy {α : Type} [Inhabited α] {enc : α → List Value} {k : Nat} {t e : TypeId} {z : Value} {bytes bk : Nat} {s x : Operand} {ay : Option Addr} {b o c : Nat} {ys : List α}
    (hu : P.underlying t = some (.slice e)) (hi : (P.info? e).map (fun i => (i.zero, i.size, i.bytes)) = some (some z, k, bytes)) (hz : z.cells.size = k) (hk0 : 0 < k) (hk : ∀ x, (enc x).length = k) (h1 : ∀ x, ∀ u ∈ enc x, u.oneCell' = true)
    (hg : grd ops L g = true) (hN : Nat.blt d N = true) (hs : ev L s = some (.slice (some ⟨bk, 0, none⟩) 0 0)) (hx : ev L x = some (.slice ay ys.length c))
    (hB : Blk w bk e []) (hb : Sl enc k w ay b o ys) (hlen2 : ys.length ≤ 1000000) (hbytes : bytes ≤ 1000)
    (h : ∀ ao' g' cap' w', Acc enc k e bk w' ao' g' cap' ys → Upd (fun i => i = bk ∧ bk ≤ i) w w' → bk ≤ g' → WL rd P ops Q N ds rest ((d, .slice ao' ys.length cap') :: L) w') :
    WL rd P ops Q N ds (⟨some d, .call ⟨.builtin .append, #[s, x], #[t, t]⟩, ty, pos, aft, g⟩ :: rest) L w :=
  have hl := hB.lt
  t_appendAll (xs := ([] : List α)) (gb := bk) (cap := 0) (base := bk) hu hi hz hk0 hk h1 hg hN hs hx (Acc.lit enc k hB (Nat.le_refl _)) hb (Nat.le_of_lt hl) (by simp) hlen2 hbytes
    fun ao' g' cap' w' ha hu' hg' _ => h ao' g' cap' w' ha hu' (by omega)

theorem Acc.ofBlk {α : Type} (enc : α → List Value) (k : Nat) (hk : ∀ x, (enc x).length = k) {e : TypeId} {base : Nat} {w : World} {b : Nat} {xs : List α} (h : Blk w b e (xs.flatMap enc)) (hb : base ≤ b) (hl : xs.length ≤ 1000000) : Acc enc k e base w (some ⟨b, 0, none⟩) b xs.length xs :=
  ⟨h.lt, .inr ⟨rfl, hb, (xs.flatMap enc).toArray, h, Nat.le_refl _, by unfold maxLen; omega, by simp [flatMap_len hk xs], List.take_of_length_le (by show (xs.flatMap enc).length ≤ _; rw [flatMap_len hk xs]; exact Nat.le_refl _)⟩⟩

end

/-- What rows of slices hold: each in a block of its own from base on and below lim, none of them g2. -/
def Fam {α β : Type} [Inhabited β] (enc : β → List Value) (k : Nat) (ga : α → Option Addr) (gb go : α → Nat) (gx : α → List β) (base g2 lim : Nat) (rows : List α) (w : World) : Prop :=
  ∀ r ∈ rows, Sl enc k w (ga r) (gb r) (go r) (gx r) ∧ (0 < (gx r).length → base ≤ gb r ∧ gb r ≠ g2 ∧ gb r < lim)
section
variable {α β : Type} [Inhabited β] {enc : β → List Value} {k : Nat} {ga : α → Option Addr} {gb go : α → Nat} {gx : α → List β} {base g2 lim : Nat} {rows : List α} {w w' : World}
theorem Fam.nil : Fam enc k ga gb go gx base g2 lim [] w := fun _ h => by cases h
theorem Fam.keep {S : Nat → Prop} (h : Fam enc k ga gb go gx base g2 lim rows w) (u : Upd S w w') (hS : ∀ i, base ≤ i → i ≠ g2 → i < lim → ¬ S i) : Fam enc k ga gb go gx base g2 lim rows w' := fun r hr => by
  obtain ⟨h1, h2⟩ := h r hr
  exact ⟨h1.keep u (fun hp => hS _ (h2 hp).1 (h2 hp).2.1 (h2 hp).2.2), h2⟩
theorem Fam.mono {lim' : Nat} (h : Fam enc k ga gb go gx base g2 lim rows w) (hl : lim ≤ lim') : Fam enc k ga gb go gx base g2 lim' rows w := fun r hr => ⟨(h r hr).1, fun hp => by have := (h r hr).2 hp; omega⟩
end
end Go.Proofs.YtagmkfbbhfaceaaGreatDoor
