/-
  Part 6 of the proof: contracts and plain laws. Conditions: none.
-/
import Derived.ChangeKeysEq
import Derived.Test.YtagmkfbbhfaceaaGreatDoorAK5
namespace Go.Proofs.YtagmkfbbhfaceaaGreatDoor
open Go Go.RowKit

theorem ys_nth {l : List UInt8} {j : Nat} (h : j < l.length) : (ys l)[j]? = some (.int .u8 ((nth l j).toNat : Int)) := by simp [ys, h, nth_eq h]
theorem ys_append (a b : List UInt8) : ys (a ++ b) = ys a ++ ys b := List.map_append
theorem ys_take (a : List UInt8) (k : Nat) : (ys a).take k = ys (a.take k) := by simp [ys, List.map_take]
theorem ys_drop (a : List UInt8) (k : Nat) : (ys a).drop k = ys (a.drop k) := by simp [ys, List.map_drop]
/-- Bytes that lie one behind the other, as elements of a slice. -/
theorem SlY.at {w : World} {b off : Nat} {l : List UInt8} (hb : b < w.heap.size) (h : At w b off (ys l)) : Sl encY 1 w (some ⟨b, off, none⟩) b off l :=
  ⟨fun _ => rfl, fun _ => hb, fun i hi j v hv => by
    cases j with
    | zero =>
      simp only [encY, List.getElem?_cons_zero, Option.some.injEq] at hv
      subst hv
      have := h i _ (ys_nth hi)
      rwa [show off + i * 1 + 0 = off + i by omega]
    | succ j => simp [encY] at hv⟩
theorem SlY.own {w : World} {b : Nat} {t : TypeId} {l : List UInt8} (h : Blk w b t (ys l)) : Sl encY 1 w (some ⟨b, 0, none⟩) b 0 l := SlY.at h.lt h.at
theorem At.ysub {w : World} {b off : Nat} {l : List UInt8} (h : At w b off (ys l)) (k n : Nat) : At w b (off + k) (ys ((l.drop k).take n)) := by
  have := h.sub k n
  rwa [ys_drop, ys_take] at this
theorem lay_all (vs cs : List Value) (h : vs.length = cs.length) : lay cs 0 vs = vs := by
  have := lay_take vs cs 0 (by omega)
  rw [Nat.zero_add, List.take_of_length_le (by rw [lay_length]; omega)] at this
  simpa using this
section
variable {rd : Option Nat} {P : Program} {ops : Array Oper} {Q : Exit → Act → World → Prop} {N : Nat} {ds : List Deferred} {rest : List Oper} {L : Slots} {w : World}
variable {d : Nat} {ty : TypeId} {pos : String} {aft : Array Edge} {g : Option (Nat × Bool)}
/-- One byte is stored. -/
theorem t_storeY {t u : TypeId} {x y : Operand} {b : Nat} {ls : List UInt8} {v : UInt8} (i : Nat) (hs : ∀ w, (sizeOf u).run P w = .ok 1 w) (hg : grd ops L g = true)
    (hx : ev L x = some (.pointer (some ⟨b, 0 + i * 1, none⟩))) (hy : ev L y = some (.int .u8 (v.toNat : Int))) (hb : Blk w b t (ys ls)) (hl : i < ls.length)
    (h : ∀ w', w'.heap.size = w.heap.size → Blk w' b t (ys (ls.set i v)) → Upd (· = b) w w' → WL rd P ops Q N ds rest L w') :
    WL rd P ops Q N ds (⟨none, .store u x y, ty, pos, aft, g⟩ :: rest) L w := by
  refine t_store (vs := [.int .u8 (v.toNat : Int)]) hs hg hx hy hb rfl rfl (by simp [ys]; omega) (by simp [Value.oneCell']) (fun w' h1 h2 h3 => h w' h1 ?_ h3)
  have : lay (ys ls) (0 + i * 1) [.int .u8 (v.toNat : Int)] = ys (ls.set i v) := by
    simp [lay, ys, List.map_set]
  rwa [this] at h2
/-- A whole array is stored. -/
theorem t_stY {t u : TypeId} {x y : Operand} {b n : Nat} {cs : List Value} {l : List UInt8} (hs : ∀ w, (sizeOf u).run P w = .ok n w) (hg : grd ops L g = true)
    (hx : ev L x = some (.pointer (some ⟨b, 0, none⟩))) (hy : ev L y = some (.agg (ys l).toArray)) (hb : Blk w b t cs) (hn : l.length = n) (hc : cs.length = n)
    (h : ∀ w', w'.heap.size = w.heap.size → Blk w' b t (ys l) → Upd (· = b) w w' → WL rd P ops Q N ds rest L w') :
    WL rd P ops Q N ds (⟨none, .store u x y, ty, pos, aft, g⟩ :: rest) L w := by
  refine t_store (vs := ys l) hs hg hx hy hb rfl (by rw [ys_length]; exact hn) (by omega) (ys_one l) (fun w' h1 h2 h3 => h w' h1 ?_ h3)
  rwa [lay_all _ _ (by rw [ys_length]; omega)] at h2
/-- A whole array is loaded. -/
theorem t_ldY {t : TypeId} {x : Operand} {n b off : Nat} {l : List UInt8} (ha : ∀ w, (isAgg t).run P w = .ok true w) (hs : ∀ w, (sizeOf t).run P w = .ok n w) (hg : grd ops L g = true) (hN : Nat.blt d N = true)
    (hx : ev L x = some (.pointer (some ⟨b, off, none⟩))) (hv : At w b off (ys l)) (hn : l.length = n) (h : WL rd P ops Q N ds rest ((d, .agg (ys l).toArray) :: L) w) : WL rd P ops Q N ds (⟨some d, .load t x, ty, pos, aft, g⟩ :: rest) L w :=
  t_loadN ha hs hg hN hx hv (by rw [ys_length]; exact hn) h
/-- A slice of an array. -/
theorem run_arrS {t e : TypeId} {n s b off : Nat} {x x1 x2 : Operand} {lo hi : Option Operand} {k k' : IntKind} {m q : Int} (i j : Nat) (hu : P.underlying t = some (.array n e)) (hs : ∀ w, (sizeOf e).run P w = .ok s w) (hx : ev L x = some (.pointer (some ⟨b, off, none⟩)))
    (hl : lo = some x1 ∧ ev L x1 = some (.int k m) ∧ m = (i : Int) ∨ lo = none ∧ i = 0) (hh : hi = some x2 ∧ ev L x2 = some (.int k' q) ∧ q = (j : Int) ∨ hi = none ∧ j = n) (hij : i ≤ j) (hj : j ≤ n) (hin : i < n)
    {a : Act} (hk : Kn N ds L a) {d : Option Tmp} (w : World) : (execOp a.eval ⟨d, .slice t x lo hi none, ty, pos, aft, g⟩).run P w = .ok (.value (.slice (some ⟨b, off + i * s, none⟩) (j - i) (n - i))) w := by
  have hne : n ≠ i := by omega
  rcases hl with ⟨rfl, h1, rfl⟩ | ⟨rfl, rfl⟩ <;> rcases hh with ⟨rfl, h2, rfl⟩ | ⟨rfl, rfl⟩
  · simp [execOp, hk.ev hx, hk.ev h1, hk.ev h2, Instr.sliceAt, Instr.sliceBounds, Instr.sliceBound, Instr.sureAddr, asIntOf, run_underlying hu, hs, hj, hij, hne, addr_add]
  · simp [execOp, hk.ev hx, hk.ev h1, Instr.sliceAt, Instr.sliceBounds, Instr.sliceBound, Instr.sureAddr, asIntOf, run_underlying hu, hs, hij, hne, addr_add]
  · simp [execOp, hk.ev hx, hk.ev h2, Instr.sliceAt, Instr.sliceBounds, Instr.sliceBound, Instr.sureAddr, asIntOf, run_underlying hu, hs, hj, addr_add]
  · simp [execOp, hk.ev hx, Instr.sliceAt, Instr.sliceBounds, Instr.sureAddr, run_underlying hu, hs, addr_add]
theorem t_arrS {t e : TypeId} {n s b off : Nat} {x x1 x2 : Operand} {lo hi : Option Operand} {k k' : IntKind} {m q : Int} (i j : Nat) (hu : P.underlying t = some (.array n e)) (hs : ∀ w, (sizeOf e).run P w = .ok s w) (hg : grd ops L g = true) (hN : Nat.blt d N = true) (hx : ev L x = some (.pointer (some ⟨b, off, none⟩)))
    (hl : lo = some x1 ∧ ev L x1 = some (.int k m) ∧ m = (i : Int) ∨ lo = none ∧ i = 0) (hh : hi = some x2 ∧ ev L x2 = some (.int k' q) ∧ q = (j : Int) ∨ hi = none ∧ j = n) (hij : i ≤ j) (hj : j ≤ n) (hin : i < n)
    (h : WL rd P ops Q N ds rest ((d, .slice (some ⟨b, off + i * s, none⟩) (j - i) (n - i)) :: L) w) : WL rd P ops Q N ds (⟨some d, .slice t x lo hi none, ty, pos, aft, g⟩ :: rest) L w :=
  WL.value hg rfl hN (fun _a hk => run_arrS i j hu hs hx hl hh hij hj hin hk w) h
theorem y_arrS {w1 : World} {S : Nat → Prop} {rest : OX} {t e : TypeId} {n s b off : Nat} {x x1 x2 : Operand} {lo hi : Option Operand} {k k' : IntKind} {m q : Int} (i j : Nat) (hu : P.underlying t = some (.array n e)) (hs : ∀ w, (sizeOf e).run P w = .ok s w) (hg : grd ops L g = true) (hN : Nat.blt d N = true) (hx : ev L x = some (.pointer (some ⟨b, off, none⟩)))
    (hl : lo = some x1 ∧ ev L x1 = some (.int k m) ∧ m = (i : Int) ∨ lo = none ∧ i = 0) (hh : hi = some x2 ∧ ev L x2 = some (.int k' q) ∧ q = (j : Int) ∨ hi = none ∧ j = n) (hij : i ≤ j) (hj : j ≤ n) (hin : i < n)
    (h : SC rd P ops Q N ds w1 S rest ((d, .slice (some ⟨b, off + i * s, none⟩) (j - i) (n - i)) :: L) w) : SC rd P ops Q N ds w1 S (.look ⟨some d, .slice t x lo hi none, ty, pos, aft, g⟩ rest) L w :=
  s_F hg rfl hN (fun _a hk w _ => run_arrS i j hu hs hx hl hh hij hj hin hk w) h
theorem y_arrP {w1 : World} {S : Nat → Prop} {rest : OX} {arr e : TypeId} {x : Operand} {n len cap : Nat} {ao : Option Addr} (hu : P.underlying arr = some (.array n e)) (hg : grd ops L g = true) (hN : Nat.blt d N = true) (hx : ev L x = some (.slice ao len cap)) (hn : n ≤ len)
    (h : SC rd P ops Q N ds w1 S rest ((d, .pointer ao) :: L) w) : SC rd P ops Q N ds w1 S (.look ⟨some d, .sliceToArrayPointer arr x, ty, pos, aft, g⟩ rest) L w :=
  s_F hg rfl hN (fun a hk w _ => by simp [execOp, hk.ev hx, run_arrayAt w arr e n ao len cap hu hn]) h
/-- A number's lowest byte. -/
theorem t_conv8 {src dst : TypeId} {x : Operand} {k' : IntKind} {n : Int} {ds' : TypeDesc} (hs : P.underlying src = some ds') (hd : P.underlying dst = some (.int .u8)) (hg : grd ops L g = true) (hN : Nat.blt d N = true) (hx : ev L x = some (.int k' n))
    (h : WL rd P ops Q N ds rest ((d, .int .u8 (n % 256)) :: L) w) : WL rd P ops Q N ds (⟨some d, .convert src dst x, ty, pos, aft, g⟩ :: rest) L w :=
  WL.value hg rfl hN (fun a ha => by
    simp only [execOp, ha.ev hx]
    simp [convert, run_underlying hs, run_underlying hd, Conv.intToInt, IntKind.wrap_u8]) h
/-- Arrays of bytes, compared. -/
theorem run_eqItemsY {e : TypeId} (he : P.underlying e = some (.int .u8)) (hA : ∀ w, (isAgg e).run P w = .ok false w) (hc : P.cellsOf e = 1) (dd : Nat) (a b : List UInt8) (w : World) : ∀ is : List Nat, (∀ j ∈ is, j < a.length ∧ j < b.length) →
    (Op.eqItems (dd + 1) e (P.cellsOf e) (ys a).toArray (ys b).toArray is).run P w = .ok (is.all fun j => decide (nth a j = nth b j)) w
  | [], _ => by simp [Op.eqItems]
  | j :: is, h => by
    obtain ⟨h1, h2⟩ := h j List.mem_cons_self
    have ih := run_eqItemsY he hA hc dd a b w is (fun k hk => h k (List.mem_cons_of_mem _ hk))
    have p1 : (part e (ys a).toArray (j * P.cellsOf e)).run P w = .ok (.int .u8 ((nth a j).toNat : Int)) w := by
      rw [hc, Nat.mul_one]; simp [part, hA, ys_nth h1]
    have p2 : (part e (ys b).toArray (j * P.cellsOf e)).run P w = .ok (.int .u8 ((nth b j).toNat : Int)) w := by
      rw [hc, Nat.mul_one]; simp [part, hA, ys_nth h2]
    have p3 := run_equalIn_int w dd e .u8 .u8 ((nth a j).toNat : Int) ((nth b j).toNat : Int) he
    have e9 : (((nth a j).toNat : Int) == ((nth b j).toNat : Int)) = decide (nth a j = nth b j) := by
      rw [Bool.beq_eq_decide_eq]
      exact decide_eq_decide.2 ⟨fun q => UInt8.toNat_inj.1 (by omega), fun q => by rw [q]⟩
    rw [e9] at p3
    simp only [Op.eqItems, Sem.run_bind, p1, p2, p3, Result.andThen_ok, List.all_cons]
    cases hd : decide (nth a j = nth b j) with
    | false => simp
    | true => simpa using ih
theorem run_eqArrY {t e : TypeId} {n : Nat} (hu : P.underlying t = some (.array n e)) (hi9 : (P.info? e).isSome = true) (he : P.underlying e = some (.int .u8)) (hA : ∀ w, (isAgg e).run P w = .ok false w) (hc : P.cellsOf e = 1) {a b : List UInt8} (ha : a.length = n) (hb : b.length = n) (w : World) :
    (Op.equalIn 10000 t (.agg (ys a).toArray) (.agg (ys b).toArray)).run P w = .ok (decide (a = b)) w := by
  obtain ⟨i, hi⟩ := Option.isSome_iff_exists.1 hi9
  rw [show (10000 : Nat) = 9998 + 1 + 1 from rfl, run_equalIn_array w (9998 + 1) _ _ hu hi, run_eqItemsY he hA hc 9998 a b w _ (fun j hj => by have := List.mem_range.1 hj; omega)]
  congr 1
  rw [Bool.eq_iff_iff, List.all_eq_true, decide_eq_true_eq]
  constructor
  · intro h
    refine List.ext_getElem (by omega) fun j h1 h2 => ?_
    have := of_decide_eq_true (h j (List.mem_range.2 (by omega)))
    rwa [nth_eq h1, nth_eq h2] at this
  · intro h j _
    rw [h]; simp
/-! ### A literal of one element whose cells are not told -/
theorem foldl_lay : ∀ (l : List Value) (k : Nat) (cs : Array Value), ((l.zipIdx k).foldl (fun cs (p : Value × Nat) => cs.setIfInBounds (0 + p.2) p.1) cs).toList = lay cs.toList k l
  | [], k, cs => rfl
  | v :: l, k, cs => by
    simp only [List.zipIdx_cons, List.foldl_cons, lay]
    rw [foldl_lay l (k + 1) (cs.setIfInBounds (0 + k) v)]
    simp
theorem run_bslice1 {t e n : Nat} {z v : Value} {vs : List Value} (hu : P.underlying t = some (.slice e)) (hs : ∀ w, (sizeOf e).run P w = .ok n w) (hz : ∀ w, (zeroValue e).run P w = .ok z w) (h0 : 0 < n) (h1 : n ≤ 1000) (hv : v.cells = vs.toArray) (hn : vs.length = n) (w : World) :
    (Instr.buildSlice t 1 #[(0, v)]).run P w = .ok (.slice (some ⟨w.heap.size, 0, none⟩) 1 1) (w.alloc (.cells vs.toArray e)) := by
  have e1 : ¬ (n > 16777216) := by omega
  have e2 : n ≠ 0 := by omega
  have hf : ∀ C : Array Value, C.size = n → Instr.fill (fun i => some (i * n, n)) C [(0, v)] = some vs.toArray := fun C hC => by
    simp only [Instr.fill, Nat.zero_mul, hv]
    rw [if_neg (by simp [hn, hC])]
    congr 1
    apply Array.toList_inj.1
    have := foldl_lay vs 0 C
    rw [lay_all _ _ (by simp [hn, hC])] at this
    rw [← Array.foldl_toList]
    simpa using this
  simp [Instr.buildSlice, run_underlying hu, hs, hz, e1, e2, hf, newRow, newObj, Sem.run]
theorem t_bslice1 {t e n : Nat} {z v : Value} {vs : List Value} {x : Operand} (hu : P.underlying t = some (.slice e)) (hs : ∀ w, (sizeOf e).run P w = .ok n w) (hz : ∀ w, (zeroValue e).run P w = .ok z w) (h0 : 0 < n) (h1 : n ≤ 1000) (hg : grd ops L g = true) (hN : Nat.blt d N = true)
    (hx : ev L x = some v) (hv : v.cells = vs.toArray) (hn : vs.length = n)
    (h : ∀ b w', b = w.heap.size → w'.heap.size = w.heap.size + 1 → Blk w' b e vs → Ext w w' → WL rd P ops Q N ds rest ((d, .slice (some ⟨b, 0, none⟩) 1 1) :: L) w') :
    WL rd P ops Q N ds (⟨some d, .buildSlice t 1 #[(0, x)], ty, pos, aft, g⟩ :: rest) L w :=
  t_bslice (ps := [(0, v)]) (cs := vs) (e := e) hg hN ⟨by simp [evs, hx], rfl⟩ (fun w => run_bslice1 hu hs hz h0 h1 hv hn w) h
end
end Go.Proofs.YtagmkfbbhfaceaaGreatDoor
namespace Go.Proofs.YtagmkfbbhfaceaaGreatDoor
open Go Go.RowKit Go.Proofs.Tryz
set_option maxRecDepth 10000
/-! ### blocks -/
structure Bk where
  l : List UInt8
  h : l.length = 32
instance : Inhabited Bk := ⟨⟨List.replicate 32 0, by simp⟩⟩
theorem Bk.ext' {a b : Bk} (h : a.l = b.l) : a = b := by cases a; cases b; cases h; rfl
instance : DecidableEq Bk := fun a b => if h : a.l = b.l then isTrue (Bk.ext' h) else isFalse (fun e => h (by rw [e]))
def zeroBk : Bk := ⟨List.replicate 32 0, by simp⟩
def chkN (l : List UInt8) (k : Nat) : Int := (weighP (l.take 30) 65521 + 977 * (k : Int)) % 65521
theorem chkN_range (l : List UInt8) (k : Nat) : 0 ≤ chkN l k ∧ chkN l k < 65521 := ⟨Int.emod_nonneg _ (by decide), Int.emod_lt_of_pos _ (by decide)⟩
theorem weighP_range (l : List UInt8) : 0 ≤ weighP l 65521 ∧ weighP l 65521 < 65521 := ⟨Int.emod_nonneg _ (by decide), Int.emod_lt_of_pos _ (by decide)⟩
def chkP (l : List UInt8) (k : Nat) : List UInt8 := [UInt8.ofNat ((chkN l k).toNat / 256), UInt8.ofNat ((chkN l k).toNat % 256)]
def sealL (l : List UInt8) (k : Nat) : List UInt8 := l.take 30 ++ chkP l k
theorem sealL_length {l : List UInt8} {k : Nat} (h : l.length = 32) : (sealL l k).length = 32 := by
  unfold sealL chkP; rw [List.length_append, List.length_take]; simp; omega
def Bk.shutB (b : Bk) (k : Nat) : Bk := ⟨sealL b.l k, sealL_length b.h⟩
def mixK (k : Nat) (l os : List UInt8) : List UInt8 := List.zipWith (· ^^^ ·) (l.take k) (os.take k) ++ l.drop k
theorem mixK_length {k : Nat} {l os : List UInt8} (h : l.length = 32) (ho : os.length = 32) (hk : k ≤ 32) : (mixK k l os).length = 32 := by
  unfold mixK; simp; omega
theorem mixK_nth {k : Nat} {l os : List UInt8} (h : l.length = 32) (ho : os.length = 32) (hk : k < 32) : nth (mixK k l os) k = nth l k := by
  have hl : (List.zipWith (· ^^^ ·) (l.take k) (os.take k)).length = k := by simp; omega
  unfold nth mixK
  rw [List.getD_eq_getElem?_getD, List.getD_eq_getElem?_getD, List.getElem?_append_right (by omega), hl, Nat.sub_self, List.getElem?_drop, Nat.add_zero]
theorem mixK_step {k : Nat} {l os : List UInt8} (h : l.length = 32) (ho : os.length = 32) (hk : k < 32) : (mixK k l os).set k (nth l k ^^^ nth os k) = mixK (k + 1) l os := by
  unfold mixK
  have hl : (List.zipWith (· ^^^ ·) (l.take k) (os.take k)).length = k := by simp; omega
  rw [List.set_append_right _ _ (by omega), hl, Nat.sub_self, drop_nth (show k < l.length by omega), List.set_cons_zero, take_nth (show k < l.length by omega), take_nth (show k < os.length by omega), List.zipWith_append (by simp; omega)]
  simp
def mixL (l os : List UInt8) : List UInt8 := mixK 30 l os
theorem mixL_length {l os : List UInt8} (h : l.length = 32) (ho : os.length = 32) : (mixL l os).length = 32 := mixK_length h ho (by decide)
def Bk.mix (a b : Bk) : Bk := ⟨mixL a.l b.l, mixL_length a.h b.h⟩
def Bk.sound (b : Bk) (k : Nat) : Prop := b.l.drop 30 = chkP b.l k
instance (b : Bk) (k : Nat) : Decidable (b.sound k) := inferInstanceAs (Decidable (_ = _))
theorem chk_hi (l : List UInt8) (k : Nat) : (chkN l k / 2 ^ 8) = ((UInt8.ofNat ((chkN l k).toNat / 256)).toNat : Int) := by
  have h := chkN_range l k
  rw [UInt8.toNat_ofNat']; omega
theorem chk_lo (l : List UInt8) (k : Nat) : (chkN l k) % 256 = ((UInt8.ofNat ((chkN l k).toNat % 256)).toNat : Int) := by
  have h := chkN_range l k
  rw [UInt8.toNat_ofNat']; omega

theorem check_c (b off : Nat) (l : List UInt8) (k : Nat) (w0 : World) (hl : l.length = 32) (hA : At w0 b off (ys l)) (hb : b < w0.heap.size) (hk : k ≤ 1000000) :
    CallsV Tryz.prog 76 [.pointer (some ⟨b, off, none⟩), .int .i64 (k : Int)] w0 (fun v w' => v = .agg (ys (chkP l k)).toArray ∧ Ext w0 w') := by
 refine f_n func76 ?_
 refine go ?_
 refine x_n fun bk2 w3 ebk2 sbk2 B4 u5 => ?_
 refine go ?_
 refine t_arrS 0 30 underlying111 sizeOf5 rfl rfl rfl (.inr ⟨rfl, rfl⟩) (k := .i64) (m := 0) (x1 := .tmp 0) (.inl ⟨rfl, rfl, rfl⟩) (by omega) (by omega) (by omega) (t_same 8 (v := .slice (some ⟨b, off + 0 * 1, none⟩) ((l.take 30).length) 32) rfl (by rw [List.length_take, hl]; rfl) ?_)
 have D8 := (hA.keep u5 (by omega) (fun h => h))
 refine x_c func125 rfl rfl (weigh_c (l.take 30) (some ⟨b, off + 0 * 1, none⟩) b (off + 0 * 1) 32 65521 _ (by have h9 := (D8).ysub 0 30; rw [List.drop_zero] at h9; exact SlY.at (by omega) h9) (by rw [List.length_take]; omega) (by decide)) ?_
 rintro _ w10 ⟨rfl, u11⟩ zu11
 have hwr := weighP_range (l.take 30)
 refine go ?_
 refine t_rem rfl rfl rfl rfl (by omega) (by omega) (t_same 13 (v := .int .i64 (chkN l k)) rfl rfl ?_)
 refine go ?_
 refine t_bo (Bo.shr (k := .i64) (m := (chkN l k).toNat) 8 rfl (by decide)) rfl rfl (by show _ = some (Value.int .i64 (((chkN l k).toNat : Nat) : Int)); rw [Int.toNat_of_nonneg (chkN_range l k).1]; rfl) rfl (t_conv underlying3 underlying5 rfl rfl rfl (IntWalk.u8_in _ (by have h9 := chkN_range l k; omega)) (t_same 16 (v := .int .u8 ((UInt8.ofNat ((chkN l k).toNat / 256)).toNat : Int)) rfl (congrArg (Value.int .u8) (by rw [← chk_hi]; have h9 := chkN_range l k; omega)) ?_))
 refine go ?_
 refine t_conv8 underlying3 underlying5 rfl rfl rfl (t_same 18 (v := .int .u8 ((UInt8.ofNat ((chkN l k).toNat % 256)).toNat : Int)) rfl (congrArg (Value.int .u8) (chk_lo l k)) (t_build (ps := [(0, .int .u8 ((UInt8.ofNat ((chkN l k).toNat / 256)).toNat : Int)), (1, .int .u8 ((UInt8.ofNat ((chkN l k).toNat % 256)).toNat : Int))]) (v := .agg #[.int .u8 ((UInt8.ofNat ((chkN l k).toNat / 256)).toNat : Int), .int .u8 ((UInt8.ofNat ((chkN l k).toNat % 256)).toNat : Int)]) rfl rfl ⟨rfl, rfl⟩ (fun w => by kernel_rfl) ?_))
 refine x_s fun w15 sw15 B17 u16 => ?_
 refine go ?_
 refine f_ret1 (v := .agg #[.int .u8 ((UInt8.ofNat ((chkN l k).toNat / 256)).toNat : Int), .int .u8 ((UInt8.ofNat ((chkN l k).toNat % 256)).toNat : Int)]) results76 ⟨_, _, rfl, run_loadVarN (vs := [.int .u8 ((UInt8.ofNat ((chkN l k).toNat / 256)).toNat : Int), .int .u8 ((UInt8.ofNat ((chkN l k).toNat % 256)).toNat : Int)]) isAgg182 sizeOf182 rfl (B17.at.sub 0 2)⟩ ?_
 exact ⟨rfl, u_d⟩

theorem isSound_c (b off : Nat) (l : List UInt8) (k : Nat) (w0 : World) (hl : l.length = 32) (hA : At w0 b off (ys l)) (hb : b < w0.heap.size) (hk : k ≤ 1000000) :
    CallsV Tryz.prog 33 [.pointer (some ⟨b, off, none⟩), .int .i64 (k : Int)] w0 (fun v w' => v = .bool (decide (l.drop 30 = chkP l k)) ∧ Ext w0 w') := by
 refine f_n func33 ?_
 refine go ?_
 refine c_drawnM follows (fun _ => False) (.look 0 (.look 1 (.look 2 (.look 3 (.look 5 (.look 6 (.act 4 (.act 7 (.look 8 (.look 9 .done)) .stop) (.act 7 (.act 4 (.look 8 (.look 9 .done)) .stop) .stop)))))))) (by kernel_rfl) fun w3 u4 => ?_
 have zu4 := u4.size
 refine go ?_
 refine y_arrS 30 32 underlying111 sizeOf5 rfl rfl rfl (.inl ⟨rfl, rfl, rfl⟩) (.inr ⟨rfl, rfl⟩) (k' := .i64) (q := 0) (x2 := .tmp 0) (by omega) (by omega) (by omega) (y_arrP underlying182 rfl rfl rfl (by omega) ?_)
 refine go ?_
 refine s_or ?_ ?_
 ·
  refine go ?_
  have D6 := (hA.keep u4 (by omega) (fun h => h))
  refine t_ldY (l := l.drop 30) isAgg182 sizeOf182 rfl rfl rfl (by have h9 := (D6).ysub 30 2; rw [List.take_of_length_le (by rw [List.length_drop]; omega)] at h9; exact h9) (by rw [List.length_drop]; omega) ?_
  refine go ?_
  refine x_c func76 rfl rfl (check_c b off l k _ hl D6 (by omega) (by omega)) ?_
  rintro _ w8 ⟨rfl, u9⟩ zu9
  refine go ?_
  refine y_eqS (xs := ys (l.drop 30)) (ys := ys (chkP l k)) (by kernel_rfl) (run_eqArrY underlying182 (by kernel_rfl) underlying5 isAgg5 (by kernel_rfl) (by rw [List.length_drop]; omega) rfl) rfl rfl rfl rfl ?_
  refine go ?_
  refine f_1 results33 ?_
  exact ⟨rfl, u_d⟩
 refine go ?_
 have D12 := (hA.keep u4 (by omega) (fun h => h))
 refine x_c func76 rfl rfl (check_c b off l k _ hl D12 (by omega) (by omega)) ?_
 rintro _ w14 ⟨rfl, u15⟩ zu15
 refine go ?_
 have D18 := (D12.keep u15 (by omega) (fun h => h))
 refine t_ldY (l := l.drop 30) isAgg182 sizeOf182 rfl rfl rfl (by have h9 := (D18).ysub 30 2; rw [List.take_of_length_le (by rw [List.length_drop]; omega)] at h9; exact h9) (by rw [List.length_drop]; omega) ?_
 refine go ?_
 refine y_eqS (xs := ys (l.drop 30)) (ys := ys (chkP l k)) (by kernel_rfl) (run_eqArrY underlying182 (by kernel_rfl) underlying5 isAgg5 (by kernel_rfl) (by rw [List.length_drop]; omega) rfl) rfl rfl rfl rfl ?_
 refine go ?_
 refine f_1 results33 ?_
 exact ⟨rfl, u_d⟩

theorem seal_lay {l : List UInt8} {k : Nat} (hl : l.length = 32) : lay (ys l) (0 + 30 * 1) (ys (chkP l k)) = ys (sealL l k) := by
  rw [lay_eq (by rw [ys_length, ys_length, hl]; exact Nat.le_refl _), ys_take, ys_drop, ys_length, ← ys_append, ← ys_append]
  unfold sealL
  rw [List.drop_of_length_le (by rw [hl]; exact Nat.le_refl _), List.append_nil]

theorem seal_c (b : Nat) (l : List UInt8) (k : Nat) (w0 : World) (hl : l.length = 32) (hB : Blk w0 b 111 (ys l)) (hk : k ≤ 1000000) :
    CallsV Tryz.prog 36 [.pointer (some ⟨b, 0, none⟩), .int .i64 (k : Int)] w0 (fun _v w' => Blk w' b 111 (ys (sealL l k)) ∧ Upd (· = b) w0 w') := by
 have lt_b := hB.lt
 refine f_n func36 ?_
 refine go ?_
 refine x_c func76 rfl rfl (check_c b 0 l k _ hl (hB).at (hB).lt (by omega)) ?_
 rintro _ w3 ⟨rfl, u4⟩ zu4
 refine x_n fun bk7 w8 ebk7 sbk7 B9 u10 => ?_
 refine x_s fun w12 sw12 B14 u13 => ?_
 refine go ?_
 refine c_drawnM follows (fun i => i = b) (OTl [0, 2, 4, 6, 9]) (by kernel_rfl) fun w16 u17 => ?_
 have zu17 := u17.size
 refine go ?_
 refine y_arrS 30 32 underlying111 sizeOf5 rfl rfl rfl (.inl ⟨rfl, rfl, rfl⟩) (.inr ⟨rfl, rfl⟩) (k' := .i64) (q := 0) (x2 := .tmp 0) (by omega) (by omega) (by omega) (y_arrS 0 2 underlying182 sizeOf5 rfl rfl rfl (.inr ⟨rfl, rfl⟩) (k := .i64) (m := 0) (x1 := .tmp 0) (.inr ⟨rfl, rfl⟩) (k' := .i64) (q := 0) (x2 := .tmp 0) (by omega) (by omega) (by omega) ?_)
 refine go ?_
 have B22 := ((((hB.kx u4).kx u10).keep u13 (by omega)).kx u17)
 have B23 := (B14.kx u17)
 refine t_copyB (k := 1) (cs := ys l) (vs := ys (chkP l k)) (o := 0 + 30 * 1) (so := 0 + 0 * 1) underlying24 sizeOf5 rfl rfl rfl rfl B22 (B23).at rfl (by rw [ys_length, ys_length, hl]; exact Nat.le_refl _) (ys_one _) (fun w19 sw19 B21 u20 => ?_)
 have B25 : Blk w19 b 111 (ys (sealL l k)) := by
   have e : lay (ys l) (0 + 30 * 1) (ys (chkP l k)) = ys (sealL l k) := seal_lay hl
   rw [← e]; exact B21
 refine go ?_
 refine f_ret0 results36 ?_
 exact ⟨B25, u_d⟩

theorem mix_c (b : Nat) (l os : List UInt8) (w0 : World) (hl : l.length = 32) (ho : os.length = 32) (hB : Blk w0 b 111 (ys l)) :
    CallsV Tryz.prog 35 [.pointer (some ⟨b, 0, none⟩), .agg (ys os).toArray] w0 (fun v w' => Blk w' b 111 (ys (mixL l os)) ∧ Upd (· = b) w0 w') := by
 have lt_b := hB.lt
 refine f_n func35 ?_
 refine go ?_
 refine x_b fun bk2 w3 ebk2 sbk2 B4 u5 => ?_
 refine go ?_
 have B8 := (hB.kx u5)
 refine x_l1 (fun i => i = b) [0, 3] (fun (k : Nat) => [(5, .int .i64 (k : Int))]) (fun k w => Blk w b 111 (ys (mixK k l os)) ∧ (k ≤ 30)) (fun k => 30 - k) 0 ⟨(show Blk _ b 111 (ys (mixK 0 l os)) from B8), (Nat.zero_le _)⟩ ?_
 rintro k w10 ⟨I12, hk⟩ u11 zu11 K9 hK9
 have hml := mixK_length hl ho (k := k) (by omega)
 refine go ?_
 refine q_p (fun g6 => ?_) fun g6 => ?_
 ·
  refine go ?_
  refine c_drawnM follows (fun i => i = b) (OTl [0, 2, 4, 6, 10, 12, 14, 18, 9, 16, 20, 23]) (by kernel_rfl) fun w18 u19 => ?_
  have zu19 := u19.size
  refine go ?_
  refine y_indexArr (j := k) (0 + k * 1) underlying111 sizeOf5 rfl rfl rfl rfl rfl (by omega) rfl ?_
  refine go ?_
  refine y_indexArr (j := k) (0 + k * 1) underlying111 sizeOf5 rfl rfl rfl rfl rfl (by omega) rfl ?_
  have B21 := ((B4.keep u11 (by omega)).kx u19)
  refine y_load isAgg5 rfl rfl rfl (((SlY.own B21).at_ k (by omega)) 0 _ rfl) (by show ¬ (bk2 = b); first | omega | assumption) ?_
  refine go ?_
  have B22 := (I12.kx u19)
  refine t_load isAgg5 rfl rfl rfl (((SlY.own B22).at_ k (by omega)) 0 _ rfl) (t_same 12 (v := .int .u8 ((nth l k).toNat : Int)) rfl (by rw [mixK_nth hl ho (by omega)]) ?_)
  refine go ?_
  refine y_bo (Bo.xor8 (nth l k) (nth os k)) rfl rfl rfl rfl ?_
  refine y_indexArr (j := k) (0 + k * 1) underlying111 sizeOf5 rfl rfl rfl rfl rfl (by omega) rfl ?_
  refine go ?_
  refine t_storeY (ls := (mixK k l os)) (v := ((nth l k) ^^^ (nth os k))) k sizeOf5 rfl rfl rfl B22 (by omega) (fun w23 sw23 B25 u24 => ?_)
  refine go ?_
  exact hK9 (k + 1) ⟨(by rw [← mixK_step hl ho (by omega)]; exact B25), (by omega)⟩
 refine go ?_
 refine f_ret0 results35 ?_
 have hk30 : k = 30 := by omega
 subst hk30
 exact ⟨I12, u_d⟩

end Go.Proofs.YtagmkfbbhfaceaaGreatDoor
namespace Go.Proofs.YtagmkfbbhfaceaaGreatDoor
open Go Go.RowKit Go.Proofs.Tryz
set_option maxRecDepth 10000
/-! ### a log's blocks out of its digits -/
structure Fs where
  v : List Bk
  p : Bk
  d : Bk
  n : Nat
instance : Inhabited Fs := ⟨⟨[], zeroBk, zeroBk, 0⟩⟩
def nextF (s : Fs) : Fs :=
  if (s.v.length + 1) % 5 = 4 then ⟨s.v ++ [s.d.shutB s.v.length] ++ [(s.p.mix s.d).shutB (s.v.length + 1)], zeroBk, zeroBk, 0⟩
  else ⟨s.v ++ [s.d.shutB s.v.length], s.p.mix s.d, zeroBk, 0⟩
def bitV (c : UInt8) (n : Nat) : UInt8 := UInt8.ofNat ((c.toNat - 48) * 2 ^ (7 - n % 8))
def putBit (d : Bk) (n : Nat) (c : UInt8) : Bk := ⟨d.l.set (n / 8) (nth d.l (n / 8) ||| bitV c n), by rw [List.length_set]; exact d.h⟩
def fullF (s : Fs) : Fs := if s.n = 240 then nextF s else s
def stepF (s : Fs) (c : UInt8) : Fs := ⟨(fullF s).v, (fullF s).p, putBit (fullF s).d (fullF s).n c, (fullF s).n + 1⟩
def fsP (t : List UInt8) : Fs := t.foldl stepF ⟨[], zeroBk, zeroBk, 0⟩
def endF (s : Fs) : List Bk := if s.v.length % 5 ≠ 0 then s.v ++ [s.p.shutB s.v.length] else s.v
def fillP (t : List UInt8) : List Bk := endF (nextF (fsP t))
theorem fsP_snoc (t : List UInt8) (c : UInt8) : fsP (t ++ [c]) = stepF (fsP t) c := by unfold fsP; rw [List.foldl_append]; rfl
theorem nextF_len (s : Fs) : (nextF s).v.length ≤ s.v.length + 2 ∧ (nextF s).n = 0 := by
  unfold nextF
  split <;> simp
theorem fullF_len (s : Fs) (h : s.n ≤ 240) : (fullF s).v.length ≤ s.v.length + 2 ∧ (fullF s).n < 240 := by
  unfold fullF
  split
  · have := nextF_len s; omega
  · omega
theorem fullF_full (s : Fs) : 120 * (fullF s).v.length + (fullF s).n ≤ 120 * s.v.length + s.n := by
  unfold fullF
  split
  · have := nextF_len s; omega
  · omega
theorem fsP_len (t : List UInt8) : 120 * (fsP t).v.length + (fsP t).n ≤ t.length ∧ (fsP t).n ≤ 240 := by
  suffices h : ∀ (l : List UInt8) (s : Fs), s.n ≤ 240 → 120 * (l.foldl stepF s).v.length + (l.foldl stepF s).n ≤ 120 * s.v.length + s.n + l.length ∧ (l.foldl stepF s).n ≤ 240 by
    have := h t ⟨[], zeroBk, zeroBk, 0⟩ (by decide)
    simpa [fsP] using this
  intro l
  induction l with
  | nil => intro s h; exact ⟨by simp, h⟩
  | cons c l ih =>
    intro s h
    have h1 := fullF_len s h
    have h4 := fullF_full s
    have h2 := ih (stepF s c) (by show (fullF s).n + 1 ≤ 240; omega)
    simp only [List.foldl_cons, List.length_cons]
    refine ⟨?_, h2.2⟩
    have h3 : (stepF s c).v.length = (fullF s).v.length := rfl
    have h5 : (stepF s c).n = (fullF s).n + 1 := rfl
    omega
theorem fsP_take {t : List UInt8} (i : Nat) : (fsP (t.take i)).v.length ≤ t.length ∧ (fsP (t.take i)).n ≤ 240 := by
  have := fsP_len (t.take i)
  rw [List.length_take] at this; omega
theorem bitV_val {c : UInt8} {n : Nat} (hc : c.toNat - 48 ≤ 1) : (((c.toNat - 48) * 2 ^ (7 - n % 8) : Nat) : Int) = ((bitV c n).toNat : Int) := by
  unfold bitV
  have h1 : 2 ^ (7 - n % 8) ≤ 2 ^ 7 := Nat.pow_le_pow_right (by decide) (by omega)
  have h2 : (c.toNat - 48) * 2 ^ (7 - n % 8) ≤ 1 * 2 ^ 7 := Nat.mul_le_mul hc h1
  have e : 1 * 2 ^ 7 = 128 := rfl
  rw [UInt8.toNat_ofNat']; omega
theorem fsP_next {t : List UInt8} {s s1 : Fs} {i : Nat} (hs : s = fsP (t.take i)) (hi : i < t.length) (h1 : s1 = fullF s) : s1.n + 1 ≤ 240 ∧ s1.v.length ≤ t.length := by
  have h9 := fsP_take (t := t) (i + 1)
  rw [take_nth hi, fsP_snoc, ← hs] at h9
  have e : stepF s (nth t i) = ⟨s1.v, s1.p, putBit s1.d s1.n (nth t i), s1.n + 1⟩ := by unfold stepF; rw [← h1]
  rw [e] at h9
  exact ⟨h9.2, h9.1⟩
def encBk (b : Bk) : List Value := ys b.l
theorem encBk_len (b : Bk) : (encBk b).length = 32 := (ys_length _).trans b.h
theorem encBk_one (b : Bk) : ∀ u ∈ encBk b, u.oneCell' = true := ys_one _
theorem end_c (b : Bk) (vb base : Nat) (ao : Option Addr) (gb cp : Nat) (v : List Bk) (w0 : World) (hV : Blk w0 vb 105 [.slice ao v.length cp]) (ha : Acc encBk 32 111 base w0 ao gb cp v) (hbs : base ≤ w0.heap.size) (hne : base ≤ gb → gb ≠ vb) (hl : v.length ≤ 900000) :
    CallsV Tryz.prog 122 [.agg (ys b.l).toArray, .pointer (some ⟨vb, 0, none⟩)] w0 (fun _ w' => (∃ a9 g9 c9, Blk w' vb 105 [.slice a9 (List.length (v ++ [b.shutB v.length])) c9] ∧ Acc encBk 32 111 base w' a9 g9 c9 (v ++ [b.shutB v.length]) ∧ (g9 = gb ∨ w0.heap.size ≤ g9)) ∧ Upd (fun i => i = vb ∨ (i = gb ∧ base ≤ i)) w0 w') := by
 have lt_gb := ha.lt
 have lt_vb := hV.lt
 refine f_n func122 ?_
 refine go ?_
 refine x_b fun bk2 w3 ebk2 sbk2 B4 u5 => ?_
 refine go ?_
 refine x_c func36 rfl rfl (seal_c bk2 b.l v.length _ (Bk.h b) B4 (by omega)) ?_
 rintro v9 w10 ⟨hs8, u11⟩ zu11
 refine go ?_
 refine t_ldY (l := (b.shutB v.length).l) isAgg111 sizeOf111 rfl rfl rfl hs8.at (Bk.h (b.shutB v.length)) (t_bslice1 (vs := ys ((b.shutB v.length).l)) underlying105 sizeOf111 zeroValue111 (by decide) (by decide) rfl rfl rfl rfl (by rw [ys_length]; exact (Bk.h (b.shutB v.length))) (fun bk14 w15 ebk14 sbk14 B16 u17 => ?_))
 have D19 := (((ha.keep u5 (fun _ h => h)).keep u11 (fun hb => show ¬ (gb = bk2) by first | omega | assumption)).keep u17 (fun _ h => h))
 refine t_append (z := .agg #[.int .u8 0, .int .u8 0, .int .u8 0, .int .u8 0, .int .u8 0, .int .u8 0, .int .u8 0, .int .u8 0, .int .u8 0, .int .u8 0, .int .u8 0, .int .u8 0, .int .u8 0, .int .u8 0, .int .u8 0, .int .u8 0, .int .u8 0, .int .u8 0, .int .u8 0, .int .u8 0, .int .u8 0, .int .u8 0, .int .u8 0, .int .u8 0, .int .u8 0, .int .u8 0, .int .u8 0, .int .u8 0, .int .u8 0, .int .u8 0, .int .u8 0, .int .u8 0]) (bytes := 32) (k := 32) (base := base) (b.shutB v.length) underlying105 (by kernel_rfl) rfl (by decide) encBk_len encBk_one rfl rfl rfl rfl D19 B16 (by omega) (by omega) (by decide) (fun ao20 gb21 cp22 w23 A24 u25 gegb21 lngb21 => ?_)
 have zu25 := u25.size
 have lt_gb21 := A24.lt
 refine x_s fun w27 sw27 B29 u28 => ?_
 refine go ?_
 refine f_ret0 results122 ?_
 have D31 := (A24.keep u28 (fun hb => show ¬ (gb21 = vb) by first | omega | assumption))
 exact ⟨⟨ao20, gb21, cp22, B29, D31, (by omega)⟩, u_d⟩

set_option maxHeartbeats 4000000 in
theorem next_c (pb db eb ab : Nat) (p d : Bk) (n : Nat) (vb base : Nat) (ao : Option Addr) (gb cp : Nat) (v : List Bk) (w0 : World) (hP : Blk w0 pb 111 (ys p.l)) (hD : Blk w0 db 111 (ys d.l)) (hE : Blk w0 eb 115 [.func (.func 122) #[] #[.pointer (some ⟨vb, 0, none⟩)]]) (hN : Blk w0 ab 3 [.int .i64 (n : Int)]) (hq : vb < db ∧ db < pb ∧ pb < ab ∧ ab < eb ∧ eb < base) (hV : Blk w0 vb 105 [.slice ao v.length cp]) (ha : Acc encBk 32 111 base w0 ao gb cp v) (hbs : base ≤ w0.heap.size) (hl : v.length ≤ 800000) :
    CallsV Tryz.prog 123 [.pointer (some ⟨pb, 0, none⟩), .pointer (some ⟨db, 0, none⟩), .pointer (some ⟨eb, 0, none⟩), .pointer (some ⟨ab, 0, none⟩), .pointer (some ⟨vb, 0, none⟩)] w0 (fun _ w' => (Blk w' pb 111 (ys (nextF ⟨v, p, d, n⟩).p.l) ∧ Blk w' db 111 (ys (nextF ⟨v, p, d, n⟩).d.l) ∧ Blk w' ab 3 [.int .i64 ((nextF ⟨v, p, d, n⟩).n : Int)] ∧ (∃ a9 g9 c9, Blk w' vb 105 [.slice a9 (List.length (nextF ⟨v, p, d, n⟩).v) c9] ∧ Acc encBk 32 111 base w' a9 g9 c9 (nextF ⟨v, p, d, n⟩).v ∧ (g9 = gb ∨ w0.heap.size ≤ g9))) ∧ Upd (fun i => i = pb ∨ i = db ∨ i = ab ∨ i = vb ∨ (i = gb ∧ base ≤ i)) w0 w') := by
 have lt_gb := ha.lt
 have lt_vb := hV.lt
 have lt_pb := hP.lt
 have lt_db := hD.lt
 have lt_eb := hE.lt
 have lt_ab := hN.lt
 obtain ⟨q1, q2, q3, q4, q5⟩ := hq
 refine f_n func123 ?_
 refine go ?_
 refine t_ldY (l := d.l) isAgg111 sizeOf111 rfl rfl rfl hD.at (Bk.h d) ?_
 refine x_c func35 rfl rfl (mix_c pb p.l d.l _ (Bk.h p) (Bk.h d) hP) ?_
 rintro v3 w4 ⟨hm2, u5⟩ zu5
 refine go ?_
 have B9 := (hD.keep u5 (by omega))
 refine t_ldY (l := d.l) isAgg111 sizeOf111 rfl rfl rfl B9.at (Bk.h d) ?_
 have B11 := (hV.keep u5 (by omega))
 have D12 := (ha.keep u5 (fun hb => show ¬ (gb = pb) by first | omega | assumption))
 refine x_c func122 rfl rfl (end_c d vb base ao gb cp v _ B11 D12 (by omega) (by omega) (by omega)) ?_
 rintro v13 w14 ⟨⟨ae10, ge10, ce10, hBe10, hAe10, hGe10⟩, u15⟩ zu15
 have hle10 : (v ++ [d.shutB v.length]).length = v.length + 1 := by simp
 have lt_ge10 := hAe10.lt
 refine go ?_
 refine t_build (ps := []) (v := .agg (ys (List.replicate 32 (0 : UInt8))).toArray) rfl rfl ⟨rfl, rfl⟩ (fun w => by kernel_rfl) ?_
 have B19 := (B9.keep u15 (by omega))
 refine t_stY sizeOf111 rfl rfl rfl B19 (by simp) (by rw [ys_length]; exact (Bk.h d)) (fun w20 sw20 B22 u21 => ?_)
 refine x_s fun w24 sw24 B26 u25 => ?_
 refine go ?_
 refine t_rem rfl rfl rfl rfl (by omega) (by omega) ?_
 refine go ?_
 refine q_p (fun g14 => ?_) fun g14 => ?_
 ·
  refine go ?_
  have B30 := (((hm2.keep u15 (by omega)).keep u21 (by omega)).keep u25 (by omega))
  refine t_ldY (l := (p.mix d).l) isAgg111 sizeOf111 rfl rfl rfl B30.at (Bk.h (p.mix d)) ?_
  have B32 := ((hBe10.keep u21 (by omega)).keep u25 (by omega))
  have D33 := ((hAe10.keep u21 (fun hb => show ¬ (ge10 = db) by first | omega | assumption)).keep u25 (fun hb => show ¬ (ge10 = ab) by first | omega | assumption))
  refine x_c func122 rfl rfl (end_c (p.mix d) vb base ae10 ge10 ce10 (v ++ [d.shutB v.length]) _ B32 D33 (by omega) (by omega) (by omega)) ?_
  rintro v34 w35 ⟨⟨ae31, ge31, ce31, hBe31, hAe31, hGe31⟩, u36⟩ zu36
  have hle31 : ((v ++ [d.shutB v.length]) ++ [(p.mix d).shutB (((v ++ [d.shutB v.length])).length)]).length = ((v ++ [d.shutB v.length])).length + 1 := by simp
  have lt_ge31 := hAe31.lt
  refine go ?_
  refine t_build (ps := []) (v := .agg (ys (List.replicate 32 (0 : UInt8))).toArray) rfl rfl ⟨rfl, rfl⟩ (fun w => by kernel_rfl) ?_
  have B39 := (B30.keep u36 (by omega))
  refine t_stY sizeOf111 rfl rfl rfl B39 (by simp) (by rw [ys_length]; exact (Bk.h (p.mix d))) (fun w40 sw40 B42 u41 => ?_)
  refine go ?_
  refine f_ret0 results123 ?_
  have B45 := (((B22.keep u25 (by omega)).keep u36 (by omega)).keep u41 (by omega))
  have B46 := ((B26.keep u36 (by omega)).keep u41 (by omega))
  have B47 := (hBe31.keep u41 (by omega))
  have D48 := (hAe31.keep u41 (fun hb => show ¬ (ge31 = pb) by first | omega | assumption))
  have en44 : (nextF ⟨v, p, d, n⟩) = (⟨v ++ [d.shutB v.length] ++ [(p.mix d).shutB (v.length + 1)], zeroBk, zeroBk, 0⟩ : Fs) := by unfold nextF; rw [if_pos (by show (v.length + 1) % 5 = 4; omega)]
  rw [en44]
  exact ⟨⟨B42, B45, B46, ⟨ae31, ge31, ce31, (by have h9 := B47; simpa using h9), (by have h9 := D48; simpa using h9), by omega⟩⟩, u_d⟩
 refine go ?_
 refine f_ret0 results123 ?_
 have B50 := (((hm2.keep u15 (by omega)).keep u21 (by omega)).keep u25 (by omega))
 have B51 := (B22.keep u25 (by omega))
 have B52 := ((hBe10.keep u21 (by omega)).keep u25 (by omega))
 have D53 := ((hAe10.keep u21 (fun hb => show ¬ (ge10 = db) by first | omega | assumption)).keep u25 (fun hb => show ¬ (ge10 = ab) by first | omega | assumption))
 have en49 : (nextF ⟨v, p, d, n⟩) = (⟨v ++ [d.shutB v.length], p.mix d, zeroBk, 0⟩ : Fs) := by unfold nextF; rw [if_neg (by show ¬ ((v.length + 1) % 5 = 4); omega)]
 rw [en49]
 exact ⟨⟨B50, B51, B26, ⟨ae10, ge10, ce10, B52, D53, by omega⟩⟩, u_d⟩

theorem Acc.lowP {α : Type} {enc : α → List Value} {k : Nat} {e : TypeId} {base base' : Nat} {w : World} {ao : Option Addr} {g cap : Nat} {xs : List α} (h : Acc enc k e base w ao g cap xs) (hp : 0 < xs.length) (hb : base' ≤ base) : Acc enc k e base' w ao g cap xs := by
  rcases h.at_ with ⟨_, h2, _⟩ | ⟨h1, h2, h3⟩
  · subst h2; exact absurd hp (by simp)
  · exact ⟨h.lt, .inr ⟨h1, by omega, h3⟩⟩
theorem nextF_pos (s : Fs) : 0 < (nextF s).v.length := by unfold nextF; split <;> simp

set_option maxHeartbeats 4000000 in
theorem fill_c (t : List UInt8) (at_ : Option Addr) (bt ot ct : Nat) (w0 : World) (hl : Sl encY 1 w0 at_ bt ot t) (ht : ∀ c ∈ t, c = 48 ∨ c = 49) (hx : t.length ≤ 790000) :
    CallsV Tryz.prog 74 [.slice at_ t.length ct] w0 (fun v w' => (∃ a9 g9 c9, v = .slice a9 (fillP t).length c9 ∧ Acc encBk 32 111 w0.heap.size w' a9 g9 c9 (fillP t)) ∧ Ext w0 w') := by
 refine f_n func74 ?_
 refine go ?_
 refine x_n fun bk2 w3 ebk2 sbk2 B4 u5 => ?_
 refine go ?_
 refine t_alloc (cs := (ys (List.replicate 32 (0 : UInt8)))) zeroValue111 (by kernel_rfl) rfl rfl (fun bk8 w9 ebk8 sbk8 B10 u11 => ?_)
 refine t_alloc (cs := (ys (List.replicate 32 (0 : UInt8)))) zeroValue111 (by kernel_rfl) rfl rfl (fun bk13 w14 ebk13 sbk13 B15 u16 => ?_)
 refine go ?_
 refine x_n fun bk19 w20 ebk19 sbk19 B21 u22 => ?_
 refine x_s fun w24 sw24 B26 u25 => ?_
 refine go ?_
 refine t_mkfunc (vs := []) (us := [.pointer (some ⟨bk2, 0, none⟩)]) rfl rfl rfl rfl ?_
 refine x_n fun bk29 w30 ebk29 sbk29 B31 u32 => ?_
 refine x_s fun w34 sw34 B36 u35 => ?_
 refine go ?_
 refine t_mkfunc (vs := []) (us := [.pointer (some ⟨bk13, 0, none⟩), .pointer (some ⟨bk8, 0, none⟩), .pointer (some ⟨bk29, 0, none⟩), .pointer (some ⟨bk19, 0, none⟩), .pointer (some ⟨bk2, 0, none⟩)]) rfl rfl rfl rfl ?_
 refine go ?_
 have hA41 : Acc encBk 32 111 w34.heap.size w34 none 0 0 ([] : List Bk) := Acc.nil _ _ _ _ _ (by omega) (Nat.le_refl _)
 have lt_0 := hA41.lt
 refine go ?_
 have B42 := ((((((B4.kx u11).kx u16).kx u22).keep u25 (by omega)).kx u32).keep u35 (by omega))
 have B43 := (((((B10.kx u16).kx u22).keep u25 (by omega)).kx u32).keep u35 (by omega))
 have B44 := ((((B15.kx u22).keep u25 (by omega)).kx u32).keep u35 (by omega))
 have B45 := ((B26.kx u32).keep u35 (by omega))
 refine x_l5 (fun i => i = bk2 ∨ i = bk8 ∨ i = bk13 ∨ i = bk19) [2, 3, 4, 5, 6, 7, 12, 13] (fun (i : Nat) (s : Fs) (a1 : Option Addr) (g1 : Nat) (c1 : Nat) => [(14, .int .i64 (i : Int))]) (fun i s a1 g1 c1 w => Blk w bk2 105 [.slice a1 s.v.length c1] ∧ Blk w bk8 111 (ys s.d.l) ∧ Blk w bk13 111 (ys s.p.l) ∧ Blk w bk19 3 [.int .i64 (s.n : Int)] ∧ (i ≤ t.length) ∧ (Acc encBk 32 111 w34.heap.size w a1 g1 c1 s.v) ∧ (s = fsP (t.take i)) ∧ (s.n ≤ 240 ∧ s.v.length ≤ t.length)) (fun i s a1 g1 c1 => t.length - i) 0 (⟨[], zeroBk, zeroBk, 0⟩) none 0 0 ⟨B42, B43, B44, B45, (Nat.zero_le _), hA41, rfl, ⟨by decide, Nat.zero_le _⟩⟩ ?_
 rintro i s a1 g1 c1 w47 ⟨I49, I50, I51, I52, hi, hA, hs, hsb⟩ u48 zu48 K46 hK46
 have lt_g1 := hA.lt
 refine go ?_
 refine q_p (fun g15 => ?_) fun g15 => ?_
 ·
  refine go ?_
  refine g_i i (hl.keep (((((((((Upd.refl (fun _ => False) w0).nx u5).nx u11).nx u16).nx u22).next u25 (fun i hi h => by omega)).nx u32).next u35 (fun i hi h => by omega)).next u48 (fun i hi h => by omega)) (fun _ h => h)) (fun _ => ?_)
  iterate 4 refine st1 ?_
  refine x_k4 (fun i => i = bk2 ∨ i = bk8 ∨ i = bk13 ∨ i = bk19 ∨ (i = g1 ∧ w34.heap.size ≤ i)) [2, 3, 4, 5, 6, 7, 9, 12, 13, 14] (fun (s1 : Fs) (a2 : Option Addr) (g2 : Nat) (c2 : Nat) => []) (fun s1 a2 g2 c2 w => Blk w bk2 105 [.slice a2 s1.v.length c2] ∧ Blk w bk8 111 (ys s1.d.l) ∧ Blk w bk13 111 (ys s1.p.l) ∧ Blk w bk19 3 [.int .i64 (s1.n : Int)] ∧ (Acc encBk 32 111 w34.heap.size w a2 g2 c2 s1.v) ∧ (s1 = fullF s)) (fun K63 hK63 => ?_) ?_
  ·
   refine go ?_
   refine q_p (fun g19 => ?_) fun g19 => ?_
   ·
    refine go ?_
    have B68 := (B36.keep u48 (by omega))
    refine x_c func123 rfl rfl (next_c bk13 bk8 bk29 bk19 s.p s.d s.n bk2 w34.heap.size a1 g1 c1 s.v _ I51 I50 B68 I52 (by omega) I49 hA (by omega) (by omega)) ?_
    rintro v69 w70 ⟨⟨hPx67, hDx67, hNx67, ax67, gx67, cx67, hVx67, hAx67, hGx67⟩, u71⟩ zu71
    have lt_gx67 := hAx67.lt
    have hlx67 : (nextF ⟨s.v, s.p, s.d, s.n⟩).v.length ≤ (s.v).length + 2 ∧ (nextF ⟨s.v, s.p, s.d, s.n⟩).n = 0 := nextF_len _
    refine go ?_
    exact hK63 (nextF ⟨s.v, s.p, s.d, s.n⟩) ax67 gx67 cx67 ⟨hVx67, hDx67, hPx67, hNx67, hAx67, (by unfold fullF; rw [if_pos (by omega)])⟩
   refine go ?_
   exact hK63 s a1 g1 c1 ⟨I49, I50, I51, I52, hA, (by unfold fullF; rw [if_neg (by omega)])⟩
  rintro s1 a2 g2 c2 w64 ⟨I74, I75, I76, I77, hA2, hs1⟩ u65 zu65
  have lt_g2 := hA2.lt
  have hf := fullF_len s hsb.1
  rw [← hs1] at hf
  have hc : (nth t i).toNat = 48 ∨ (nth t i).toNat = 49 := (ht (nth t i) (nth_mem (by omega))).elim (fun h => .inl (by rw [h]; rfl)) (fun h => .inr (by rw [h]; rfl))
  refine go ?_
  refine c_drawnM follows (fun i => i = bk8) (OTl [0, 2, 4, 8, 10, 12, 14, 16, 18, 7, 20, 22, 25]) (by kernel_rfl) fun w80 u81 => ?_
  have zu81 := u81.size
  refine go ?_
  refine y_quo rfl rfl rfl rfl (by omega) (by omega) (y_same 23 (v := .int .i64 ((s1.n / 8 : Nat) : Int)) rfl (congrArg (Value.int .i64) (by omega)) ?_)
  refine y_indexArr (j := (s1.n / 8 : Nat)) (0 + (s1.n / 8 : Nat) * 1) underlying111 sizeOf5 rfl rfl rfl rfl rfl (by omega) rfl ?_
  refine go ?_
  refine y_bo (Bo.ari8 rfl (by omega)) rfl rfl rfl rfl (y_same 27 (v := .int .u8 (((nth t i).toNat - 48 : Nat) : Int)) rfl (congrArg (Value.int .u8) (by omega)) ?_)
  refine go ?_
  refine y_rem rfl rfl rfl rfl (by omega) (by omega) ?_
  refine st1 ?_
  refine y_same 30 (v := .int .i64 ((7 - s1.n % 8 : Nat) : Int)) rfl (congrArg (Value.int .i64) (by omega)) (y_bo (Bo.shl8 (7 - s1.n % 8) rfl (by omega) (by omega)) rfl rfl rfl rfl (y_same 31 (v := .int .u8 ((bitV (nth t i) s1.n).toNat : Int)) rfl (congrArg (Value.int .u8) (bitV_val (by omega))) ?_))
  refine go ?_
  have B83 := (I75.kx u81)
  refine t_load isAgg5 rfl rfl rfl (((SlY.own B83).at_ (s1.n / 8 : Nat) (by rw [s1.d.h]; omega)) 0 _ rfl) ?_
  refine go ?_
  refine y_bo (Bo.or8 (nth s1.d.l (s1.n / 8 : Nat)) (bitV (nth t i) s1.n)) rfl rfl rfl rfl ?_
  refine y_indexArr (j := (s1.n / 8 : Nat)) (0 + (s1.n / 8 : Nat) * 1) underlying111 sizeOf5 rfl rfl rfl rfl rfl (by omega) rfl ?_
  refine go ?_
  refine t_storeY (ls := s1.d.l) (v := ((nth s1.d.l (s1.n / 8 : Nat)) ||| (bitV (nth t i) s1.n))) (s1.n / 8 : Nat) sizeOf5 rfl rfl rfl B83 (by rw [s1.d.h]; omega) (fun w84 sw84 B86 u85 => ?_)
  refine go ?_
  refine x_s fun w88 sw88 B90 u89 => ?_
  refine go ?_
  have B92 := (((I74.kx u81).keep u85 (by omega)).keep u89 (by omega))
  have B93 := (B86.keep u89 (by omega))
  have B94 := (((I76.kx u81).keep u85 (by omega)).keep u89 (by omega))
  have D95 := (((hA2.keep u81 (fun _ h => h)).keep u85 (fun hb => show ¬ (g2 = bk8) by first | omega | assumption)).keep u89 (fun hb => show ¬ (g2 = bk19) by first | omega | assumption))
  exact hK46 (i + 1) (⟨s1.v, s1.p, putBit s1.d s1.n (nth t i), s1.n + 1⟩) a2 g2 c2 ⟨B92, B93, B94, B90, (by omega), D95, (by rw [take_nth (by omega), fsP_snoc, ← hs]; show _ = stepF s _; unfold stepF; rw [← hs1]), (fsP_next hs (by omega) hs1)⟩
 refine go ?_
 have B99 := (B36.keep u48 (by omega))
 refine x_c func123 rfl rfl (next_c bk13 bk8 bk29 bk19 s.p s.d s.n bk2 w34.heap.size a1 g1 c1 s.v _ I51 I50 B99 I52 (by omega) I49 hA (by omega) (by omega)) ?_
 rintro v100 w101 ⟨⟨hPx98, hDx98, hNx98, ax98, gx98, cx98, hVx98, hAx98, hGx98⟩, u102⟩ zu102
 have lt_gx98 := hAx98.lt
 have hlx98 : (nextF ⟨s.v, s.p, s.d, s.n⟩).v.length ≤ (s.v).length + 2 ∧ (nextF ⟨s.v, s.p, s.d, s.n⟩).n = 0 := nextF_len _
 refine go ?_
 refine t_rem rfl rfl rfl rfl (by omega) (by omega) ?_
 refine go ?_
 refine q_p (fun g42 => ?_) fun g42 => ?_
 ·
  refine go ?_
  refine t_ldY (l := (nextF ⟨s.v, s.p, s.d, s.n⟩).p.l) isAgg111 sizeOf111 rfl rfl rfl hPx98.at (Bk.h ((nextF ⟨s.v, s.p, s.d, s.n⟩).p)) ?_
  refine x_c func122 rfl rfl (end_c ((nextF ⟨s.v, s.p, s.d, s.n⟩).p) bk2 w34.heap.size ax98 gx98 cx98 ((nextF ⟨s.v, s.p, s.d, s.n⟩).v) _ hVx98 hAx98 (by omega) (by omega) (by omega)) ?_
  rintro v107 w108 ⟨⟨ae106, ge106, ce106, hBe106, hAe106, hGe106⟩, u109⟩ zu109
  have hle106 : ((nextF ⟨s.v, s.p, s.d, s.n⟩).v ++ [((nextF ⟨s.v, s.p, s.d, s.n⟩).p).shutB (((nextF ⟨s.v, s.p, s.d, s.n⟩).v).length)]).length = ((nextF ⟨s.v, s.p, s.d, s.n⟩).v).length + 1 := by simp
  have lt_ge106 := hAe106.lt
  refine go ?_
  refine x_s fun w113 sw113 B115 u114 => ?_
  refine go ?_
  refine f_ret1 (v := .slice ae106 ((((nextF ⟨s.v, s.p, s.d, s.n⟩).v ++ [((nextF ⟨s.v, s.p, s.d, s.n⟩).p).shutB (((nextF ⟨s.v, s.p, s.d, s.n⟩).v).length)])).length) ce106) results74 ⟨_, _, rfl, run_loadVar1 isAgg105 (B115.get rfl)⟩ ?_
  have D117 := (hAe106.keep u114 (fun hb => show ¬ (ge106 = bk2) by first | omega | assumption))
  have hit : i = t.length := by omega
  subst hit
  rw [List.take_length] at hs
  subst hs
  have hfp : fillP t = ((nextF ⟨(fsP t).v, (fsP t).p, (fsP t).d, (fsP t).n⟩).v ++ [((nextF ⟨(fsP t).v, (fsP t).p, (fsP t).d, (fsP t).n⟩).p).shutB (((nextF ⟨(fsP t).v, (fsP t).p, (fsP t).d, (fsP t).n⟩).v).length)]) := by unfold fillP endF; rw [if_pos (by show (nextF ⟨(fsP t).v, (fsP t).p, (fsP t).d, (fsP t).n⟩).v.length % 5 ≠ 0; omega)]
  rw [hfp]
  exact ⟨⟨ae106, ge106, ce106, rfl, Acc.lowP D117 (by have h9 := nextF_pos ⟨(fsP t).v, (fsP t).p, (fsP t).d, (fsP t).n⟩; first | exact h9 | (rw [List.length_append]; omega)) (by omega)⟩, u_d⟩
 refine go ?_
 refine x_s fun w119 sw119 B121 u120 => ?_
 refine go ?_
 refine f_ret1 (v := .slice ax98 (((nextF ⟨s.v, s.p, s.d, s.n⟩).v).length) cx98) results74 ⟨_, _, rfl, run_loadVar1 isAgg105 (B121.get rfl)⟩ ?_
 have D123 := (hAx98.keep u120 (fun hb => show ¬ (gx98 = bk2) by first | omega | assumption))
 have hit : i = t.length := by omega
 subst hit
 rw [List.take_length] at hs
 subst hs
 have hfp : fillP t = (nextF ⟨(fsP t).v, (fsP t).p, (fsP t).d, (fsP t).n⟩).v := by unfold fillP endF; rw [if_neg (by show ¬ ((nextF ⟨(fsP t).v, (fsP t).p, (fsP t).d, (fsP t).n⟩).v.length % 5 ≠ 0); omega)]
 rw [hfp]
 exact ⟨⟨ax98, gx98, cx98, rfl, Acc.lowP D123 (by have h9 := nextF_pos ⟨(fsP t).v, (fsP t).p, (fsP t).d, (fsP t).n⟩; first | exact h9 | (rw [List.length_append]; omega)) (by omega)⟩, u_d⟩

end Go.Proofs.YtagmkfbbhfaceaaGreatDoor
