/-
  The step lemmas for slices that a call gathers, maps, deferred calls, nil checks. Conditions: none; they hold over any program.
-/
import Derived.Test.YtagmodjadmecdaaGreatHDraw
import Derived.Deep.AppendLies
import Derived.Defers
import Derived.Laws.MakeOwn
namespace Go.Proofs.YtagmodjadmecdaaGreat
open Go Go.RowKit

/-! ### Slices that the call itself gathers -/
structure Acc {α : Type} (enc : α → List Value) (k : Nat) (e : TypeId) (base : Nat) (w : World) (ao : Option Addr) (g cap : Nat) (xs : List α) : Prop where
  lt : g < w.heap.size
  at_ : (ao = none ∧ xs = [] ∧ cap = 0 ∧ g < base) ∨ (ao = some ⟨g, 0, none⟩ ∧ base ≤ g ∧ ∃ cur : Array Value, w.heap[g]? = some (.cells cur e (0, 0)) ∧ xs.length ≤ cap ∧ cap ≤ maxLen ∧ cur.size = cap * k ∧ cur.toList.take (xs.length * k) = xs.flatMap enc)

theorem Acc.nil {α : Type} (enc : α → List Value) (k : Nat) (e : TypeId) (base : Nat) (w : World) (h0 : 0 < base) (h1 : base ≤ w.heap.size) : Acc enc k e base w none 0 0 [] := ⟨by omega, .inl ⟨rfl, rfl, rfl, h0⟩⟩

theorem Acc.keep {α : Type} {enc : α → List Value} {k : Nat} {e : TypeId} {base : Nat} {w w' : World} {S : Nat → Prop} {ao : Option Addr} {g cap : Nat} {xs : List α} (h : Acc enc k e base w ao g cap xs) (u : Upd S w w') (hn : base ≤ g → ¬ S g) : Acc enc k e base w' ao g cap xs := by
  refine ⟨Nat.lt_of_lt_of_le h.lt u.size, ?_⟩
  rcases h.at_ with h1 | ⟨h1, h2, cur, h3, h4⟩
  · exact .inl h1
  · exact .inr ⟨h1, h2, cur, (u.block g h.lt (hn h2)).trans h3, h4⟩
theorem Acc.kE {α : Type} {enc : α → List Value} {k : Nat} {e : TypeId} {base : Nat} {w w' : World} {ao : Option Addr} {g cap : Nat} {xs : List α} (h : Acc enc k e base w ao g cap xs) (u : Ext w w') : Acc enc k e base w' ao g cap xs := h.keep u (fun _ h => h)


theorem flatMap_len {α : Type} {enc : α → List Value} {k : Nat} (hk : ∀ x, (enc x).length = k) : ∀ xs : List α, (xs.flatMap enc).length = xs.length * k
  | [] => by simp
  | x :: xs => by simp [flatMap_len hk xs, hk, Nat.add_mul, Nat.add_comm]

theorem flatMap_at {α : Type} [Inhabited α] {enc : α → List Value} {k : Nat} (hk : ∀ x, (enc x).length = k) : ∀ (xs : List α) (i j : Nat) (v : Value), i < xs.length → (enc (nth xs i))[j]? = some v → (xs.flatMap enc)[i * k + j]? = some v
  | [], i, j, v, h, _ => by simp at h
  | x :: xs, 0, j, v, _, hv => by
    have hj : j < (enc x).length := by
      rcases Nat.lt_or_ge j (enc x).length with h | h
      · exact h
      · simp [nth, List.getElem?_eq_none h] at hv
    simp only [Nat.zero_mul, Nat.zero_add, List.flatMap_cons]
    rw [List.getElem?_append_left hj]
    simpa [nth] using hv
  | x :: xs, i + 1, j, v, h, hv => by
    have := flatMap_at hk xs i j v (by simpa using h) (by simpa [nth] using hv)
    rw [List.flatMap_cons, List.getElem?_append_right (by rw [hk, Nat.add_mul]; omega), hk, show (i + 1) * k + j - k = i * k + j from by rw [Nat.add_mul]; omega]
    exact this

theorem Acc.sl {α : Type} [Inhabited α] {enc : α → List Value} {k : Nat} {e : TypeId} {base : Nat} {w : World} {ao : Option Addr} {g cap : Nat} {xs : List α} (h : Acc enc k e base w ao g cap xs) (hk : ∀ x, (enc x).length = k) : Sl enc k w ao g 0 xs := by
  rcases h.at_ with ⟨_, h1, _⟩ | ⟨h1, h2, cur, h3, h4, _, h5, h6⟩
  · subst h1; exact Sl.nil _ _ _ _ _ _
  · refine ⟨fun _ => h1, fun _ => h.lt, fun i hi j v hv => ?_⟩
    have h7 := flatMap_at hk xs i j v hi hv
    rw [← h6] at h7
    have h8 : cur.toList[i * k + j]? = some v := by
      rw [List.getElem?_take] at h7
      split at h7
      · exact h7
      · cases h7
    simp only [World.cell?, h3, Nat.zero_add]
    simpa using h8

theorem Acc.cap_le {α : Type} {enc : α → List Value} {k : Nat} {e : TypeId} {base : Nat} {w : World} {ao : Option Addr} {g cap : Nat} {xs : List α} (h : Acc enc k e base w ao g cap xs) : xs.length ≤ cap := by
  rcases h.at_ with ⟨_, h1, _⟩ | ⟨_, _, _, _, h4, _⟩
  · subst h1; simp
  · exact h4

theorem Acc.owns {α : Type} {enc : α → List Value} {k : Nat} {e : TypeId} {base : Nat} {w : World} {ao : Option Addr} {g cap : Nat} {xs : List α} (h : Acc enc k e base w ao g cap xs) (hk : ∀ x, (enc x).length = k) :
    w.ownsRow base e k (.slice ao xs.length cap) xs.length (xs.flatMap enc) := by
  refine ⟨flatMap_len hk xs, ?_⟩
  rcases h.at_ with ⟨h1, h2, h3, _⟩ | ⟨h1, h2, cur, h3, h4, h5, h6, h7⟩
  · subst h1 h2 h3; exact .inl ⟨rfl, rfl⟩
  · subst h1; exact .inr ⟨g, cap, cur, rfl, h2, h3, h4, h5, h6, h7⟩

theorem info_parts' {P : Program} {e : TypeId} {z : Value} {size bytes : Nat} (h : (P.info? e).map (fun i => (i.zero, i.size, i.bytes)) = some (some z, size, bytes)) : ∃ i, P.info? e = some i ∧ i.zero = some z ∧ i.size = size ∧ i.bytes = bytes := by
  cases hi : P.info? e with
  | none => simp [hi] at h
  | some i => simp [hi] at h; exact ⟨i, rfl, h.1, h.2.1, h.2.2⟩

/-! ### A map from pairs of integers -/
def key2 (a b : Int) : Value := .agg #[.int .i64 a, .int .i64 b]

def Memo (F : Int → Int → Value → Prop) (w : World) (r : Nat) : Prop := ∃ es clock, w.heap[r]? = some (.map es clock) ∧ ∀ e ∈ es.toList, ∃ a b, e.key = key2 a b ∧ F a b e.val

theorem Memo.lt {w : World} {F : Int → Int → Value → Prop} {r : Nat} (h : Memo F w r) : r < w.heap.size := by obtain ⟨es, c, h, _⟩ := h; exact lt_of_block h
theorem Memo.keep {w : World} {F : Int → Int → Value → Prop} {r : Nat} {w' : World} {S : Nat → Prop} (h : Memo F w r) (u : Upd S w w') (hn : ¬ S r) : Memo F w' r := by
  obtain ⟨es, c, h1, h2⟩ := h
  exact ⟨es, c, (u.block r (lt_of_block h1) hn).trans h1, h2⟩

section steps
variable {rd : Option Nat} {P : Program} {ops : Array Oper} {Q : Exit → Act → World → Prop} {N : Nat} {ds : List Deferred} {rest : List Oper} {L : Slots} {w : World}
variable {d : Nat} {ty : TypeId} {pos : String} {aft : Array Edge} {g : Option (Nat × Bool)}

theorem t_append {α : Type} {enc : α → List Value} {k : Nat} {t e : TypeId} {z : Value} {bytes base : Nat} {s x : Operand} {ao : Option Addr} {gb cap b c : Nat} {xs : List α} (y : α)
    (hu : P.underlying t = some (.slice e)) (hi : (P.info? e).map (fun i => (i.zero, i.size, i.bytes)) = some (some z, k, bytes)) (hz : z.cells.size = k) (hk0 : 0 < k) (hk : ∀ x, (enc x).length = k) (h1 : ∀ x, ∀ u ∈ enc x, u.oneCell' = true)
    (hg : grd ops L g = true) (hN : Nat.blt d N = true) (hs : ev L s = some (.slice ao xs.length cap)) (hx : ev L x = some (.slice (some ⟨b, 0, none⟩) 1 c))
    (ha : Acc enc k e base w ao gb cap xs) (hb : Blk w b e (enc y)) (hbase : base ≤ w.heap.size) (hlen : xs.length ≤ 1000000) (hbytes : bytes ≤ 1000)
    (h : ∀ ao' g' cap' w', Acc enc k e base w' ao' g' cap' (xs ++ [y]) → Upd (fun i => i = gb ∧ base ≤ i) w w' → (g' = gb ∨ w.heap.size ≤ g') → (xs ++ [y]).length = xs.length + 1 → WL rd P ops Q N ds rest ((d, .slice ao' (xs ++ [y]).length cap') :: L) w') :
    WL rd P ops Q N ds (⟨some d, .call ⟨.builtin .append, #[s, x], #[t, t]⟩, ty, pos, aft, g⟩ :: rest) L w := by
  obtain ⟨i, hi0, hi1, hi2, hi3⟩ := info_parts' hi
  obtain ⟨gg, cc, w', hr, hown, hgrow, hgeq⟩ := run_append_lies (P := P) (w := w) t ty base e i z k bytes hu hi0 hi1 hi2 hi3 hz hk0 (.slice ao xs.length cap) xs.length (xs.flatMap enc) (ha.owns hk)
    ⟨b, 0, none⟩ 1 c (enc y) (by rw [hk, Nat.one_mul]) (fun j u hj => by rw [addr_add, Nat.zero_add]; exact hb.get hj) (h1 y) (by decide) (by unfold maxLen; omega) (by
      have : (xs.length + 1) * bytes ≤ 1000001 * 1000 := Nat.mul_le_mul (by omega) hbytes
      omega) hbase _ rfl
  have hlen' : (xs ++ [y]).length = xs.length + 1 := by simp
  have hacc : Acc enc k e base w' (some ⟨gg, 0, none⟩) gg cc (xs ++ [y]) := by
    obtain ⟨hl, hown⟩ := hown
    rcases hown with ⟨h0, _⟩ | ⟨g2, cap2, cur, he, hbg, hh, hc1, hc2, hc3, hc4⟩
    · cases h0
    · cases he
      refine ⟨?_, .inr ⟨rfl, hbg, cur, hh, by rw [hlen']; exact hc1, hc2, hc3, ?_⟩⟩
      · rcases Nat.lt_or_ge gg w'.heap.size with h | h
        · exact h
        · rw [Array.getElem?_eq_none h] at hh; cases hh
      · rw [hlen']; simpa using hc4
  have hupd : Upd (fun i => i = gb ∧ base ≤ i) w w' := ⟨hgrow.os, hgrow.tape, hgrow.output, hgrow.size, fun q hq hn => hgrow.block q hq (fun he => by
    rcases ha.at_ with ⟨h1, _, _, _⟩ | ⟨h1, h2, _⟩
    · subst h1; cases he
    · subst h1; simp [Value.ownBlock] at he; exact hn ⟨he, by omega⟩)⟩
  have hge : gg = gb ∨ w.heap.size ≤ gg := by
    rcases hgeq with h | h
    · left
      rcases ha.at_ with ⟨h1, _, _, _⟩ | ⟨h1, h2, _⟩
      · subst h1; simp [Value.ownBlock] at h
      · subst h1; simp [Value.ownBlock] at h; omega
    · right; omega
  have := h _ _ _ w' hacc hupd hge hlen'
  refine WL.value hg rfl hN (fun a hk' => ?_) this
  simp only [execOp, resolve, invoke, builtin]
  simp [hk'.ev hs, hk'.ev hx, hr]

theorem t_nilchk {x : Operand} {a : Addr} (hg : grd ops L g = true) (hN : Nat.blt d N = true) (hx : ev L x = some (.pointer (some a)))
    (h : WL rd P ops Q N ds rest ((d, .pointer (some a)) :: L) w) : WL rd P ops Q N ds (⟨some d, .nilCheck x, ty, pos, aft, g⟩ :: rest) L w :=
  WL.value hg rfl hN (fun a hk => by simp [execOp, hk.ev hx]) h

theorem t_fieldv {s : TypeId} {x : Operand} {fs : Array Field} {f : Field} {i : Nat} {cs : List Value} {v : Value} (hu : P.underlying s = some (.struct fs)) (hf : fs[i]? = some f) (ha : ∀ w, (isAgg f.type).run P w = .ok false w)
    (hg : grd ops L g = true) (hN : Nat.blt d N = true) (hx : ev L x = some (.agg cs.toArray)) (hv : cs[f.offset]? = some v)
    (h : WL rd P ops Q N ds rest ((d, v) :: L) w) : WL rd P ops Q N ds (⟨some d, .field s x i, ty, pos, aft, g⟩ :: rest) L w :=
  WL.value hg rfl hN (fun a hk => by simp [execOp, hk.ev hx, Instr.field, run_underlying hu, hf, part, ha, asAgg, hv]) h

def subAddr (ao : Option Addr) (cap l k : Nat) : Option Addr := if cap = l then ao else ao.map (·.add (l * k))

theorem t_sliceTo {t e : TypeId} {x hi : Operand} {ao : Option Addr} {n cap k : Nat} {kh : IntKind} {mh : Int} (m : Nat) (hu : P.underlying t = some (.slice e)) (hsz : ∀ w, (sizeOf e).run P w = .ok k w)
    (hg : grd ops L g = true) (hN : Nat.blt d N = true) (hx : ev L x = some (.slice ao n cap)) (hhi : ev L hi = some (.int kh mh)) (e2 : mh = (m : Int)) (b2 : m ≤ cap)
    (h : WL rd P ops Q N ds rest ((d, .slice (subAddr ao cap 0 k) m cap) :: L) w) : WL rd P ops Q N ds (⟨some d, .slice t x none (some hi) none, ty, pos, aft, g⟩ :: rest) L w :=
  WL.value hg rfl hN (fun a hk => by
    subst e2
    have q1 : (0 : Int) ≤ (m : Int) ∧ (m : Int) ≤ (cap : Int) := by omega
    simp [execOp, Instr.sliceAt, run_underlying hu, Instr.slice, Instr.sliceBounds, Instr.sliceBound, hk.ev hx, hk.ev hhi, asIntOf, b2, hsz, subAddr]) h

theorem t_makemap {t : TypeId} (hg : grd ops L g = true) (hN : Nat.blt d N = true)
    (h : ∀ r w', r = w.heap.size → w'.heap.size = w.heap.size + 1 → (∀ F, Memo F w' r) → Ext w w' → WL rd P ops Q N ds rest ((d, .map (some r)) :: L) w') : WL rd P ops Q N ds (⟨some d, .makeMap t none, ty, pos, aft, g⟩ :: rest) L w :=
  WL.value (w' := w.alloc (.map #[] 0)) hg rfl hN (fun a hk => by simp [execOp, Instr.makeMap, newObj, Sem.run]) (h _ _ rfl (by simp) (fun F => ⟨#[], 0, by show (w.heap.push _)[w.heap.size]? = _; simp, by simp⟩) (Upd.alloc _ _))

theorem t_sliceFrom {t e : TypeId} {x lo : Operand} {ao : Option Addr} {n cap k : Nat} {kl : IntKind} {ml : Int} (l : Nat) (hu : P.underlying t = some (.slice e)) (hsz : ∀ w, (sizeOf e).run P w = .ok k w)
    (hg : grd ops L g = true) (hN : Nat.blt d N = true) (hx : ev L x = some (.slice ao n cap)) (hlo : ev L lo = some (.int kl ml)) (e1 : ml = l) (b1 : l ≤ n) (b2 : n ≤ cap)
    (h : WL rd P ops Q N ds rest ((d, .slice (subAddr ao cap l k) (n - l) (cap - l)) :: L) w) : WL rd P ops Q N ds (⟨some d, .slice t x (some lo) none none, ty, pos, aft, g⟩ :: rest) L w :=
  WL.value hg rfl hN (fun a hk => by
    subst e1
    simp [execOp, Instr.sliceAt, run_underlying hu, Instr.slice, Instr.sliceBounds, Instr.sliceBound, hk.ev hx, hk.ev hlo, asIntOf, b1, hsz, subAddr]) h

theorem nth_drop {α : Type} [Inhabited α] (xs : List α) (l i : Nat) : nth (xs.drop l) i = nth xs (l + i) := by simp [nth, List.getD_eq_getElem?_getD]
theorem nth_take {α : Type} [Inhabited α] {xs : List α} {n i : Nat} (h : i < n) : nth (xs.take n) i = nth xs i := by simp [nth, List.getD_eq_getElem?_getD, List.getElem?_take, h]

theorem Sl.sub {α : Type} [Inhabited α] {enc : α → List Value} {k : Nat} {w : World} {ao : Option Addr} {b o : Nat} {xs : List α} (h : Sl enc k w ao b o xs) (cap l n : Nat) (hc : xs.length ≤ cap) : Sl enc k w (subAddr ao cap l k) b (o + l * k) ((xs.drop l).take n) := by
  refine ⟨fun hp => ?_, fun hp => ?_, fun i hi => ?_⟩
  · simp at hp
    have := h.addr (by omega)
    subst this
    unfold subAddr
    rw [if_neg (by omega)]
    simp [addr_add]
  · simp at hp; exact h.lt (by omega)
  · simp at hi
    rw [nth_take (by omega), nth_drop]
    have := h.at_ (l + i) (by omega)
    rwa [Nat.add_mul, ← Nat.add_assoc] at this

/-! ### Deferred calls -/
variable {R : Value → World → Prop} {c : Code}

structure Key2 (P : Program) (K E : TypeId) : Prop where
  und : P.underlying K = some (.array 2 E)
  elt : P.underlying E = some (.int .i64)
  agg : ∀ w, (isAgg E).run P w = .ok false w
  siz : ∀ w, (sizeOf E).run P w = .ok 1 w

theorem range2 : List.range' 0 2 = [0, 1] := rfl

theorem equal_i64 {E : TypeId} (h : P.underlying E = some (.int .i64)) (n : Nat) (a c : Int) (w : World) : (Op.equalIn (n + 1) E (.int .i64 a) (.int .i64 c)).run P w = .ok (decide (a = c)) w := by
  simp [Op.equalIn, run_underlying h, Bool.beq_eq_decide_eq]

theorem Key2.equalIn {K E : TypeId} (h : Key2 P K E) (n : Nat) (a b c d : Int) (w : World) : (Op.equalIn (n + 2) K (key2 a b) (key2 c d)).run P w = .ok (decide (a = c) && decide (b = d)) w := by
  have h1 := h.und
  have e1 := equal_i64 h.elt n
  have p1 : ∀ x y : Int, (part E #[.int .i64 x, .int .i64 y] 0).run P w = .ok (.int .i64 x) w := fun x y => by simp [part, h.agg]
  have p2 : ∀ x y : Int, (part E #[.int .i64 x, .int .i64 y] 1).run P w = .ok (.int .i64 y) w := fun x y => by simp [part, h.agg]
  rw [Op.equalIn]
  simp only [key2, Sem.run_bind, run_underlying h1, Result.andThen_ok, h.siz, Std.Legacy.Range.forIn_eq_forIn_range', Std.Legacy.Range.size, Nat.sub_zero, Nat.add_one_sub_one, Nat.div_one, range2, List.forIn_cons, List.forIn_nil, Nat.zero_mul, Nat.one_mul, p1, p2, e1]
  by_cases q1 : a = c <;> by_cases q2 : b = d <;> simp [q1, q2, p2, e1]

theorem Key2.equal {K E : TypeId} (h : Key2 P K E) (a b c d : Int) (w : World) : (Op.equal K (key2 a b) (key2 c d)).run P w = .ok (decide (a = c) && decide (b = d)) w :=
  h.equalIn 9998 a b c d w

theorem Key2.find {K E : TypeId} {F : Int → Int → Value → Prop} (h : Key2 P K E) (a b : Int) : ∀ (es : List MapEntry) (i : Nat), (∀ e ∈ es, ∃ a b, e.key = key2 a b ∧ F a b e.val) →
    ∃ r, (∀ w, (Instr.findAsking K (key2 a b) es i).run P w = .ok r w) ∧ match r with
      | none => True
      | some (j, v) => F a b v ∧ i ≤ j ∧ (es[j - i]?).map (·.key) = some (key2 a b)
  | [], i, _ => ⟨none, by simp [Instr.findAsking], trivial⟩
  | e :: es, i, hes => by
    obtain ⟨c, d, hk, hF⟩ := hes e (by simp)
    have he := h.equal a b c d
    by_cases hq : a = c ∧ b = d
    · obtain ⟨rfl, rfl⟩ := hq
      refine ⟨some (i, e.val), fun w => ?_, hF, Nat.le_refl _, ?_⟩
      · simp only [Instr.findAsking, Sem.run_bind, hk, he]
        simp
      · simp [hk]
    · obtain ⟨r, hr, hm⟩ := Key2.find h a b es (i + 1) (fun e he => hes e (by simp [he]))
      refine ⟨r, fun w => ?_, ?_⟩
      · have : (decide (a = c) && decide (b = d)) = false := by simpa using hq
        simp only [Instr.findAsking, Sem.run_bind, hk, he, this]
        simpa using hr w
      · cases r with
        | none => trivial
        | some p =>
          obtain ⟨j, v⟩ := p
          obtain ⟨q1, q2, q3⟩ := hm
          refine ⟨q1, by omega, ?_⟩
          rw [show j - i = (j - (i + 1)) + 1 from by omega]
          simpa using q3

theorem Key2.findKey {K E : TypeId} {F : Int → Int → Value → Prop} (h : Key2 P K E) (a b : Int) (es : List MapEntry) (hes : ∀ e ∈ es, ∃ a b, e.key = key2 a b ∧ F a b e.val) :
    ∃ r, (∀ w, (Instr.findKey K (key2 a b) es).run P w = .ok r w) ∧ match r with
      | none => True
      | some (j, v) => F a b v ∧ (es[j]?).map (·.key) = some (key2 a b) := by
  have h1 := h.und
  cases es with
  | nil => exact ⟨none, fun w => by simp [Instr.findKey, run_underlying h1, Instr.findNow], trivial⟩
  | cons e es =>
    obtain ⟨c, d, hk, hF⟩ := hes e (by simp)
    obtain ⟨r, hr, hm⟩ := h.find (F := F) a b (e :: es) 0 hes
    refine ⟨r, fun w => ?_, ?_⟩
    · simp only [Instr.findKey, Sem.run_bind, run_underlying h1, Result.andThen_ok, Instr.findNow, hk, key2, Instr.sameNow]
      exact hr w
    · cases r with
      | none => trivial
      | some p => obtain ⟨j, v⟩ := p; obtain ⟨q1, _, q3⟩ := hm; exact ⟨q1, by simpa using q3⟩

def Found (P : Program) (K : TypeId) (z : Value) (w : World) (r : Nat) (a b : Int) (v : Value) (ok : Bool) : Prop :=
  ∃ es c, w.heap[r]? = some (.map es c) ∧ ((ok = true ∧ ∃ j, ∀ w, (Instr.findKey K (key2 a b) es.toList).run P w = .ok (some (j, v)) w) ∨ (ok = false ∧ v = z ∧ ∀ w, (Instr.findKey K (key2 a b) es.toList).run P w = .ok none w))

theorem Found.keep {K : TypeId} {z : Value} {r : Nat} {a b : Int} {v : Value} {ok : Bool} {w w' : World} {S : Nat → Prop} (h : Found P K z w r a b v ok) (u : Upd S w w') (hn : ¬ S r) : Found P K z w' r a b v ok := by
  obtain ⟨es, c, h1, h2⟩ := h
  exact ⟨es, c, (u.block r (lt_of_block h1) hn).trans h1, h2⟩

end steps
end Go.Proofs.YtagmodjadmecdaaGreat
