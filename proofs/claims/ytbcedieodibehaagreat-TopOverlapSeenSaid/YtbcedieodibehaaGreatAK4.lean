/-
  Part 4 of the proof: contracts and plain laws. Conditions: none.
-/
import Derived.ProofKit
import Derived.OpenShut
import Derived.Deep.Slices
import Derived.ArgAppend
import Derived.Lib.AppendZerosOnto
import Derived.Lib.Overlaps
import Derived.Laws.Externs
import Derived.Lib.SliceRun
import Derived.LoopNIn
import Derived.Test.YtbcedieodibehaaGreatAK3
namespace Go.Proofs.YtbcedieodibehaaGreat
open Go Go.RowKit Go.ChangeShapes Go.WideShapes Go.ChangeAt

variable {H : Type} {enc : TypeId × Value → H} {P : Program} {w : World} {t e : TypeId} {cs : List Value}

/-- These cells read at type t. -/
def Rd (enc : TypeId × Value → H) (P : Program) (w : World) (t : TypeId) (cs : List Value) : Prop := ∃ fuel x, DataW.trod enc P w 0 (fun _ => true) true fuel t cs = some x

theorem Rd.of {v : Value} {d : DataW H} {p : List MemPlace} (h : DataW.Trod enc P w 0 (fun _ => true) true t v d p) : Rd enc P w t v.cells.toList := by
  obtain ⟨fuel, hf⟩ := h
  exact ⟨fuel, _, hf⟩

theorem Rd.int (ht : P.underlying t = some (.int .i64)) (h : Rd enc P w t cs) : ∃ n : Int, cs = [.int .i64 n] ∧ (-9223372036854775808 ≤ n ∧ n ≤ 9223372036854775807) := by
  obtain ⟨fuel, x, hf⟩ := h
  obtain ⟨n, h1, _, h2⟩ := DataW.trod_int ht hf
  refine ⟨n, h1, ?_⟩
  simp [Lit.wf] at h2
  have e : IntKind.i64.min = -9223372036854775808 := rfl
  omega

theorem Rd.bool (ht : P.underlying t = some .bool) (h : Rd enc P w t cs) : ∃ b : Bool, cs = [.bool b] := by
  obtain ⟨fuel, x, hf⟩ := h
  obtain ⟨b, h1, _⟩ := DataW.trod_bool ht hf
  exact ⟨b, h1⟩

theorem Rd.struct {fs : Array Field} (ht : P.underlying t = some (.struct fs)) (h : Rd enc P w t cs) : cs.length = P.cellsOf t ∧ ∀ (i : Nat) (f : Field), fs[i]? = some f → Rd enc P w f.type ((cs.drop f.offset).take (P.cellsOf f.type)) := by
  obtain ⟨fuel, x, hf⟩ := h
  obtain ⟨xs, n, _, _, h1, h2, h3⟩ := DataW.trod_struct ht hf
  refine ⟨h1, fun i f hi => ?_⟩
  have h4 := h3 i f hi
  have hlt : i < xs.length := by rw [h2]; exact (Array.getElem?_eq_some_iff.1 hi).1
  exact ⟨n, xs[i], by rw [h4]; simp [hlt]⟩

theorem Rd.array {n : Nat} (ht : P.underlying t = some (.array n e)) (h : Rd enc P w t cs) : cs.length = P.cellsOf t ∧ ∀ i, i < n → Rd enc P w e ((cs.drop (i * P.cellsOf e)).take (P.cellsOf e)) := by
  obtain ⟨fuel, x, hf⟩ := h
  obtain ⟨xs, m, _, _, h1, h2, h3⟩ := DataW.trod_array ht hf
  refine ⟨h1, fun i hi => ?_⟩
  exact ⟨m, xs[i], by rw [h3 i hi]; simp [show i < xs.length by omega]⟩

/-- A slice that came in: each element's cells read at the element's type. -/
theorem Rd.slice (ht : P.underlying t = some (.slice e)) (hk : 0 < P.cellsOf e) (h : Rd enc P w t cs) : ∃ ao len cap, cs = [.slice ao len cap] ∧ len ≤ cap ∧ cap ≤ maxLen ∧
    (0 < len → ∃ b o, ao = some ⟨b, o, none⟩ ∧ b < w.heap.size ∧ ∀ i, i < len → ∃ cs', cs'.length = P.cellsOf e ∧ At w b (o + i * P.cellsOf e) cs' ∧ Rd enc P w e cs') := by
  obtain ⟨fuel, x, hf⟩ := h
  rcases Go.Deep.open_slice ht hf with ⟨h1, _⟩ | ⟨a, len, cap, m, n, D, Pl, h1, _, h2, h3, hm, _, h4⟩
  · exact ⟨none, 0, 0, h1, Nat.le_refl _, by decide, fun h => absurd h (Nat.lt_irrefl _)⟩
  · refine ⟨some a, len, cap, h1, h2, h3, fun hp => ?_⟩
    have hlm : len ≤ m := by rw [hm]; simp; exact h2
    have cell : ∀ i, i < len → ∃ cs', w.cells? 0 (a.add (i * P.cellsOf e)) (P.cellsOf e) = some cs' ∧ Rd enc P w e cs' := fun i hi => by
      obtain ⟨cs', q1, q2⟩ := h4 i (by omega)
      exact ⟨cs', q1, n, _, q2⟩
    obtain ⟨c0, q1, _⟩ := cell 0 hp
    obtain ⟨_, hl0, hc0⟩ := World.cells?_some q1
    have hfirst : w.cell? a = c0[0]? := by
      have := hc0 0 hk
      simpa [Addr.add] using this
    have hsp : a.spot = none := World.cell?_spot (by rw [hfirst]; exact List.getElem?_eq_getElem (by omega))
    obtain ⟨b, o, sp⟩ := a
    obtain rfl : sp = none := hsp
    refine ⟨b, o, rfl, World.cells?_block (by simpa [addr_add] using q1) hk, fun i hi => ?_⟩
    obtain ⟨cs', r1, r2⟩ := cell i hi
    obtain ⟨_, hl1, hc1⟩ := World.cells?_some r1
    refine ⟨cs', hl1, fun j v hj => ?_, r2⟩
    have hjl : j < P.cellsOf e := by rw [← hl1]; exact (List.getElem?_eq_some_iff.1 hj).1
    have := hc1 j hjl
    rw [addr_add, addr_add] at this
    rw [this, hj]

/-- A field of a struct that came in. -/
theorem Rd.fld {fs : Array Field} {f : Field} {u : TypeId} {o n : Nat} (ht : P.underlying t = some (.struct fs)) (h : Rd enc P w t cs) (i : Nat) (hi : fs[i]? = some f) (hu : f.type = u) (ho : f.offset = o) (hn : P.cellsOf u = n) : Rd enc P w u ((cs.drop o).take n) := by
  subst hu ho hn; exact (h.struct ht).2 i f hi

/-- An element of an array that came in. -/
theorem Rd.elt {n k : Nat} (ht : P.underlying t = some (.array n e)) (h : Rd enc P w t cs) (i : Nat) (hi : i < n) (hk : P.cellsOf e = k) : Rd enc P w e ((cs.drop (i * k)).take k) := by
  subst hk; exact (h.array ht).2 i hi

/-- A slice that came in, as a list of what its elements are. -/
theorem Rd.sl {α : Type} [Inhabited α] {enc' : α → List Value} {k : Nat} {R : α → Prop} (hk : P.cellsOf e = k) (hk0 : 0 < k) (ht : P.underlying t = some (.slice e)) (he : ∀ cs, Rd enc P w e cs → ∃ x, cs = enc' x ∧ R x) (h : Rd enc P w t cs) :
    ∃ (ao : Option Addr) (b o cap : Nat) (xs : List α), cs = [.slice ao xs.length cap] ∧ xs.length ≤ cap ∧ cap ≤ maxLen ∧ Sl enc' k w ao b o xs ∧ ∀ x ∈ xs, R x := by
  subst hk
  obtain ⟨ao, len, cap, h1, h2, h3, h4⟩ := h.slice ht hk0
  rcases Nat.eq_zero_or_pos len with h0 | h0
  · subst h0
    exact ⟨ao, 0, 0, cap, [], h1, h2, h3, Sl.nil _ _ _ _ _ _, fun x hx => by cases hx⟩
  · obtain ⟨b, o, hao, hb, hel⟩ := h4 h0
    have key : ∀ n, n ≤ len → ∃ xs : List α, xs.length = n ∧ (∀ i, i < n → At w b (o + i * P.cellsOf e) (enc' (nth xs i))) ∧ ∀ x ∈ xs, R x := by
      intro n
      induction n with
      | zero => exact fun _ => ⟨[], rfl, fun i hi => by omega, fun x hx => by cases hx⟩
      | succ n ih =>
        intro hn
        obtain ⟨xs, q1, q2, q3⟩ := ih (by omega)
        obtain ⟨cs', r1, r2, r3⟩ := hel n (by omega)
        obtain ⟨x, rfl, hx⟩ := he _ r3
        refine ⟨xs ++ [x], by simp [q1], fun i hi => ?_, fun y hy => ?_⟩
        · by_cases e : i = n
          · subst e
            have : nth (xs ++ [x]) i = x := by simp [nth, List.getD_eq_getElem?_getD, q1]
            rw [this]; exact r2
          · have : nth (xs ++ [x]) i = nth xs i := by simp [nth, List.getD_eq_getElem?_getD, List.getElem?_append_left (show i < xs.length by omega)]
            rw [this]; exact q2 i (by omega)
        · rcases List.mem_append.1 hy with hy | hy
          · exact q3 y hy
          · have : y = x := by simpa using hy
            subst this; exact hx
    obtain ⟨xs, q1, q2, q3⟩ := key len (Nat.le_refl _)
    subst q1
    exact ⟨ao, b, o, cap, xs, h1, h2, h3, ⟨fun _ => hao, fun _ => hb, q2⟩, q3⟩

end Go.Proofs.YtbcedieodibehaaGreat
namespace Go.Proofs.YtbcedieodibehaaGreat
open Go Go.RowKit

/-- Only draws, and blocks that are new. -/
def Gr (w w' : World) : Prop := w'.os = w.os ∧ w'.tape = w.tape ∧ w'.output = w.output ∧ w.drawn ≤ w'.drawn ∧ ∃ os : Array Obj, w'.heap = w.heap ++ os
theorem Gr.refl (w : World) : Gr w w := ⟨rfl, rfl, rfl, Nat.le_refl _, #[], by simp⟩
theorem Gr.trans {a b c : World} (h : Gr a b) (k : Gr b c) : Gr a c := by
  obtain ⟨h1, h2, h3, h4, x, h5⟩ := h
  obtain ⟨k1, k2, k3, k4, y, k5⟩ := k
  exact ⟨k1.trans h1, k2.trans h2, k3.trans h3, Nat.le_trans h4 k4, x ++ y, by rw [k5, h5, Array.append_assoc]⟩
theorem Gr.alloc (w : World) (o : Obj) : Gr w (w.alloc o) := ⟨rfl, rfl, rfl, Nat.le_refl _, #[o], by show w.heap.push o = _; simp⟩
theorem Gr.drew (w : World) : Gr w w.drew := ⟨rfl, rfl, rfl, Nat.le_succ _, #[], by show w.heap = _; simp⟩

section
variable {P : Program} {ops : Array Oper} {Q : Exit → Act → World → Prop} {N : Nat} {ds : List Deferred} {rest : List Oper} {L : Slots} {w : World} {rd : Option Nat} {d : Nat} {ty : TypeId} {pos : String} {aft : Array Edge} {g : Option (Nat × Bool)}
theorem t_boxG {e : TypeId} {x : Operand} {v : Value} {cs : List Value} (hg : grd ops L g = true) (hN : Nat.blt d N = true) (hx : ev L x = some v) (hc : v.cells = cs.toArray)
    (h : ∀ b w', b = w.heap.size → w'.heap.size = w.heap.size + 1 → Blk w' b e cs → Ext w w' → Gr w w' → WL rd P ops Q N ds rest ((d, .pointer (some ⟨b, 0, none⟩)) :: L) w') :
    WL rd P ops Q N ds (⟨some d, .box e x, ty, pos, aft, g⟩ :: rest) L w :=
  WL.value (w' := w.alloc (.cells cs.toArray e)) hg rfl hN (fun a hk => by simp [execOp, hk.ev hx, Instr.box, newVar, newRow, newObj, Sem.run, hc]) (h _ _ rfl (by simp) (Blk.new _ _ _) (Upd.alloc _ _) (Gr.alloc _ _))
theorem t_bsliceG {t e : TypeId} {n : Nat} {parts : Array (Nat × Operand)} {ps : List (Nat × Value)} {cs : List Value} (hg : grd ops L g = true) (hN : Nat.blt d N = true)
    (hp : evs L (parts.toList.map (·.2)) = some (ps.map (·.2)) ∧ parts.toList.map (·.1) = ps.map (·.1))
    (hr : ∀ w, (Instr.buildSlice t n ps.toArray).run P w = .ok (.slice (some ⟨w.heap.size, 0, none⟩) n n) (w.alloc (.cells cs.toArray e)))
    (h : ∀ b w', b = w.heap.size → w'.heap.size = w.heap.size + 1 → Blk w' b e cs → Ext w w' → Gr w w' → WL rd P ops Q N ds rest ((d, .slice (some ⟨b, 0, none⟩) n n) :: L) w') :
    WL rd P ops Q N ds (⟨some d, .buildSlice t n parts, ty, pos, aft, g⟩ :: rest) L w :=
  WL.value hg rfl hN (fun a hk => by
    have e : parts.map (fun (i, x) => (i, a.eval x)) = ps.toArray := parts_ev hk hp.1 hp.2
    simp only [execOp]
    rw [e]
    simp [hr]) (h _ _ rfl (by simp) (Blk.new _ _ _) (Upd.alloc _ _) (Gr.alloc _ _))
theorem c_drawnMG {id : Nat} {L0 : Slots} {l : List Oper} (hm : P.follows .mixedOrders = true) (T : Nat → Prop) (t : OT) (hc : (l.all plainB && t.ok l (List.range l.length) []) = true)
    (h : ∀ w1, Ext w w1 → Gr w w1 → SC rd P l.toArray Q N ds w1 (SW w1.heap.size T) (OX.of l t) L0 w1) : WC rd P Q N ds (.region id l.toArray true) L0 w := by
  simp only [Bool.and_eq_true] at hc
  obtain ⟨h1, h2⟩ := hc
  refine ⟨fun a ha => ?_⟩
  refine wpIn_region_any hm (wAny.any ((SC.run (S := SW w.drew.heap.size T) (w1 := w.drew) ?_ ?_ t (List.range l.length) [] _ a _ L0 _ (by simp) (fun j hj => List.mem_range.1 hj) (fun j hj => ?_) h2 (by simp) (Upd.refl _ _) ha (h w.drew (Upd.drew _) (Gr.drew _))).1 rfl))
  · intro j o cs b ho he
    have := List.all_eq_true.1 h1 o (List.mem_of_getElem? (by simpa using ho))
    simp [plainB, he] at this
  · intro j o c ho he
    have := List.all_eq_true.1 h1 o (List.mem_of_getElem? (by simpa using ho))
    simp [plainB, he] at this
  · rw [Array.getD_eq_getD_getElem?]
    simp [hj]
end
end Go.Proofs.YtbcedieodibehaaGreat
namespace Go.Proofs.YtbcedieodibehaaGreat
open Go Go.RowKit

theorem Acc.lit {α : Type} (enc : α → List Value) (k : Nat) {e : TypeId} {base : Nat} {w : World} {b : Nat} (h : Blk w b e []) (hb : base ≤ b) : Acc enc k e base w (some ⟨b, 0, none⟩) b 0 [] :=
  ⟨h.lt, .inr ⟨rfl, hb, #[], h, Nat.le_refl _, by decide, by simp, by simp⟩⟩

theorem sl_cells {α : Type} [Inhabited α] {enc : α → List Value} {k : Nat} (hk0 : 0 < k) (hk : ∀ x, (enc x).length = k) {w : World} {ao : Option Addr} {b o : Nat} {xs : List α} (h : Sl enc k w ao b o xs) : ∀ j u, (xs.flatMap enc)[j]? = some u → w.cell? (Addr.add ⟨b, o, none⟩ j) = some u := by
  intro j u hj
  have hlt : j < xs.length * k := by
    rw [← flatMap_len hk xs]
    exact (List.getElem?_eq_some_iff.1 hj).1
  have hi : j / k < xs.length := (Nat.div_lt_iff_lt_mul hk0).2 hlt
  have hm : j % k < k := Nat.mod_lt _ hk0
  have h2 := flatMap_at hk xs (j / k) (j % k) ((enc (nth xs (j / k)))[j % k]'(by rw [hk]; exact hm)) hi (by simp [hk, hm])
  rw [Nat.div_add_mod'] at h2
  rw [h2] at hj
  cases hj
  have := h.at_ (j / k) hi (j % k) ((enc (nth xs (j / k)))[j % k]'(by rw [hk]; exact hm)) (by simp [hk, hm])
  rw [addr_add]
  rwa [Nat.add_assoc, Nat.div_add_mod'] at this

section
variable {rd : Option Nat} {P : Program} {ops : Array Oper} {Q : Exit → Act → World → Prop} {N : Nat} {ds : List Deferred} {rest : List Oper} {L : Slots} {w : World}
variable {d : Nat} {ty : TypeId} {pos : String} {aft : Array Edge} {g : Option (Nat × Bool)}

theorem t_appendAll {α : Type} [Inhabited α] {enc : α → List Value} {k : Nat} {t e : TypeId} {z : Value} {bytes base : Nat} {s x : Operand} {ao ay : Option Addr} {gb cap b o c : Nat} {xs ys : List α}
    (hu : P.underlying t = some (.slice e)) (hi : (P.info? e).map (fun i => (i.zero, i.size, i.bytes)) = some (some z, k, bytes)) (hz : z.cells.size = k) (hk0 : 0 < k) (hk : ∀ x, (enc x).length = k) (h1 : ∀ x, ∀ u ∈ enc x, u.oneCell' = true)
    (hg : grd ops L g = true) (hN : Nat.blt d N = true) (hs : ev L s = some (.slice ao xs.length cap)) (hx : ev L x = some (.slice ay ys.length c))
    (ha : Acc enc k e base w ao gb cap xs) (hb : Sl enc k w ay b o ys) (hbase : base ≤ w.heap.size) (hlen : xs.length ≤ 1000000) (hlen2 : ys.length ≤ 1000000) (hbytes : bytes ≤ 1000)
    (h : ∀ ao' g' cap' w', Acc enc k e base w' ao' g' cap' (xs ++ ys) → Upd (fun i => i = gb ∧ base ≤ i) w w' → (g' = gb ∨ w.heap.size ≤ g') → (xs ++ ys).length = xs.length + ys.length → WL rd P ops Q N ds rest ((d, .slice ao' (xs ++ ys).length cap') :: L) w') :
    WL rd P ops Q N ds (⟨some d, .call ⟨.builtin .append, #[s, x], #[t, t]⟩, ty, pos, aft, g⟩ :: rest) L w := by
  obtain ⟨i, hi0, hi1, hi2, hi3⟩ := info_parts' hi
  have hlen' : (xs ++ ys).length = xs.length + ys.length := by simp
  rcases Nat.eq_zero_or_pos ys.length with h0 | h0
  · have : ys = [] := List.eq_nil_of_length_eq_zero h0
    subst this
    have hle := ha.cap_le
    have hr : (Builtin.append_ #[t, t] ty #[.slice ao xs.length cap, .slice ay ([] : List α).length c]).run P w = .ok (.slice ao xs.length cap) w := by
      cases ao <;> cases ay <;> simp [Builtin.append_, run_underlying hu, sizeOf, typeInfo, hi0, Builtin.lenOf, Builtin.firstCells, loadCells, loadCellsFrom, storeCells, hle]
    have hacc : Acc enc k e base w ao gb cap (xs ++ []) := by simpa using ha
    have := h ao gb cap w hacc (Upd.refl _ _) (.inl rfl) hlen'
    rw [show (xs ++ ([] : List α)).length = xs.length from by simp] at this
    exact WL.value hg rfl hN (fun a hk' => by
      have hx' : a.eval x = .slice ay 0 c := hk'.ev hx
      have hr' : (Builtin.append_ #[t, t] ty #[.slice ao xs.length cap, .slice ay 0 c]).run P w = .ok (.slice ao xs.length cap) w := hr
      simp only [execOp, resolve, invoke, builtin]
      simp [hk'.ev hs, hx', hr']) this
  · have hay := hb.addr h0
    subst hay
    obtain ⟨gg, cc, w', hr, hown, hgrow, hgeq⟩ := run_append_lies (P := P) (w := w) t ty base e i z k bytes hu hi0 hi1 hi2 hi3 hz hk0 (.slice ao xs.length cap) xs.length (xs.flatMap enc) (ha.owns hk)
      ⟨b, o, none⟩ ys.length c (ys.flatMap enc) (flatMap_len hk ys) (sl_cells hk0 hk hb) (fun u hu => by
        obtain ⟨y, _, hy⟩ := List.mem_flatMap.1 hu
        exact h1 y u hy) h0 (by unfold maxLen; omega) (by
        have : (xs.length + ys.length) * bytes ≤ 2000000 * 1000 := Nat.mul_le_mul (by omega) hbytes
        omega) hbase _ rfl
    have hacc : Acc enc k e base w' (some ⟨gg, 0, none⟩) gg cc (xs ++ ys) := by
      obtain ⟨hl, hown⟩ := hown
      rcases hown with ⟨hq, _⟩ | ⟨g2, cap2, cur, he, hbg, hh, hc1, hc2, hc3, hc4⟩
      · cases hq
      · cases he
        refine ⟨?_, .inr ⟨rfl, hbg, cur, hh, by rw [hlen']; exact hc1, hc2, hc3, ?_⟩⟩
        · rcases Nat.lt_or_ge gg w'.heap.size with h | h
          · exact h
          · rw [Array.getElem?_eq_none h] at hh; cases hh
        · rw [hlen']; simpa using hc4
    have hupd : Upd (fun i => i = gb ∧ base ≤ i) w w' := ⟨hgrow.os, hgrow.tape, hgrow.output, hgrow.size, fun q hq hn => hgrow.block q hq (fun he => by
      rcases ha.at_ with ⟨h1, _, _, _⟩ | ⟨h1, h2, _⟩
      · subst h1; cases he
      · subst h1; simp [Value.ownBlock] at he; exact hn ⟨he, by omega⟩)⟩
    have hge : gg = gb ∨ w.heap.size ≤ gg := by
      rcases hgeq with h | h
      · left
        rcases ha.at_ with ⟨h1, _, _, _⟩ | ⟨h1, h2, _⟩
        · subst h1; simp [Value.ownBlock] at h
        · subst h1; simp [Value.ownBlock] at h; omega
      · right; omega
    have := h _ _ _ w' hacc hupd hge hlen'
    rw [hlen'] at this
    refine WL.value hg rfl hN (fun a hk' => ?_) this
    simp only [execOp, resolve, invoke, builtin]
    simp [hk'.ev hs, hk'.ev hx, hr]

/-- append([]E{}, xs...): a copy. -/
theorem t_copy {α : Type} [Inhabited α] {enc : α → List Value} {k : Nat} {t e : TypeId} {z : Value} {bytes bk : Nat} {s x : Operand} {ay : Option Addr} {b o c : Nat} {ys : List α}
    (hu : P.underlying t = some (.slice e)) (hi : (P.info? e).map (fun i => (i.zero, i.size, i.bytes)) = some (some z, k, bytes)) (hz : z.cells.size = k) (hk0 : 0 < k) (hk : ∀ x, (enc x).length = k) (h1 : ∀ x, ∀ u ∈ enc x, u.oneCell' = true)
    (hg : grd ops L g = true) (hN : Nat.blt d N = true) (hs : ev L s = some (.slice (some ⟨bk, 0, none⟩) 0 0)) (hx : ev L x = some (.slice ay ys.length c))
    (hB : Blk w bk e []) (hb : Sl enc k w ay b o ys) (hlen2 : ys.length ≤ 1000000) (hbytes : bytes ≤ 1000)
    (h : ∀ ao' g' cap' w', Acc enc k e bk w' ao' g' cap' ys → Upd (fun i => i = bk ∧ bk ≤ i) w w' → bk ≤ g' → WL rd P ops Q N ds rest ((d, .slice ao' ys.length cap') :: L) w') :
    WL rd P ops Q N ds (⟨some d, .call ⟨.builtin .append, #[s, x], #[t, t]⟩, ty, pos, aft, g⟩ :: rest) L w :=
  have hl := hB.lt
  t_appendAll (xs := ([] : List α)) (gb := bk) (cap := 0) (base := bk) hu hi hz hk0 hk h1 hg hN hs hx (Acc.lit enc k hB (Nat.le_refl _)) hb (Nat.le_of_lt hl) (by simp) hlen2 hbytes
    fun ao' g' cap' w' ha hu' hg' _ => h ao' g' cap' w' ha hu' (by omega)

theorem Acc.ofBlk {α : Type} (enc : α → List Value) (k : Nat) (hk : ∀ x, (enc x).length = k) {e : TypeId} {base : Nat} {w : World} {b : Nat} {xs : List α} (h : Blk w b e (xs.flatMap enc)) (hb : base ≤ b) (hl : xs.length ≤ 1000000) : Acc enc k e base w (some ⟨b, 0, none⟩) b xs.length xs :=
  ⟨h.lt, .inr ⟨rfl, hb, (xs.flatMap enc).toArray, h, Nat.le_refl _, by unfold maxLen; omega, by simp [flatMap_len hk xs], List.take_of_length_le (by show (xs.flatMap enc).length ≤ _; rw [flatMap_len hk xs]; exact Nat.le_refl _)⟩⟩

/-- append([]E{x, ..}, ys...). -/
theorem t_appLit {α : Type} [Inhabited α] {enc : α → List Value} {k : Nat} {t e : TypeId} {z : Value} {bytes bk : Nat} {s x : Operand} {ay : Option Addr} {b o c : Nat} {xs ys : List α}
    (hu : P.underlying t = some (.slice e)) (hi : (P.info? e).map (fun i => (i.zero, i.size, i.bytes)) = some (some z, k, bytes)) (hz : z.cells.size = k) (hk0 : 0 < k) (hk : ∀ x, (enc x).length = k) (h1 : ∀ x, ∀ u ∈ enc x, u.oneCell' = true)
    (hg : grd ops L g = true) (hN : Nat.blt d N = true) (hs : ev L s = some (.slice (some ⟨bk, 0, none⟩) xs.length xs.length)) (hx : ev L x = some (.slice ay ys.length c))
    (hB : Blk w bk e (xs.flatMap enc)) (hb : Sl enc k w ay b o ys) (hlen : xs.length ≤ 1000000) (hlen2 : ys.length ≤ 1000000) (hbytes : bytes ≤ 1000)
    (h : ∀ ao' g' cap' w', Acc enc k e bk w' ao' g' cap' (xs ++ ys) → Upd (fun i => i = bk ∧ bk ≤ i) w w' → bk ≤ g' → WL rd P ops Q N ds rest ((d, .slice ao' (xs ++ ys).length cap') :: L) w') :
    WL rd P ops Q N ds (⟨some d, .call ⟨.builtin .append, #[s, x], #[t, t]⟩, ty, pos, aft, g⟩ :: rest) L w :=
  have hl := hB.lt
  t_appendAll (xs := xs) (gb := bk) (cap := xs.length) (base := bk) hu hi hz hk0 hk h1 hg hN hs hx (Acc.ofBlk enc k hk hB (Nat.le_refl _) hlen) hb (Nat.le_of_lt hl) hlen hlen2 hbytes
    fun ao' g' cap' w' ha hu' hg' _ => h ao' g' cap' w' ha hu' (by omega)
end

/-- What rows of slices hold: each in a block of its own from base on and below lim, none of them g2. -/
def Fam {α β : Type} [Inhabited β] (enc : β → List Value) (k : Nat) (ga : α → Option Addr) (gb go : α → Nat) (gx : α → List β) (base g2 lim : Nat) (rows : List α) (w : World) : Prop :=
  ∀ r ∈ rows, Sl enc k w (ga r) (gb r) (go r) (gx r) ∧ (0 < (gx r).length → base ≤ gb r ∧ gb r ≠ g2 ∧ gb r < lim)
section
variable {α β : Type} [Inhabited β] {enc : β → List Value} {k : Nat} {ga : α → Option Addr} {gb go : α → Nat} {gx : α → List β} {base g2 lim : Nat} {rows : List α} {w w' : World}
theorem Fam.nil : Fam enc k ga gb go gx base g2 lim [] w := fun _ h => by cases h
theorem Fam.keep {S : Nat → Prop} (h : Fam enc k ga gb go gx base g2 lim rows w) (u : Upd S w w') (hS : ∀ i, base ≤ i → i ≠ g2 → i < lim → ¬ S i) : Fam enc k ga gb go gx base g2 lim rows w' := fun r hr => by
  obtain ⟨h1, h2⟩ := h r hr
  exact ⟨h1.keep u (fun hp => hS _ (h2 hp).1 (h2 hp).2.1 (h2 hp).2.2), h2⟩
theorem Fam.mono {lim' : Nat} (h : Fam enc k ga gb go gx base g2 lim rows w) (hl : lim ≤ lim') : Fam enc k ga gb go gx base g2 lim' rows w := fun r hr => ⟨(h r hr).1, fun hp => by have := (h r hr).2 hp; omega⟩
end
end Go.Proofs.YtbcedieodibehaaGreat
namespace Go.Proofs.YtbcedieodibehaaGreat
open Go Go.RowKit
section
variable {rd : Option Nat} {P : Program} {ops : Array Oper} {Q : Exit → Act → World → Prop} {N : Nat} {ds : List Deferred} {rest : List Oper} {L : Slots} {w : World}
variable {d : Nat} {ty : TypeId} {pos : String} {aft : Array Edge} {g : Option (Nat × Bool)}

/-- append([]E{}, ys...): nothing that lay is turned. -/
theorem t_copyE {α : Type} [Inhabited α] {enc : α → List Value} {k : Nat} {t e : TypeId} {z : Value} {bytes bk : Nat} {s x : Operand} {ay : Option Addr} {b o c : Nat} {ys : List α}
    (hu : P.underlying t = some (.slice e)) (hi : (P.info? e).map (fun i => (i.zero, i.size, i.bytes)) = some (some z, k, bytes)) (hz : z.cells.size = k) (hk0 : 0 < k) (hk : ∀ x, (enc x).length = k) (_h1 : ∀ x, ∀ u ∈ enc x, u.oneCell' = true)
    (hg : grd ops L g = true) (hN : Nat.blt d N = true) (hs : ev L s = some (.slice (some ⟨bk, 0, none⟩) 0 0)) (hx : ev L x = some (.slice ay ys.length c))
    (hB : Blk w bk e []) (hb : Sl enc k w ay b o ys) (hlen2 : ys.length ≤ 1000000) (hbytes : bytes ≤ 1000)
    (h : ∀ ao' g' cap' w', Acc enc k e bk w' ao' g' cap' ys → Ext w w' → ((g' = bk ∨ w.heap.size ≤ g') ∧ (0 < ys.length → w.heap.size ≤ g')) → WL rd P ops Q N ds rest ((d, .slice ao' ys.length cap') :: L) w') :
    WL rd P ops Q N ds (⟨some d, .call ⟨.builtin .append, #[s, x], #[t, t]⟩, ty, pos, aft, g⟩ :: rest) L w := by
  obtain ⟨i, hi0, hi1, hi2, hi3⟩ := info_parts' hi
  have hl := hB.lt
  rcases Nat.eq_zero_or_pos ys.length with h0 | h0
  · have : ys = [] := List.eq_nil_of_length_eq_zero h0
    subst this
    have hr : (Builtin.append_ #[t, t] ty #[.slice (some ⟨bk, 0, none⟩) 0 0, .slice ay ([] : List α).length c]).run P w = .ok (.slice (some ⟨bk, 0, none⟩) 0 0) w := by
      cases ay <;> simp [Builtin.append_, run_underlying hu, sizeOf, typeInfo, hi0, Builtin.lenOf, Builtin.firstCells, loadCells, loadCellsFrom, storeCells]
    exact WL.value hg rfl hN (fun a hk' => by
      have hx' : a.eval x = .slice ay 0 c := hk'.ev hx
      have hr' : (Builtin.append_ #[t, t] ty #[.slice (some ⟨bk, 0, none⟩) 0 0, .slice ay 0 c]).run P w = .ok (.slice (some ⟨bk, 0, none⟩) 0 0) w := hr
      simp only [execOp, resolve, invoke, builtin]
      simp [hk'.ev hs, hx', hr']) (h (some ⟨bk, 0, none⟩) bk 0 w (Acc.lit enc k hB (Nat.le_refl _)) (Upd.refl _ _) ⟨.inl rfl, fun h => absurd h (Nat.lt_irrefl _)⟩)
  · have hay := hb.addr h0
    subst hay
    obtain ⟨v', w', hr, hown, hgrow⟩ := run_append_arg_grows (P := P) w t ty e i z k bytes hu hi0 hi1 hi2 hi3 hz hk0 ⟨bk, 0, none⟩ 0 0 [] (by simp) (fun j u hj => by simp at hj) ⟨b, o, none⟩ ys.length c (ys.flatMap enc) (flatMap_len hk ys) (sl_cells hk0 hk hb) (by omega) (by unfold maxLen; omega) (by
      have : (0 + ys.length) * bytes ≤ 1000000 * 1000 := Nat.mul_le_mul (by omega) hbytes
      omega)
    have hupd : Ext w w' := ⟨hgrow.os, hgrow.tape, hgrow.output, hgrow.size, fun q hq _ => hgrow.block q hq (by simp)⟩
    obtain ⟨hl2, hown⟩ := hown
    rcases hown with ⟨_, hq⟩ | ⟨g2, cap2, cur, rfl, hbg, hh, hc1, hc2, hc3, hc4⟩
    · omega
    · rw [Nat.zero_add] at hr hc1 hc4
      have hacc : Acc enc k e bk w' (some ⟨g2, 0, none⟩) g2 cap2 ys := by
        refine ⟨?_, .inr ⟨rfl, by omega, cur, hh, hc1, hc2, hc3, by simpa using hc4⟩⟩
        rcases Nat.lt_or_ge g2 w'.heap.size with h | h
        · exact h
        · rw [Array.getElem?_eq_none h] at hh; cases hh
      refine WL.value hg rfl hN (fun a hk' => ?_) (h _ _ _ w' hacc hupd ⟨.inr hbg, fun _ => hbg⟩)
      simp only [execOp, resolve, invoke, builtin]
      simp [hk'.ev hs, hk'.ev hx, hr]
end
end Go.Proofs.YtbcedieodibehaaGreat
namespace Go.Proofs.YtbcedieodibehaaGreat
open Go Go.RowKit

section
variable {P : Program} {ops : Array Oper} {Q : Exit → Act → World → Prop} {N : Nat} {ds : List Deferred} {rest : List Oper} {L : Slots} {w : World} {rd : Option Nat} {d : Nat} {ty : TypeId} {pos : String} {aft : Array Edge} {g : Option (Nat × Bool)}

theorem t_cap {t e : TypeId} {x : Operand} {ao : Option Addr} {n c : Nat} {ats : Array TypeId} (hu : P.underlying t = some (.slice e)) (ht : ats[0]? = some t) (hg : grd ops L g = true) (hN : Nat.blt d N = true)
    (hx : ev L x = some (.slice ao n c)) (h : WL rd P ops Q N ds rest ((d, .int .i64 (c : Int)) :: L) w) :
    WL rd P ops Q N ds (⟨some d, .call ⟨.builtin .cap, #[x], ats⟩, ty, pos, aft, g⟩ :: rest) L w :=
  WL.value hg rfl hN (fun a hk => by
    simp [execOp, resolve, invoke, builtin, Builtin.cap_, run_underlying hu, ht, hk.ev hx, goInt]) h

/-- A slice compared with nil. -/
theorem t_nilS {xt yt e : TypeId} {x y : Operand} {ao : Option Addr} {n c n' c' : Nat} (hu : P.underlying xt = some (.slice e)) (hg : grd ops L g = true) (hN : Nat.blt d N = true)
    (hx : ev L x = some (.slice ao n c)) (hy : ev L y = some (.slice none n' c')) (h : WL rd P ops Q N ds rest ((d, .bool ao.isNone) :: L) w) :
    WL rd P ops Q N ds (⟨some d, .binOp .eql xt x y yt, ty, pos, aft, g⟩ :: rest) L w :=
  WL.value hg rfl hN (fun a hk => by
    have := Lib.run_eql_slice_nil (P := P) w xt e ao n c n' c' hu
    simp [execOp, hk.ev hx, hk.ev hy, eqGuard, this]) h

/-- copy(dst, src) into a block of the call's own: all is read before anything is written. -/
theorem t_copyB {dT sT e : TypeId} {k : Nat} {x y : Operand} {b o dLen dCap sb so sLen sCap : Nat} {vs cs : List Value} {t : TypeId}
    (hu : P.underlying dT = some (.slice e)) (hs : ∀ w, (sizeOf e).run P w = .ok k w) (hg : grd ops L g = true) (hN : Nat.blt d N = true)
    (hx : ev L x = some (.slice (some ⟨b, o, none⟩) dLen dCap)) (hy : ev L y = some (.slice (some ⟨sb, so, none⟩) sLen sCap))
    (hB : Blk w b t cs) (ha : At w sb so vs) (hn : vs.length = min sLen dLen * k) (hf : o + vs.length ≤ cs.length) (h1 : ∀ v ∈ vs, v.oneCell' = true)
    (h : ∀ w', w'.heap.size = w.heap.size → Blk w' b t (lay cs o vs) → Upd (· = b) w w' → WL rd P ops Q N ds rest ((d, .int .i64 ((min sLen dLen : Nat) : Int)) :: L) w') :
    WL rd P ops Q N ds (⟨some d, .call ⟨.builtin .copy, #[x, y], #[dT, sT]⟩, ty, pos, aft, g⟩ :: rest) L w := by
  obtain ⟨w', hr, hb', hu', hz'⟩ := run_storeCells (P := P) vs w cs o 0 hB (by omega) h1
  have hl : (loadCells ⟨sb, so, none⟩ (Nat.min sLen dLen * k)).run P w = .ok vs.toArray w := by
    have := run_loadCellsFrom (P := P) (w := w) (b := sb) (off := so) (Nat.min sLen dLen * k) 0 vs #[] (show vs.length = Nat.min sLen dLen * k from hn) (by simpa using ha)
    simpa [loadCells] using this
  refine WL.value hg rfl hN (fun a hk => ?_) (h w' hz' (by simpa using hb') hu')
  have hr2 : (Builtin.copy_ #[dT, sT] ty #[.slice (some ⟨b, o, none⟩) dLen dCap, .slice (some ⟨sb, so, none⟩) sLen sCap]).run P w = .ok (goInt (Nat.min sLen dLen)) w' := by
    simp [Builtin.copy_, run_underlying hu, Builtin.lenOf, Builtin.firstCells, hs, hl, hr]
  simp only [execOp, resolve, invoke, builtin]
  rw [show ((min sLen dLen : Nat) : Int) = ((Nat.min sLen dLen : Nat) : Int) from rfl]
  simp [hk.ev hx, hk.ev hy, hr2, goInt]

theorem append_two {t t2 e e2 : TypeId} (hu : P.underlying t = some (.slice e)) (hu2 : P.underlying t2 = some (.slice e2)) (ty : TypeId) (a b : Value) (w : World) : (Builtin.append_ #[t, t2] ty #[a, b]).run P w = (Builtin.append_ #[t, t] ty #[a, b]).run P w := by
  cases a <;> simp [Builtin.append_, run_underlying hu, run_underlying hu2]
/-- append where the second argument's type has another name. -/
theorem t_append2 {α : Type} {enc : α → List Value} {k : Nat} {t t2 e e2 : TypeId} {z : Value} {bytes base : Nat} {s x : Operand} {ao : Option Addr} {gb cap b c : Nat} {xs : List α} (y : α)
    (hu : P.underlying t = some (.slice e)) (hu2 : P.underlying t2 = some (.slice e2)) (hi : (P.info? e).map (fun i => (i.zero, i.size, i.bytes)) = some (some z, k, bytes)) (hz : z.cells.size = k) (hk0 : 0 < k) (hk : ∀ x, (enc x).length = k) (h1 : ∀ x, ∀ u ∈ enc x, u.oneCell' = true)
    (hg : grd ops L g = true) (hN : Nat.blt d N = true) (hs : ev L s = some (.slice ao xs.length cap)) (hx : ev L x = some (.slice (some ⟨b, 0, none⟩) 1 c))
    (ha : Acc enc k e base w ao gb cap xs) (hb : Blk w b e (enc y)) (hbase : base ≤ w.heap.size) (hlen : xs.length ≤ 1000000) (hbytes : bytes ≤ 1000)
    (h : ∀ ao' g' cap' w', Acc enc k e base w' ao' g' cap' (xs ++ [y]) → Upd (fun i => i = gb ∧ base ≤ i) w w' → (g' = gb ∨ w.heap.size ≤ g') → (xs ++ [y]).length = xs.length + 1 → WL rd P ops Q N ds rest ((d, .slice ao' (xs ++ [y]).length cap') :: L) w') :
    WL rd P ops Q N ds (⟨some d, .call ⟨.builtin .append, #[s, x], #[t, t2]⟩, ty, pos, aft, g⟩ :: rest) L w := by
  obtain ⟨i, hi0, hi1, hi2, hi3⟩ := info_parts' hi
  obtain ⟨gg, cc, w', hr, hown, hgrow, hgeq⟩ := run_append_lies (P := P) (w := w) t ty base e i z k bytes hu hi0 hi1 hi2 hi3 hz hk0 (.slice ao xs.length cap) xs.length (xs.flatMap enc) (ha.owns hk)
    ⟨b, 0, none⟩ 1 c (enc y) (by rw [hk, Nat.one_mul]) (fun j u hj => by rw [addr_add, Nat.zero_add]; exact hb.get hj) (h1 y) (by decide) (by unfold maxLen; omega) (by
      have : (xs.length + 1) * bytes ≤ 1000001 * 1000 := Nat.mul_le_mul (by omega) hbytes
      omega) hbase _ rfl
  have hlen' : (xs ++ [y]).length = xs.length + 1 := by simp
  have hacc : Acc enc k e base w' (some ⟨gg, 0, none⟩) gg cc (xs ++ [y]) := by
    obtain ⟨hl, hown⟩ := hown
    rcases hown with ⟨h0, _⟩ | ⟨g2, cap2, cur, he, hbg, hh, hc1, hc2, hc3, hc4⟩
    · cases h0
    · cases he
      refine ⟨?_, .inr ⟨rfl, hbg, cur, hh, by rw [hlen']; exact hc1, hc2, hc3, ?_⟩⟩
      · rcases Nat.lt_or_ge gg w'.heap.size with h | h
        · exact h
        · rw [Array.getElem?_eq_none h] at hh; cases hh
      · rw [hlen']; simpa using hc4
  have hupd : Upd (fun i => i = gb ∧ base ≤ i) w w' := ⟨hgrow.os, hgrow.tape, hgrow.output, hgrow.size, fun q hq hn => hgrow.block q hq (fun he => by
    rcases ha.at_ with ⟨h1, _, _, _⟩ | ⟨h1, h2, _⟩
    · subst h1; cases he
    · subst h1; simp [Value.ownBlock] at he; exact hn ⟨he, by omega⟩)⟩
  have hge : gg = gb ∨ w.heap.size ≤ gg := by
    rcases hgeq with h | h
    · left
      rcases ha.at_ with ⟨h1, _, _, _⟩ | ⟨h1, h2, _⟩
      · subst h1; simp [Value.ownBlock] at h
      · subst h1; simp [Value.ownBlock] at h; omega
    · right; omega
  have := h _ _ _ w' hacc hupd hge hlen'
  refine WL.value hg rfl hN (fun a hk' => ?_) this
  simp only [execOp, resolve, invoke, builtin]
  simp [hk'.ev hs, hk'.ev hx, append_two hu hu2, hr]

/-- append(s[:i], make(S, m)...) where there is no room: a new row. -/
theorem t_appZ {t tn e : TypeId} {z : Value} {bytes k i m n c : Nat} {s x : Operand} {b off : Nat} {cs : List Value} {mv : Int}
    (hu : P.underlying t = some (.slice e)) (hun : P.underlying tn = some (.int .i64)) (hi : (P.info? e).map (fun i => (i.zero, i.size, i.bytes)) = some (some z, k, bytes)) (hz : z.cells.size = k) (hk0 : 0 < k)
    (hg : grd ops L g = true) (hN : Nat.blt d N = true) (hs : ev L s = some (.slice (some ⟨b, off, none⟩) i c)) (hx : ev L x = some (.int .i64 mv)) (hm : mv = (m : Int)) (hn : i + m = n) (hm0 : 0 < m) (hc : c < n)
    (hcs : cs.length = i * k) (ha : At w b off cs) (hsm : n ≤ 1000000) (hby : bytes ≤ 1000)
    (h : ∀ cap' w' zs, n ≤ cap' → cap' ≤ maxLen → List.length zs = (cap' - i) * k → Blk w' w.heap.size e (cs ++ zs) → Ext w w' → WL rd P ops Q N ds rest ((d, .slice (some ⟨w.heap.size, 0, none⟩) n cap') :: L) w') :
    WL rd P ops Q N ds (⟨some d, .call ⟨.builtin .append, #[s, x], #[t, tn]⟩, ty, pos, aft, g⟩ :: rest) L w := by
  subst hm hn
  obtain ⟨i0, hi0, hi1, hi2, hi3⟩ := info_parts' hi
  have hold : (Builtin.firstCells i0.size i (.slice (some ⟨b, off, none⟩) i c)).run P w.drew = .ok cs.toArray w.drew := by
    rw [hi2]
    exact run_firstCells_some (w := w.drew) k i ⟨b, off, none⟩ i c cs hcs (fun j v hj => by rw [addr_add]; exact ha j v hj)
  have hb1 : (i + m) * bytes ≤ 1000000 * 1000 := Nat.mul_le_mul hsm hby
  have hb2 : m * bytes ≤ 1000000 * 1000 := Nat.mul_le_mul (by omega) hby
  have hr := Lib.run_append_grow_zeros (P := P) w t tn ty e i0 z .i64 .i64 hu hun hi0 hi1 (some ⟨b, off, none⟩) i c cs hold m hm0 (by omega) hc (by omega) (by rw [hi3]; omega) (by rw [hi3]; exact growslice_fits hc (by omega))
  have hge := grownCap_ge w (i + m) c e
  have hle := grownCap_le_maxLen w (i + m) c e (by unfold maxLen; omega)
  generalize grownCap w (i + m) c e = G at hr hge hle
  have hzl : ∀ q, (Builtin.zeroCells z.cells q).size = q * k := fun q => by simp [Builtin.zeroCells, hz]
  have hB : Blk (w.drew.alloc (.cells (cs.toArray ++ Builtin.zeroCells z.cells m ++ Builtin.zeroCells z.cells (G - (i + m))) e)) w.heap.size e (cs ++ ((Builtin.zeroCells z.cells m).toList ++ (Builtin.zeroCells z.cells (G - (i + m))).toList)) := by
    have := Blk.new w.drew e (cs ++ ((Builtin.zeroCells z.cells m).toList ++ (Builtin.zeroCells z.cells (G - (i + m))).toList))
    have e2 : (cs ++ ((Builtin.zeroCells z.cells m).toList ++ (Builtin.zeroCells z.cells (G - (i + m))).toList)).toArray = cs.toArray ++ Builtin.zeroCells z.cells m ++ Builtin.zeroCells z.cells (G - (i + m)) := by
      apply Array.toList_inj.1; simp
    rw [e2] at this
    exact this
  refine WL.value hg rfl hN (fun a hk => ?_) (h G _ _ hge hle ?_ hB ((Upd.drew w).trans (Upd.alloc _ _)))
  · simp only [execOp, resolve, invoke, builtin]
    simp [hk.ev hs, hk.ev hx, hr]
  · simp only [List.length_append, Array.length_toList, hzl]
    rw [← Nat.add_mul]
    congr 1; omega

/-- slices.overlaps of two rows in two blocks of cells: no. -/
theorem t_apart {f : Operand} {k : FuncId} {fn : Func} {x y : Operand} {ats : Array TypeId} {tS tR e tA tB : TypeId} {a b oa ob la ca lb cb : Nat} {cA cB : List Value} {n : Nat}
    (hfn : P.funcs[k]? = some fn) (hname : (fn.name == "runtime.NumGoroutine") = false) (hb : fn.body.isNone = true) (hnx : Extern.findNext fn = none) (he : Extern.find fn = some (Extern.SlicesOverlaps.overlaps #[tS, tS] #[tR]))
    (hu : P.underlying tS = some (.slice e)) (hz : ∀ w, (sizeOf e).run P w = .ok n w) (hg : grd ops L g = true) (hN : Nat.blt d N = true) (hf : ev L f = some (.func (.func k) #[] #[]))
    (hx : ev L x = some (.slice (some ⟨a, oa, none⟩) la ca)) (hy : ev L y = some (.slice (some ⟨b, ob, none⟩) lb cb)) (hA : Blk w a tA cA) (hB : Blk w b tB cB) (hne : a ≠ b) (hl : 0 < cB.length)
    (h : WL rd P ops Q N ds rest ((d, .bool false) :: L) w) : WL rd P ops Q N ds (⟨some d, .call ⟨.value f, #[x, y], ats⟩, ty, pos, aft, g⟩ :: rest) L w := by
  refine WL.value hg rfl hN (fun ac hk => ?_) h
  have hsa : w.shape? a = some (tA, cA.length) := by unfold Blk at hA; simp [World.shape?, hA]
  have hsb : w.shape? b = some (tB, cB.length) := by unfold Blk at hB; simp [World.shape?, hB]
  have hr := Lib.run_overlaps_apart (P := P) w tS tR e hu n hz ⟨a, oa, none⟩ ⟨b, ob, none⟩ la ca lb cb hne tA tB cA.length cB.length hsa hsb (by omega) hA.free hA.free
  have hr2 := run_callFunc_extern hfn hname hb hnx he #[.slice (some ⟨a, oa, none⟩) la ca, .slice (some ⟨b, ob, none⟩) lb cb] w
  rw [hr] at hr2
  simp only [execOp, resolve, invoke]
  simp [hk.ev hf, hk.ev hx, hk.ev hy, Deferred.ofValue, hr2, Result.andThen]
end

theorem subAddr_some {b o cap l k : Nat} (h : l < cap) : subAddr (some ⟨b, o, none⟩) cap l k = some ⟨b, o + l * k, none⟩ := by
  unfold subAddr
  rw [if_neg (by omega)]
  exact congrArg some (addr_add b o (l * k))
theorem Acc.lower {α : Type} {enc : α → List Value} {k : Nat} {e : TypeId} {base base' : Nat} {w : World} {ao : Option Addr} {g cap : Nat} {xs : List α} (h : Acc enc k e base w ao g cap xs) (hb : base' ≤ base) (h0 : 0 < base') : ∃ g', Acc enc k e base' w ao g' cap xs := by
  rcases h.at_ with ⟨h1, h2, h3, h4⟩ | ⟨h1, h2, h3⟩
  · exact ⟨0, Nat.lt_of_le_of_lt (Nat.zero_le _) h.lt, .inl ⟨h1, h2, h3, h0⟩⟩
  · exact ⟨g, h.lt, .inr ⟨h1, by omega, h3⟩⟩
/-- The cells of the elements from a place on. -/
theorem Sl.cellsFrom {α : Type} [Inhabited α] {enc : α → List Value} {k : Nat} (hk0 : 0 < k) (hk : ∀ x, (enc x).length = k) {w : World} {ao : Option Addr} {b o : Nat} {xs : List α} (h : Sl enc k w ao b o xs) (l m : Nat) : At w b (o + l * k) (((xs.drop l).take m).flatMap enc) := fun j v hj => by
  have := sl_cells hk0 hk (h.sub xs.length l m (Nat.le_refl _)) j v hj
  rwa [addr_add] at this
/-- A gathered slice that has elements: the raw cells of its block. -/
theorem Acc.raw {α : Type} {enc : α → List Value} {k : Nat} {e : TypeId} {base : Nat} {w : World} {ao : Option Addr} {g cap : Nat} {xs : List α} (h : Acc enc k e base w ao g cap xs) (hp : 0 < cap ∨ 0 < xs.length) :
    ao = some ⟨g, 0, none⟩ ∧ base ≤ g ∧ xs.length ≤ cap ∧ cap ≤ maxLen ∧ ∃ cs, Blk w g e cs ∧ cs.length = cap * k ∧ cs.take (xs.length * k) = xs.flatMap enc := by
  rcases h.at_ with ⟨_, h1, h2, _⟩ | ⟨h1, h2, cur, h3, h4, h5, h6, h7⟩
  · subst h1 h2; rcases hp with hp | hp <;> exact absurd hp (by simp)
  · exact ⟨h1, h2, h4, h5, cur.toList, by unfold Blk; simpa using h3, by simpa using h6, h7⟩
theorem Acc.ofRaw {α : Type} {enc : α → List Value} {k : Nat} {e : TypeId} {base : Nat} {w : World} {g cap : Nat} {xs : List α} {cs : List Value} (hB : Blk w g e cs) (hb : base ≤ g) (hc : xs.length ≤ cap) (hm : cap ≤ maxLen) (hl : cs.length = cap * k) (ht : cs.take (xs.length * k) = xs.flatMap enc) : Acc enc k e base w (some ⟨g, 0, none⟩) g cap xs :=
  ⟨hB.lt, .inr ⟨rfl, hb, cs.toArray, hB, hc, hm, by simpa using hl, by simpa using ht⟩⟩
theorem lay_take : ∀ (vs cs : List Value) (i : Nat), i + vs.length ≤ cs.length → (lay cs i vs).take (i + vs.length) = cs.take i ++ vs
  | [], cs, i, _ => by simp [lay]
  | v :: vs, cs, i, h => by
    simp only [List.length_cons] at h
    show (lay (cs.set i v) (i + 1) vs).take (i + (vs.length + 1)) = _
    rw [show i + (vs.length + 1) = i + 1 + vs.length by omega, lay_take vs (cs.set i v) (i + 1) (by rw [List.length_set]; omega)]
    rw [List.take_set, show cs.take (i + 1) = cs.take i ++ [cs[i]'(by omega)] from (List.take_succ_eq_append_getElem (by omega)), List.set_append_right _ _ (by simp; omega)]
    simp [Nat.min_eq_left (show i ≤ cs.length by omega)]
theorem lay_drop : ∀ (vs cs : List Value) (i : Nat), (lay cs i vs).drop (i + vs.length) = cs.drop (i + vs.length)
  | [], cs, i => by simp [lay]
  | v :: vs, cs, i => by
    show (lay (cs.set i v) (i + 1) vs).drop (i + (vs.length + 1)) = _
    rw [show i + (vs.length + 1) = i + 1 + vs.length by omega, lay_drop vs (cs.set i v) (i + 1), List.drop_set_of_lt (by omega), show i + (v :: vs).length = i + 1 + vs.length by rw [List.length_cons]; omega]
theorem lay_eq {vs cs : List Value} {i : Nat} (h : i + vs.length ≤ cs.length) : lay cs i vs = cs.take i ++ vs ++ cs.drop (i + vs.length) := by
  rw [← lay_take vs cs i h, ← lay_drop vs cs i, List.take_append_drop]
theorem raw_take {α : Type} {enc : α → List Value} {k m : Nat} (hk : ∀ x, (enc x).length = k) {xs : List α} {C : List Value} (h : C.take (xs.length * k) = xs.flatMap enc) (hm : m ≤ xs.length) : C.take (m * k) = (xs.take m).flatMap enc := by
  have h9 := congrArg (List.take (m * k)) h
  rw [List.take_take, Nat.min_eq_left (Nat.mul_le_mul_right _ hm)] at h9
  rw [h9]
  have e : xs.flatMap enc = (xs.take m).flatMap enc ++ (xs.drop m).flatMap enc := by rw [← List.flatMap_append, List.take_append_drop]
  rw [e, List.take_left' (by rw [flatMap_len hk, List.length_take, Nat.min_eq_left hm])]
/-- An element put between others: the cells behind it were moved last. -/
theorem ins_rawA {α : Type} {enc : α → List Value} {k m n : Nat} (hk : ∀ x, (enc x).length = k) {xs : List α} {s : α} {C : List Value} (hn : xs.length = n) (hm : m < n) (hC : (n + 1) * k ≤ C.length) (h1 : C.take (m * k) = (xs.take m).flatMap enc) :
    (lay (lay C (m * k) (enc s)) ((m + 1) * k) ((xs.drop m).flatMap enc)).take ((n + 1) * k) = (xs.take m ++ s :: xs.drop m).flatMap enc := by
  have l1 : ((xs.drop m).flatMap enc).length = (n - m) * k := by rw [flatMap_len hk, List.length_drop, hn]
  have e1 : (m + 1) * k = m * k + (enc s).length := by rw [hk, Nat.succ_mul]
  have e2 : (n + 1) * k = (m + 1) * k + ((xs.drop m).flatMap enc).length := by rw [l1, ← Nat.add_mul]; congr 1; omega
  have q1 : m * k + (enc s).length ≤ C.length := by rw [← e1]; exact Nat.le_trans (Nat.mul_le_mul_right _ (by omega)) hC
  rw [e2, lay_take _ _ _ (by rw [lay_length, ← e2]; exact hC), e1, lay_take _ _ _ q1, h1]
  simp
/-- An element put between others: the cells behind it were moved first. -/
theorem ins_rawB {α : Type} {enc : α → List Value} {k m n : Nat} (hk : ∀ x, (enc x).length = k) {xs : List α} {s : α} {C : List Value} (hn : xs.length = n) (hm : m < n) (hC : (n + 1) * k ≤ C.length) (h1 : C.take (m * k) = (xs.take m).flatMap enc) :
    (lay (lay C ((m + 1) * k) ((xs.drop m).flatMap enc)) (m * k) (enc s)).take ((n + 1) * k) = (xs.take m ++ s :: xs.drop m).flatMap enc := by
  have l1 : ((xs.drop m).flatMap enc).length = (n - m) * k := by rw [flatMap_len hk, List.length_drop, hn]
  have e1 : (m + 1) * k = m * k + (enc s).length := by rw [hk, Nat.succ_mul]
  have e2 : (n + 1) * k = (m + 1) * k + ((xs.drop m).flatMap enc).length := by rw [l1, ← Nat.add_mul]; congr 1; omega
  have q2 : m * k ≤ (n + 1) * k := Nat.mul_le_mul_right _ (by omega)
  have q3 : (m + 1) * k ≤ (n + 1) * k := Nat.mul_le_mul_right _ (by omega)
  have hL : (lay C ((m + 1) * k) ((xs.drop m).flatMap enc)).length = C.length := lay_length _ _ _
  rw [lay_eq (by rw [hL, ← e1]; omega), ← e1]
  have t1 : (lay C ((m + 1) * k) ((xs.drop m).flatMap enc)).take ((n + 1) * k) = C.take ((m + 1) * k) ++ (xs.drop m).flatMap enc := by rw [e2]; exact lay_take _ _ _ (by rw [← e2]; exact hC)
  have t2 : (lay C ((m + 1) * k) ((xs.drop m).flatMap enc)).take (m * k) = C.take (m * k) := by
    have := congrArg (List.take (m * k)) t1
    rw [List.take_take, Nat.min_eq_left q2, List.take_append_of_le_length (by rw [List.length_take]; omega), List.take_take, Nat.min_eq_left (by rw [e1]; omega)] at this
    exact this
  have hlen : (C.take (m * k) ++ enc s).length = (m + 1) * k := by rw [List.length_append, List.length_take, e1]; omega
  rw [t2, List.take_append, hlen, List.take_of_length_le (by rw [hlen]; exact q3)]
  have t3 : ((lay C ((m + 1) * k) ((xs.drop m).flatMap enc)).drop ((m + 1) * k)).take ((n + 1) * k - (m + 1) * k) = (xs.drop m).flatMap enc := by
    have := congrArg (List.drop ((m + 1) * k)) t1
    rw [List.drop_take, List.drop_left' (by rw [List.length_take]; omega)] at this
    exact this
  rw [t3, h1]
  simp
end Go.Proofs.YtbcedieodibehaaGreat
namespace Go.Proofs.YtbcedieodibehaaGreat
open Go Go.RowKit
section
variable {rd : Option Nat} {P : Program} {N : Nat} {ds : List Deferred} {Q : Exit → Act → World → Prop} {L L' : Slots} {w : World} {c : Code} {m : Nat}
/-- At a loop's head: at most m rounds more. -/
def WR (rd : Option Nat) (P : Program) (Q : Exit → Act → World → Prop) (N : Nat) (ds : List Deferred) (c : Code) (m : Nat) (L : Slots) (w : World) : Prop := ∀ a, Kn N ds L a → Code.roundsIn (rnd rd) 3 P c Q m a w
theorem c_rounds (m : Nat) (h : WR rd P Q N ds c m L w) : WC rd P Q N ds (.loop c) L w := ⟨fun a ha => wpIn_loop_rounds m (h a ha)⟩
theorem r_round (h : ∀ K : Act → World → Prop, (∀ L'' w'', WR rd P Q N ds c m L'' w'' → QK K N ds L'' w'') → WC rd P (Exit.then K Q) N ds c L w) : WR rd P Q N ds c (m + 1) L w :=
  fun a ha => h (Code.roundsIn (rnd rd) 3 P c Q m) (fun _ _ h2 => ⟨fun a' ha' => h2 a' ha'⟩) a ha
theorem WR.weak (L' : Slots) (hs : Sub L' L) (h : WR rd P Q N ds c m L' w) : WR rd P Q N ds c m L w := fun a ha => h a (ha.sub hs)
end
end Go.Proofs.YtbcedieodibehaaGreat
namespace Go.Proofs.YtbcedieodibehaaGreat
open Go Go.RowKit
section
variable {rd : Option Nat} {P : Program} {ops : Array Oper} {Q : Exit → Act → World → Prop} {N : Nat} {ds : List Deferred} {rest : List Oper} {L : Slots} {w : World}
variable {d : Nat} {ty : TypeId} {pos : String} {aft : Array Edge} {g : Option (Nat × Bool)}
end
end Go.Proofs.YtbcedieodibehaaGreat
