/-
  What came in, opened: structs, arrays and slices that a law is handed, in the words of this seat. Conditions: none; they hold over any program.
-/
import Derived.Test.YtagmodjadmecdaaGreatHAcc
import Derived.ProofKit
import Derived.OpenShut
import Derived.Deep.Slices
namespace Go.Proofs.YtagmodjadmecdaaGreat
open Go Go.RowKit Go.ChangeShapes Go.WideShapes Go.ChangeAt

variable {H : Type} {enc : TypeId × Value → H} {P : Program} {w : World} {t e : TypeId} {cs : List Value}

def Rd (enc : TypeId × Value → H) (P : Program) (w : World) (t : TypeId) (cs : List Value) : Prop := ∃ fuel x, DataW.trod enc P w 0 (fun _ => true) true fuel t cs = some x

theorem Rd.of {v : Value} {d : DataW H} {p : List MemPlace} (h : DataW.Trod enc P w 0 (fun _ => true) true t v d p) : Rd enc P w t v.cells.toList := by
  obtain ⟨fuel, hf⟩ := h
  exact ⟨fuel, _, hf⟩

theorem Rd.int (ht : P.underlying t = some (.int .i64)) (h : Rd enc P w t cs) : ∃ n : Int, cs = [.int .i64 n] ∧ (-9223372036854775808 ≤ n ∧ n ≤ 9223372036854775807) := by
  obtain ⟨fuel, x, hf⟩ := h
  obtain ⟨n, h1, _, h2⟩ := DataW.trod_int ht hf
  refine ⟨n, h1, ?_⟩
  simp [Lit.wf] at h2
  have e : IntKind.i64.min = -9223372036854775808 := rfl
  omega

theorem Rd.bool (ht : P.underlying t = some .bool) (h : Rd enc P w t cs) : ∃ b : Bool, cs = [.bool b] := by
  obtain ⟨fuel, x, hf⟩ := h
  obtain ⟨b, h1, _⟩ := DataW.trod_bool ht hf
  exact ⟨b, h1⟩

theorem Rd.struct {fs : Array Field} (ht : P.underlying t = some (.struct fs)) (h : Rd enc P w t cs) : cs.length = P.cellsOf t ∧ ∀ (i : Nat) (f : Field), fs[i]? = some f → Rd enc P w f.type ((cs.drop f.offset).take (P.cellsOf f.type)) := by
  obtain ⟨fuel, x, hf⟩ := h
  obtain ⟨xs, n, _, _, h1, h2, h3⟩ := DataW.trod_struct ht hf
  refine ⟨h1, fun i f hi => ?_⟩
  have h4 := h3 i f hi
  have hlt : i < xs.length := by rw [h2]; exact (Array.getElem?_eq_some_iff.1 hi).1
  exact ⟨n, xs[i], by rw [h4]; simp [hlt]⟩

theorem Rd.array {n : Nat} (ht : P.underlying t = some (.array n e)) (h : Rd enc P w t cs) : cs.length = P.cellsOf t ∧ ∀ i, i < n → Rd enc P w e ((cs.drop (i * P.cellsOf e)).take (P.cellsOf e)) := by
  obtain ⟨fuel, x, hf⟩ := h
  obtain ⟨xs, m, _, _, h1, h2, h3⟩ := DataW.trod_array ht hf
  refine ⟨h1, fun i hi => ?_⟩
  exact ⟨m, xs[i], by rw [h3 i hi]; simp [show i < xs.length by omega]⟩

theorem Rd.slice (ht : P.underlying t = some (.slice e)) (hk : 0 < P.cellsOf e) (h : Rd enc P w t cs) : ∃ ao len cap, cs = [.slice ao len cap] ∧ len ≤ cap ∧ cap ≤ maxLen ∧
    (0 < len → ∃ b o, ao = some ⟨b, o, none⟩ ∧ b < w.heap.size ∧ ∀ i, i < len → ∃ cs', cs'.length = P.cellsOf e ∧ At w b (o + i * P.cellsOf e) cs' ∧ Rd enc P w e cs') := by
  obtain ⟨fuel, x, hf⟩ := h
  rcases Go.Deep.open_slice ht hf with ⟨h1, _⟩ | ⟨a, len, cap, m, n, D, Pl, h1, _, h2, h3, hm, _, h4⟩
  · exact ⟨none, 0, 0, h1, Nat.le_refl _, by decide, fun h => absurd h (Nat.lt_irrefl _)⟩
  · refine ⟨some a, len, cap, h1, h2, h3, fun hp => ?_⟩
    have hlm : len ≤ m := by rw [hm]; simp; exact h2
    have cell : ∀ i, i < len → ∃ cs', w.cells? 0 (a.add (i * P.cellsOf e)) (P.cellsOf e) = some cs' ∧ Rd enc P w e cs' := fun i hi => by
      obtain ⟨cs', q1, q2⟩ := h4 i (by omega)
      exact ⟨cs', q1, n, _, q2⟩
    obtain ⟨c0, q1, _⟩ := cell 0 hp
    obtain ⟨_, hl0, hc0⟩ := World.cells?_some q1
    have hfirst : w.cell? a = c0[0]? := by
      have := hc0 0 hk
      simpa [Addr.add] using this
    have hsp : a.spot = none := World.cell?_spot (by rw [hfirst]; exact List.getElem?_eq_getElem (by omega))
    obtain ⟨b, o, sp⟩ := a
    obtain rfl : sp = none := hsp
    refine ⟨b, o, rfl, World.cells?_block (by simpa [addr_add] using q1) hk, fun i hi => ?_⟩
    obtain ⟨cs', r1, r2⟩ := cell i hi
    obtain ⟨_, hl1, hc1⟩ := World.cells?_some r1
    refine ⟨cs', hl1, fun j v hj => ?_, r2⟩
    have hjl : j < P.cellsOf e := by rw [← hl1]; exact (List.getElem?_eq_some_iff.1 hj).1
    have := hc1 j hjl
    rw [addr_add, addr_add] at this
    rw [this, hj]

theorem Rd.fld {fs : Array Field} {f : Field} {u : TypeId} {o n : Nat} (ht : P.underlying t = some (.struct fs)) (h : Rd enc P w t cs) (i : Nat) (hi : fs[i]? = some f) (hu : f.type = u) (ho : f.offset = o) (hn : P.cellsOf u = n) : Rd enc P w u ((cs.drop o).take n) := by
  subst hu ho hn; exact (h.struct ht).2 i f hi

theorem Rd.elt {n k : Nat} (ht : P.underlying t = some (.array n e)) (h : Rd enc P w t cs) (i : Nat) (hi : i < n) (hk : P.cellsOf e = k) : Rd enc P w e ((cs.drop (i * k)).take k) := by
  subst hk; exact (h.array ht).2 i hi

theorem Rd.sl {α : Type} [Inhabited α] {enc' : α → List Value} {k : Nat} {R : α → Prop} (hk : P.cellsOf e = k) (hk0 : 0 < k) (ht : P.underlying t = some (.slice e)) (he : ∀ cs, Rd enc P w e cs → ∃ x, cs = enc' x ∧ R x) (h : Rd enc P w t cs) :
    ∃ (ao : Option Addr) (b o cap : Nat) (xs : List α), cs = [.slice ao xs.length cap] ∧ xs.length ≤ cap ∧ cap ≤ maxLen ∧ Sl enc' k w ao b o xs ∧ ∀ x ∈ xs, R x := by
  subst hk
  obtain ⟨ao, len, cap, h1, h2, h3, h4⟩ := h.slice ht hk0
  rcases Nat.eq_zero_or_pos len with h0 | h0
  · subst h0
    exact ⟨ao, 0, 0, cap, [], h1, h2, h3, Sl.nil _ _ _ _ _ _, fun x hx => by cases hx⟩
  · obtain ⟨b, o, hao, hb, hel⟩ := h4 h0
    have key : ∀ n, n ≤ len → ∃ xs : List α, xs.length = n ∧ (∀ i, i < n → At w b (o + i * P.cellsOf e) (enc' (nth xs i))) ∧ ∀ x ∈ xs, R x := by
      intro n
      induction n with
      | zero => exact fun _ => ⟨[], rfl, fun i hi => by omega, fun x hx => by cases hx⟩
      | succ n ih =>
        intro hn
        obtain ⟨xs, q1, q2, q3⟩ := ih (by omega)
        obtain ⟨cs', r1, r2, r3⟩ := hel n (by omega)
        obtain ⟨x, rfl, hx⟩ := he _ r3
        refine ⟨xs ++ [x], by simp [q1], fun i hi => ?_, fun y hy => ?_⟩
        · by_cases e : i = n
          · subst e
            have : nth (xs ++ [x]) i = x := by simp [nth, List.getD_eq_getElem?_getD, q1]
            rw [this]; exact r2
          · have : nth (xs ++ [x]) i = nth xs i := by simp [nth, List.getD_eq_getElem?_getD, List.getElem?_append_left (show i < xs.length by omega)]
            rw [this]; exact q2 i (by omega)
        · rcases List.mem_append.1 hy with hy | hy
          · exact q3 y hy
          · have : y = x := by simpa using hy
            subst this; exact hx
    obtain ⟨xs, q1, q2, q3⟩ := key len (Nat.le_refl _)
    subst q1
    exact ⟨ao, b, o, cap, xs, h1, h2, h3, ⟨fun _ => hao, fun _ => hb, q2⟩, q3⟩

end Go.Proofs.YtagmodjadmecdaaGreat
