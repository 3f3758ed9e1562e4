/-
  make of a slice of any elements. Conditions: none; it holds over any program.
-/
import Derived.Test.YtagmodjadmecdaaGreatHApp
namespace Go.Proofs.YtagmodjadmecdaaGreat
open Go Go.RowKit
theorem made_flat {α : Type} [Inhabited α] {enc : α → List Value} {k : Nat} (hk0 : 0 < k) (hk : ∀ x, (enc x).length = k) (x0 : α) (n : Nat) : madeCells (enc x0).toArray (n * k) = ((List.replicate n x0).flatMap enc).toArray := by
  apply Array.ext
  · have := flatMap_len hk (List.replicate n x0)
    simp only [List.size_toArray, this, List.length_replicate]; simp [madeCells]
  · intro i h1 h2
    have hi : i < n * k := by simpa [madeCells] using h1
    have hq : i / k < n := (Nat.div_lt_iff_lt_mul hk0).2 hi
    have hm : i % k < k := Nat.mod_lt _ hk0
    have hlt : i % k < (enc x0).length := by rw [hk]; exact hm
    have h3 := flatMap_at hk (List.replicate n x0) (i / k) (i % k) ((enc x0)[i % k]) (by simpa using hq) (by
      rw [show nth (List.replicate n x0) (i / k) = x0 by simp [nth, List.getD_eq_getElem?_getD, hq]]
      exact List.getElem?_eq_getElem hlt)
    rw [show i / k * k + i % k = i from Nat.div_add_mod' i k] at h3
    have h4 : (madeCells (enc x0).toArray (n * k))[i] = (enc x0)[i % k] := by
      simp only [madeCells, Array.getElem_map, Array.getElem_range, List.size_toArray, hk]
      rw [getElem!_pos _ _ (by rw [List.size_toArray]; exact hlt)]
      simp
    rw [h4]
    have h5 : ((List.replicate n x0).flatMap enc)[i]'(by simpa using h2) = (enc x0)[i % k] := by
      rw [List.getElem_eq_iff]; exact h3
    simpa using h5.symm
section
variable {rd : Option Nat} {P : Program} {ops : Array Oper} {Q : Exit → Act → World → Prop} {N : Nat} {ds : List Deferred} {rest : List Oper} {L : Slots} {w : World}
variable {d : Nat} {ty : TypeId} {pos : String} {aft : Array Edge} {g : Option (Nat × Bool)}
theorem t_makeN {α : Type} [Inhabited α] {enc : α → List Value} {k : Nat} {t e : TypeId} {x y : Operand} {n bytes : Nat} {m : Int} {z : Value} (x0 : α) (hu : P.underlying t = some (.slice e)) (hi : (P.info? e).map (fun i => (i.zero, i.size, i.bytes)) = some (some z, k, bytes)) (hz : z.cells = (enc x0).toArray) (hk0 : 0 < k) (hk : ∀ x, (enc x).length = k) (hb : bytes ≤ 1000)
    (hg : grd ops L g = true) (hN : Nat.blt d N = true) (hx : ev L x = some (.int .i64 m)) (hy : ev L y = some (.int .i64 m)) (em : m = (n : Int)) (hn : n ≤ 1000000)
    (h : ∀ b w', b = w.heap.size → w'.heap.size = w.heap.size + 1 → Acc enc k e b w' (some ⟨b, 0, none⟩) b n (List.replicate n x0) → Ext w w' → WL rd P ops Q N ds rest ((d, .slice (some ⟨b, 0, none⟩) n n) :: L) w') :
    WL rd P ops Q N ds (⟨some d, .makeSlice t x y, ty, pos, aft, g⟩ :: rest) L w := by
  subst em
  obtain ⟨i, hi0, hi1, hi2, hi3⟩ := info_parts' hi
  have hbn : (bytes : Int) * (n : Int) ≤ 1000 * 1000000 := by
    have := Nat.mul_le_mul hb hn
    have h2 : ((bytes * n : Nat) : Int) ≤ ((1000 * 1000000 : Nat) : Int) := by omega
    rw [Int.natCast_mul] at h2
    omega
  have hr := run_make (P := P) w t e i z hu hi0 hi1 .i64 .i64 (n : Int) (n : Int) (by omega) (Int.le_refl _) (by rw [hi3]; omega) (by omega)
  rw [hi2, Int.toNat_natCast, hz, made_flat hk0 hk x0 n] at hr
  have hB := Blk.new w e ((List.replicate n x0).flatMap enc)
  have hA := Acc.ofBlk enc k hk hB (Nat.le_refl _) (by simpa using hn)
  rw [List.length_replicate] at hA
  exact WL.value (w' := w.alloc (.cells ((List.replicate n x0).flatMap enc).toArray e)) hg rfl hN (fun a hk => by simp [execOp, hk.ev hx, hk.ev hy, hr]) (h _ _ rfl (by simp) hA (Upd.alloc _ _))
end
end Go.Proofs.YtagmodjadmecdaaGreat
