/-
  append(slices.Clip(xs), y): always a new array. Conditions: none; it holds over any program.
-/
import Derived.Test.YtagmodjadmecdaaGreatHApp
import Derived.ArgAppend
namespace Go.Proofs.YtagmodjadmecdaaGreat
open Go Go.RowKit
section
variable {rd : Option Nat} {P : Program} {ops : Array Oper} {Q : Exit → Act → World → Prop} {N : Nat} {ds : List Deferred} {rest : List Oper} {L : Slots} {w : World}
variable {d : Nat} {ty : TypeId} {pos : String} {aft : Array Edge} {g : Option (Nat × Bool)}

theorem t_sliceC {t e : TypeId} {x hi mx : Operand} {ao : Option Addr} {n cap k : Nat} {kh km : IntKind} {mh mm : Int} (hu : P.underlying t = some (.slice e)) (hsz : ∀ w, (sizeOf e).run P w = .ok k w)
    (hg : grd ops L g = true) (hN : Nat.blt d N = true) (hx : ev L x = some (.slice ao n cap)) (hhi : ev L hi = some (.int kh mh)) (hmx : ev L mx = some (.int km mm)) (e1 : mh = (n : Int)) (e2 : mm = (n : Int)) (b2 : n ≤ cap)
    (h : WL rd P ops Q N ds rest ((d, .slice (subAddr ao n 0 k) n n) :: L) w) : WL rd P ops Q N ds (⟨some d, .slice t x none (some hi) (some mx), ty, pos, aft, g⟩ :: rest) L w :=
  WL.value hg rfl hN (fun a hk => by
    subst e1 e2
    have q1 : (0 : Int) ≤ (n : Int) ∧ (n : Int) ≤ (cap : Int) := by omega
    simp [execOp, Instr.sliceAt, run_underlying hu, Instr.slice, Instr.sliceBounds, Instr.sliceBound, hk.ev hx, hk.ev hhi, hk.ev hmx, asIntOf, b2, hsz, subAddr]) h

theorem acc_of_owns {α : Type} {enc : α → List Value} {k : Nat} {e : TypeId} {w w' : World} {v : Value} {xs : List α} {y : α} (hk : ∀ x, (enc x).length = k) (h : w'.ownsRow w.heap.size e k v (xs.length + 1) (xs.flatMap enc ++ enc y)) :
    ∃ gg cc, v = .slice (some ⟨gg, 0, none⟩) (xs ++ [y]).length cc ∧ w.heap.size ≤ gg ∧ Acc enc k e w.heap.size w' (some ⟨gg, 0, none⟩) gg cc (xs ++ [y]) := by
  have hlen' : (xs ++ [y]).length = xs.length + 1 := by simp
  obtain ⟨hl, hown⟩ := h
  rcases hown with ⟨_, hq⟩ | ⟨g2, cap2, cur, he, hbg, hh, hc1, hc2, hc3, hc4⟩
  · omega
  · refine ⟨g2, cap2, by rw [hlen']; exact he, hbg, ?_, .inr ⟨rfl, hbg, cur, hh, by rw [hlen']; exact hc1, hc2, hc3, ?_⟩⟩
    · rcases Nat.lt_or_ge g2 w'.heap.size with h | h
      · exact h
      · rw [Array.getElem?_eq_none h] at hh; cases hh
    · rw [hlen']; simpa using hc4

theorem t_appClip {α : Type} [Inhabited α] {enc : α → List Value} {k : Nat} {t e : TypeId} {z : Value} {bytes : Nat} {s x : Operand} {ao : Option Addr} {b o n bx c : Nat} {xs : List α} (y : α)
    (hu : P.underlying t = some (.slice e)) (hi : (P.info? e).map (fun i => (i.zero, i.size, i.bytes)) = some (some z, k, bytes)) (hz : z.cells.size = k) (hk0 : 0 < k) (hk : ∀ x, (enc x).length = k) (h1 : ∀ x, ∀ u ∈ enc x, u.oneCell' = true)
    (hg : grd ops L g = true) (hN : Nat.blt d N = true) (hs : ev L s = some (.slice ao n n)) (hx : ev L x = some (.slice (some ⟨bx, 0, none⟩) 1 c)) (hn : n = xs.length)
    (ha : Sl enc k w ao b o xs) (hb : Blk w bx e (enc y)) (hlen : xs.length ≤ 1000000) (hbytes : bytes ≤ 1000)
    (h : ∀ g' cap' w', Acc enc k e w.heap.size w' (some ⟨g', 0, none⟩) g' cap' (xs ++ [y]) → Ext w w' → w.heap.size ≤ g' → WL rd P ops Q N ds rest ((d, .slice (some ⟨g', 0, none⟩) (xs ++ [y]).length cap') :: L) w') :
    WL rd P ops Q N ds (⟨some d, .call ⟨.builtin .append, #[s, x], #[t, t]⟩, ty, pos, aft, g⟩ :: rest) L w := by
  subst hn
  obtain ⟨i, hi0, hi1, hi2, hi3⟩ := info_parts' hi
  have hlen' : (xs ++ [y]).length = xs.length + 1 := by simp
  have hb2 : (xs.length + 1) * bytes ≤ 140737488355328 := by
    have : (xs.length + 1) * bytes ≤ 1000001 * 1000 := Nat.mul_le_mul (by omega) hbytes
    omega
  have hnews : ∀ j u, (enc y)[j]? = some u → w.cell? ((⟨bx, 0, none⟩ : Addr).add j) = some u := fun j u hj => by rw [addr_add, Nat.zero_add]; exact hb.get hj
  have key : ∃ v' w', (Builtin.append_ #[t, t] ty #[.slice ao xs.length xs.length, .slice (some ⟨bx, 0, none⟩) 1 c]).run P w = .ok v' w' ∧ w'.ownsRow w.heap.size e k v' (xs.length + 1) (xs.flatMap enc ++ enc y) ∧ w.grownBy w' none := by
    rcases Nat.eq_zero_or_pos xs.length with h0 | h0
    · have : xs = [] := List.eq_nil_of_length_eq_zero h0
      subst this
      cases ao with
      | none =>
        obtain ⟨gg, cc, w', hr, hown, hgrow, _⟩ := run_append_lies (P := P) (w := w) t ty w.heap.size e i z k bytes hu hi0 hi1 hi2 hi3 hz hk0 (.slice none 0 0) 0 [] (World.ownsRow_nil w w.heap.size e k)
          ⟨bx, 0, none⟩ 1 c (enc y) (by rw [hk, Nat.one_mul]) hnews (h1 y) (by decide) (by unfold maxLen; omega) (by simpa using hb2) (Nat.le_refl _) _ rfl
        exact ⟨_, w', hr, hown, ⟨hgrow.os, hgrow.tape, hgrow.output, hgrow.size, fun q hq _ => hgrow.block q hq (by simp [Value.ownBlock])⟩⟩
      | some a =>
        exact run_append_arg_grows (P := P) w t ty e i z k bytes hu hi0 hi1 hi2 hi3 hz hk0 a 0 0 [] (by simp) (fun j u hj => by simp at hj) ⟨bx, 0, none⟩ 1 c (enc y) (by rw [hk, Nat.one_mul]) hnews (by omega) (by unfold maxLen; omega) (by simpa using hb2)
    · have hay := ha.addr h0
      subst hay
      exact run_append_arg_grows (P := P) w t ty e i z k bytes hu hi0 hi1 hi2 hi3 hz hk0 ⟨b, o, none⟩ xs.length xs.length (xs.flatMap enc) (flatMap_len hk xs) (sl_cells hk0 hk ha) ⟨bx, 0, none⟩ 1 c (enc y) (by rw [hk, Nat.one_mul]) hnews (by omega) (by unfold maxLen; omega) hb2
  obtain ⟨v', w', hr, hown, hgrow⟩ := key
  obtain ⟨gg, cc, rfl, hge, hacc⟩ := acc_of_owns hk hown
  have hupd : Ext w w' := ⟨hgrow.os, hgrow.tape, hgrow.output, hgrow.size, fun q hq _ => hgrow.block q hq (by simp)⟩
  refine WL.value hg rfl hN (fun a hk' => ?_) (h _ _ w' hacc hupd hge)
  simp only [execOp, resolve, invoke, builtin]
  simp [hk'.ev hs, hk'.ev hx, hr]
theorem t_copyE {α : Type} [Inhabited α] {enc : α → List Value} {k : Nat} {t e : TypeId} {z : Value} {bytes bk : Nat} {s x : Operand} {ay : Option Addr} {b o c : Nat} {ys : List α}
    (hu : P.underlying t = some (.slice e)) (hi : (P.info? e).map (fun i => (i.zero, i.size, i.bytes)) = some (some z, k, bytes)) (hz : z.cells.size = k) (hk0 : 0 < k) (hk : ∀ x, (enc x).length = k) (h1 : ∀ x, ∀ u ∈ enc x, u.oneCell' = true)
    (hg : grd ops L g = true) (hN : Nat.blt d N = true) (hs : ev L s = some (.slice (some ⟨bk, 0, none⟩) 0 0)) (hx : ev L x = some (.slice ay ys.length c))
    (hB : Blk w bk e []) (hb : Sl enc k w ay b o ys) (hlen2 : ys.length ≤ 1000000) (hbytes : bytes ≤ 1000)
    (h : ∀ ao' g' cap' w', Acc enc k e bk w' ao' g' cap' ys → Ext w w' → ((g' = bk ∨ w.heap.size ≤ g') ∧ (0 < ys.length → w.heap.size ≤ g')) → WL rd P ops Q N ds rest ((d, .slice ao' ys.length cap') :: L) w') :
    WL rd P ops Q N ds (⟨some d, .call ⟨.builtin .append, #[s, x], #[t, t]⟩, ty, pos, aft, g⟩ :: rest) L w := by
  obtain ⟨i, hi0, hi1, hi2, hi3⟩ := info_parts' hi
  have hl := hB.lt
  rcases Nat.eq_zero_or_pos ys.length with h0 | h0
  · have : ys = [] := List.eq_nil_of_length_eq_zero h0
    subst this
    have hr : (Builtin.append_ #[t, t] ty #[.slice (some ⟨bk, 0, none⟩) 0 0, .slice ay ([] : List α).length c]).run P w = .ok (.slice (some ⟨bk, 0, none⟩) 0 0) w := by
      cases ay <;> simp [Builtin.append_, run_underlying hu, sizeOf, typeInfo, hi0, Builtin.lenOf, Builtin.firstCells, loadCells, loadCellsFrom, storeCells]
    exact WL.value hg rfl hN (fun a hk' => by
      have hx' : a.eval x = .slice ay 0 c := hk'.ev hx
      have hr' : (Builtin.append_ #[t, t] ty #[.slice (some ⟨bk, 0, none⟩) 0 0, .slice ay 0 c]).run P w = .ok (.slice (some ⟨bk, 0, none⟩) 0 0) w := hr
      simp only [execOp, resolve, invoke, builtin]
      simp [hk'.ev hs, hx', hr']) (h (some ⟨bk, 0, none⟩) bk 0 w (Acc.lit enc k hB (Nat.le_refl _)) (Upd.refl _ _) ⟨.inl rfl, fun h => absurd h (Nat.lt_irrefl _)⟩)
  · have hay := hb.addr h0
    subst hay
    obtain ⟨v', w', hr, hown, hgrow⟩ := run_append_arg_grows (P := P) w t ty e i z k bytes hu hi0 hi1 hi2 hi3 hz hk0 ⟨bk, 0, none⟩ 0 0 [] (by simp) (fun j u hj => by simp at hj) ⟨b, o, none⟩ ys.length c (ys.flatMap enc) (flatMap_len hk ys) (sl_cells hk0 hk hb) (by omega) (by unfold maxLen; omega) (by
      have : (0 + ys.length) * bytes ≤ 1000000 * 1000 := Nat.mul_le_mul (by omega) hbytes
      omega)
    have hupd : Ext w w' := ⟨hgrow.os, hgrow.tape, hgrow.output, hgrow.size, fun q hq _ => hgrow.block q hq (by simp)⟩
    obtain ⟨hl2, hown⟩ := hown
    rcases hown with ⟨_, hq⟩ | ⟨g2, cap2, cur, rfl, hbg, hh, hc1, hc2, hc3, hc4⟩
    · omega
    · rw [Nat.zero_add] at hr hc1 hc4
      have hacc : Acc enc k e bk w' (some ⟨g2, 0, none⟩) g2 cap2 ys := by
        refine ⟨?_, .inr ⟨rfl, by omega, cur, hh, hc1, hc2, hc3, by simpa using hc4⟩⟩
        rcases Nat.lt_or_ge g2 w'.heap.size with h | h
        · exact h
        · rw [Array.getElem?_eq_none h] at hh; cases hh
      refine WL.value hg rfl hN (fun a hk' => ?_) (h _ _ _ w' hacc hupd ⟨.inr hbg, fun _ => hbg⟩)
      simp only [execOp, resolve, invoke, builtin]
      simp [hk'.ev hs, hk'.ev hx, hr]
end
end Go.Proofs.YtagmodjadmecdaaGreat
