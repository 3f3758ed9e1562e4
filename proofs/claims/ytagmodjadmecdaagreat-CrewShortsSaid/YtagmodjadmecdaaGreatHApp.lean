/-
  append(s, t...): a whole slice added to a gathered one. Conditions: none; they hold over any program.
-/
import Derived.Test.YtagmodjadmecdaaGreatHAcc
namespace Go.Proofs.YtagmodjadmecdaaGreat
open Go Go.RowKit

theorem Acc.lit {α : Type} (enc : α → List Value) (k : Nat) {e : TypeId} {base : Nat} {w : World} {b : Nat} (h : Blk w b e []) (hb : base ≤ b) : Acc enc k e base w (some ⟨b, 0, none⟩) b 0 [] :=
  ⟨h.lt, .inr ⟨rfl, hb, #[], h, Nat.le_refl _, by decide, by simp, by simp⟩⟩

theorem sl_cells {α : Type} [Inhabited α] {enc : α → List Value} {k : Nat} (hk0 : 0 < k) (hk : ∀ x, (enc x).length = k) {w : World} {ao : Option Addr} {b o : Nat} {xs : List α} (h : Sl enc k w ao b o xs) : ∀ j u, (xs.flatMap enc)[j]? = some u → w.cell? (Addr.add ⟨b, o, none⟩ j) = some u := by
  intro j u hj
  have hlt : j < xs.length * k := by
    rw [← flatMap_len hk xs]
    exact (List.getElem?_eq_some_iff.1 hj).1
  have hi : j / k < xs.length := (Nat.div_lt_iff_lt_mul hk0).2 hlt
  have hm : j % k < k := Nat.mod_lt _ hk0
  have h2 := flatMap_at hk xs (j / k) (j % k) ((enc (nth xs (j / k)))[j % k]'(by rw [hk]; exact hm)) hi (by simp [hk, hm])
  rw [Nat.div_add_mod'] at h2
  rw [h2] at hj
  cases hj
  have := h.at_ (j / k) hi (j % k) ((enc (nth xs (j / k)))[j % k]'(by rw [hk]; exact hm)) (by simp [hk, hm])
  rw [addr_add]
  rwa [Nat.add_assoc, Nat.div_add_mod'] at this

section
variable {rd : Option Nat} {P : Program} {ops : Array Oper} {Q : Exit → Act → World → Prop} {N : Nat} {ds : List Deferred} {rest : List Oper} {L : Slots} {w : World}
variable {d : Nat} {ty : TypeId} {pos : String} {aft : Array Edge} {g : Option (Nat × Bool)}

theorem t_appendAll {α : Type} [Inhabited α] {enc : α → List Value} {k : Nat} {t e : TypeId} {z : Value} {bytes base : Nat} {s x : Operand} {ao ay : Option Addr} {gb cap b o c : Nat} {xs ys : List α}
    (hu : P.underlying t = some (.slice e)) (hi : (P.info? e).map (fun i => (i.zero, i.size, i.bytes)) = some (some z, k, bytes)) (hz : z.cells.size = k) (hk0 : 0 < k) (hk : ∀ x, (enc x).length = k) (h1 : ∀ x, ∀ u ∈ enc x, u.oneCell' = true)
    (hg : grd ops L g = true) (hN : Nat.blt d N = true) (hs : ev L s = some (.slice ao xs.length cap)) (hx : ev L x = some (.slice ay ys.length c))
    (ha : Acc enc k e base w ao gb cap xs) (hb : Sl enc k w ay b o ys) (hbase : base ≤ w.heap.size) (hlen : xs.length ≤ 1000000) (hlen2 : ys.length ≤ 1000000) (hbytes : bytes ≤ 1000)
    (h : ∀ ao' g' cap' w', Acc enc k e base w' ao' g' cap' (xs ++ ys) → Upd (fun i => i = gb ∧ base ≤ i) w w' → (g' = gb ∨ w.heap.size ≤ g') → (xs ++ ys).length = xs.length + ys.length → WL rd P ops Q N ds rest ((d, .slice ao' (xs ++ ys).length cap') :: L) w') :
    WL rd P ops Q N ds (⟨some d, .call ⟨.builtin .append, #[s, x], #[t, t]⟩, ty, pos, aft, g⟩ :: rest) L w := by
  obtain ⟨i, hi0, hi1, hi2, hi3⟩ := info_parts' hi
  have hlen' : (xs ++ ys).length = xs.length + ys.length := by simp
  rcases Nat.eq_zero_or_pos ys.length with h0 | h0
  · have : ys = [] := List.eq_nil_of_length_eq_zero h0
    subst this
    have hle := ha.cap_le
    have hr : (Builtin.append_ #[t, t] ty #[.slice ao xs.length cap, .slice ay ([] : List α).length c]).run P w = .ok (.slice ao xs.length cap) w := by
      cases ao <;> cases ay <;> simp [Builtin.append_, run_underlying hu, sizeOf, typeInfo, hi0, Builtin.lenOf, Builtin.firstCells, loadCells, loadCellsFrom, storeCells, hle]
    have hacc : Acc enc k e base w ao gb cap (xs ++ []) := by simpa using ha
    have := h ao gb cap w hacc (Upd.refl _ _) (.inl rfl) hlen'
    rw [show (xs ++ ([] : List α)).length = xs.length from by simp] at this
    exact WL.value hg rfl hN (fun a hk' => by
      have hx' : a.eval x = .slice ay 0 c := hk'.ev hx
      have hr' : (Builtin.append_ #[t, t] ty #[.slice ao xs.length cap, .slice ay 0 c]).run P w = .ok (.slice ao xs.length cap) w := hr
      simp only [execOp, resolve, invoke, builtin]
      simp [hk'.ev hs, hx', hr']) this
  · have hay := hb.addr h0
    subst hay
    obtain ⟨gg, cc, w', hr, hown, hgrow, hgeq⟩ := run_append_lies (P := P) (w := w) t ty base e i z k bytes hu hi0 hi1 hi2 hi3 hz hk0 (.slice ao xs.length cap) xs.length (xs.flatMap enc) (ha.owns hk)
      ⟨b, o, none⟩ ys.length c (ys.flatMap enc) (flatMap_len hk ys) (sl_cells hk0 hk hb) (fun u hu => by
        obtain ⟨y, _, hy⟩ := List.mem_flatMap.1 hu
        exact h1 y u hy) h0 (by unfold maxLen; omega) (by
        have : (xs.length + ys.length) * bytes ≤ 2000000 * 1000 := Nat.mul_le_mul (by omega) hbytes
        omega) hbase _ rfl
    have hacc : Acc enc k e base w' (some ⟨gg, 0, none⟩) gg cc (xs ++ ys) := by
      obtain ⟨hl, hown⟩ := hown
      rcases hown with ⟨hq, _⟩ | ⟨g2, cap2, cur, he, hbg, hh, hc1, hc2, hc3, hc4⟩
      · cases hq
      · cases he
        refine ⟨?_, .inr ⟨rfl, hbg, cur, hh, by rw [hlen']; exact hc1, hc2, hc3, ?_⟩⟩
        · rcases Nat.lt_or_ge gg w'.heap.size with h | h
          · exact h
          · rw [Array.getElem?_eq_none h] at hh; cases hh
        · rw [hlen']; simpa using hc4
    have hupd : Upd (fun i => i = gb ∧ base ≤ i) w w' := ⟨hgrow.os, hgrow.tape, hgrow.output, hgrow.size, fun q hq hn => hgrow.block q hq (fun he => by
      rcases ha.at_ with ⟨h1, _, _, _⟩ | ⟨h1, h2, _⟩
      · subst h1; cases he
      · subst h1; simp [Value.ownBlock] at he; exact hn ⟨he, by omega⟩)⟩
    have hge : gg = gb ∨ w.heap.size ≤ gg := by
      rcases hgeq with h | h
      · left
        rcases ha.at_ with ⟨h1, _, _, _⟩ | ⟨h1, h2, _⟩
        · subst h1; simp [Value.ownBlock] at h
        · subst h1; simp [Value.ownBlock] at h; omega
      · right; omega
    have := h _ _ _ w' hacc hupd hge hlen'
    rw [hlen'] at this
    refine WL.value hg rfl hN (fun a hk' => ?_) this
    simp only [execOp, resolve, invoke, builtin]
    simp [hk'.ev hs, hk'.ev hx, hr]

theorem t_copy {α : Type} [Inhabited α] {enc : α → List Value} {k : Nat} {t e : TypeId} {z : Value} {bytes bk : Nat} {s x : Operand} {ay : Option Addr} {b o c : Nat} {ys : List α}
    (hu : P.underlying t = some (.slice e)) (hi : (P.info? e).map (fun i => (i.zero, i.size, i.bytes)) = some (some z, k, bytes)) (hz : z.cells.size = k) (hk0 : 0 < k) (hk : ∀ x, (enc x).length = k) (h1 : ∀ x, ∀ u ∈ enc x, u.oneCell' = true)
    (hg : grd ops L g = true) (hN : Nat.blt d N = true) (hs : ev L s = some (.slice (some ⟨bk, 0, none⟩) 0 0)) (hx : ev L x = some (.slice ay ys.length c))
    (hB : Blk w bk e []) (hb : Sl enc k w ay b o ys) (hlen2 : ys.length ≤ 1000000) (hbytes : bytes ≤ 1000)
    (h : ∀ ao' g' cap' w', Acc enc k e bk w' ao' g' cap' ys → Upd (fun i => i = bk ∧ bk ≤ i) w w' → bk ≤ g' → WL rd P ops Q N ds rest ((d, .slice ao' ys.length cap') :: L) w') :
    WL rd P ops Q N ds (⟨some d, .call ⟨.builtin .append, #[s, x], #[t, t]⟩, ty, pos, aft, g⟩ :: rest) L w :=
  have hl := hB.lt
  t_appendAll (xs := ([] : List α)) (gb := bk) (cap := 0) (base := bk) hu hi hz hk0 hk h1 hg hN hs hx (Acc.lit enc k hB (Nat.le_refl _)) hb (Nat.le_of_lt hl) (by simp) hlen2 hbytes
    fun ao' g' cap' w' ha hu' hg' _ => h ao' g' cap' w' ha hu' (by omega)

theorem Acc.ofBlk {α : Type} (enc : α → List Value) (k : Nat) (hk : ∀ x, (enc x).length = k) {e : TypeId} {base : Nat} {w : World} {b : Nat} {xs : List α} (h : Blk w b e (xs.flatMap enc)) (hb : base ≤ b) (hl : xs.length ≤ 1000000) : Acc enc k e base w (some ⟨b, 0, none⟩) b xs.length xs :=
  ⟨h.lt, .inr ⟨rfl, hb, (xs.flatMap enc).toArray, h, Nat.le_refl _, by unfold maxLen; omega, by simp [flatMap_len hk xs], List.take_of_length_le (by show (xs.flatMap enc).length ≤ _; rw [flatMap_len hk xs]; exact Nat.le_refl _)⟩⟩

theorem t_appLit {α : Type} [Inhabited α] {enc : α → List Value} {k : Nat} {t e : TypeId} {z : Value} {bytes bk : Nat} {s x : Operand} {ay : Option Addr} {b o c : Nat} {xs ys : List α}
    (hu : P.underlying t = some (.slice e)) (hi : (P.info? e).map (fun i => (i.zero, i.size, i.bytes)) = some (some z, k, bytes)) (hz : z.cells.size = k) (hk0 : 0 < k) (hk : ∀ x, (enc x).length = k) (h1 : ∀ x, ∀ u ∈ enc x, u.oneCell' = true)
    (hg : grd ops L g = true) (hN : Nat.blt d N = true) (hs : ev L s = some (.slice (some ⟨bk, 0, none⟩) xs.length xs.length)) (hx : ev L x = some (.slice ay ys.length c))
    (hB : Blk w bk e (xs.flatMap enc)) (hb : Sl enc k w ay b o ys) (hlen : xs.length ≤ 1000000) (hlen2 : ys.length ≤ 1000000) (hbytes : bytes ≤ 1000)
    (h : ∀ ao' g' cap' w', Acc enc k e bk w' ao' g' cap' (xs ++ ys) → Upd (fun i => i = bk ∧ bk ≤ i) w w' → bk ≤ g' → WL rd P ops Q N ds rest ((d, .slice ao' (xs ++ ys).length cap') :: L) w') :
    WL rd P ops Q N ds (⟨some d, .call ⟨.builtin .append, #[s, x], #[t, t]⟩, ty, pos, aft, g⟩ :: rest) L w :=
  have hl := hB.lt
  t_appendAll (xs := xs) (gb := bk) (cap := xs.length) (base := bk) hu hi hz hk0 hk h1 hg hN hs hx (Acc.ofBlk enc k hk hB (Nat.le_refl _) hlen) hb (Nat.le_of_lt hl) hlen hlen2 hbytes
    fun ao' g' cap' w' ha hu' hg' _ => h ao' g' cap' w' ha hu' (by omega)
end

def Fam {α β : Type} [Inhabited β] (enc : β → List Value) (k : Nat) (ga : α → Option Addr) (gb go : α → Nat) (gx : α → List β) (base g2 lim : Nat) (rows : List α) (w : World) : Prop :=
  ∀ r ∈ rows, Sl enc k w (ga r) (gb r) (go r) (gx r) ∧ (0 < (gx r).length → base ≤ gb r ∧ gb r ≠ g2 ∧ gb r < lim)
section
variable {α β : Type} [Inhabited β] {enc : β → List Value} {k : Nat} {ga : α → Option Addr} {gb go : α → Nat} {gx : α → List β} {base g2 lim : Nat} {rows : List α} {w w' : World}
theorem Fam.nil : Fam enc k ga gb go gx base g2 lim [] w := fun _ h => by cases h
theorem Fam.keep {S : Nat → Prop} (h : Fam enc k ga gb go gx base g2 lim rows w) (u : Upd S w w') (hS : ∀ i, base ≤ i → i ≠ g2 → i < lim → ¬ S i) : Fam enc k ga gb go gx base g2 lim rows w' := fun r hr => by
  obtain ⟨h1, h2⟩ := h r hr
  exact ⟨h1.keep u (fun hp => hS _ (h2 hp).1 (h2 hp).2.1 (h2 hp).2.2), h2⟩
theorem Fam.mono {lim' : Nat} (h : Fam enc k ga gb go gx base g2 lim rows w) (hl : lim ≤ lim') : Fam enc k ga gb go gx base g2 lim' rows w := fun r hr => ⟨(h r hr).1, fun hp => by have := (h r hr).2 hp; omega⟩
end
end Go.Proofs.YtagmodjadmecdaaGreat
