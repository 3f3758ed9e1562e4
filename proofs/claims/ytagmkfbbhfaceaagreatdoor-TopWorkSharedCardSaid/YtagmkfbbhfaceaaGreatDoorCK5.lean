/-
  Part 5 of the proof: contracts and plain laws. Conditions: none.
-/
import Derived.ArgAppend
import Derived.Lib.AppendZerosOnto
import Derived.Lib.Overlaps
import Derived.Laws.Externs
import Derived.Lib.SliceRun
import Derived.LoopNIn
import Derived.Test.YtagmkfbbhfaceaaGreatDoorProg
import Derived.Shelf.Small.Bits
import Derived.Ground.NamesProg
import Derived.Lib.ItoaNum
import Derived.Test.YtagmkfbbhfaceaaGreatDoorCK4
namespace Go.Proofs.YtagmkfbbhfaceaaGreatDoor
open Go Go.RowKit
section
variable {rd : Option Nat} {P : Program} {ops : Array Oper} {Q : Exit → Act → World → Prop} {N : Nat} {ds : List Deferred} {rest : List Oper} {L : Slots} {w : World}
variable {d : Nat} {ty : TypeId} {pos : String} {aft : Array Edge} {g : Option (Nat × Bool)}

/-- xs[:len(xs):len(xs)]. -/
theorem t_sliceC {t e : TypeId} {x hi mx : Operand} {ao : Option Addr} {n cap k : Nat} {kh km : IntKind} {mh mm : Int} (hu : P.underlying t = some (.slice e)) (hsz : ∀ w, (sizeOf e).run P w = .ok k w)
    (hg : grd ops L g = true) (hN : Nat.blt d N = true) (hx : ev L x = some (.slice ao n cap)) (hhi : ev L hi = some (.int kh mh)) (hmx : ev L mx = some (.int km mm)) (e1 : mh = (n : Int)) (e2 : mm = (n : Int)) (b2 : n ≤ cap)
    (h : WL rd P ops Q N ds rest ((d, .slice (subAddr ao n 0 k) n n) :: L) w) : WL rd P ops Q N ds (⟨some d, .slice t x none (some hi) (some mx), ty, pos, aft, g⟩ :: rest) L w :=
  WL.value hg rfl hN (fun a hk => by
    subst e1 e2
    have q1 : (0 : Int) ≤ (n : Int) ∧ (n : Int) ≤ (cap : Int) := by omega
    simp [execOp, Instr.sliceAt, run_underlying hu, Instr.slice, Instr.sliceBounds, Instr.sliceBound, hk.ev hx, hk.ev hhi, hk.ev hmx, asIntOf, b2, hsz, subAddr]) h

theorem acc_of_owns {α : Type} {enc : α → List Value} {k : Nat} {e : TypeId} {w w' : World} {v : Value} {xs : List α} {y : α} (_hk : ∀ x, (enc x).length = k) (h : w'.ownsRow w.heap.size e k v (xs.length + 1) (xs.flatMap enc ++ enc y)) :
    ∃ gg cc, v = .slice (some ⟨gg, 0, none⟩) (xs ++ [y]).length cc ∧ w.heap.size ≤ gg ∧ Acc enc k e w.heap.size w' (some ⟨gg, 0, none⟩) gg cc (xs ++ [y]) := by
  have hlen' : (xs ++ [y]).length = xs.length + 1 := by simp
  obtain ⟨hl, hown⟩ := h
  rcases hown with ⟨_, hq⟩ | ⟨g2, cap2, cur, he, hbg, hh, hc1, hc2, hc3, hc4⟩
  · omega
  · refine ⟨g2, cap2, by rw [hlen']; exact he, hbg, ?_, .inr ⟨rfl, hbg, cur, hh, by rw [hlen']; exact hc1, hc2, hc3, ?_⟩⟩
    · rcases Nat.lt_or_ge g2 w'.heap.size with h | h
      · exact h
      · rw [Array.getElem?_eq_none h] at hh; cases hh
    · rw [hlen']; simpa using hc4

/-- append to a slice without room: of whatever array. -/
theorem t_appClip {α : Type} [Inhabited α] {enc : α → List Value} {k : Nat} {t e : TypeId} {z : Value} {bytes : Nat} {s x : Operand} {ao : Option Addr} {b o n bx c : Nat} {xs : List α} (y : α)
    (hu : P.underlying t = some (.slice e)) (hi : (P.info? e).map (fun i => (i.zero, i.size, i.bytes)) = some (some z, k, bytes)) (hz : z.cells.size = k) (hk0 : 0 < k) (hk : ∀ x, (enc x).length = k) (h1 : ∀ x, ∀ u ∈ enc x, u.oneCell' = true)
    (hg : grd ops L g = true) (hN : Nat.blt d N = true) (hs : ev L s = some (.slice ao n n)) (hx : ev L x = some (.slice (some ⟨bx, 0, none⟩) 1 c)) (hn : n = xs.length)
    (ha : Sl enc k w ao b o xs) (hb : Blk w bx e (enc y)) (hlen : xs.length ≤ 1000000) (hbytes : bytes ≤ 1000)
    (h : ∀ g' cap' w', Acc enc k e w.heap.size w' (some ⟨g', 0, none⟩) g' cap' (xs ++ [y]) → Ext w w' → w.heap.size ≤ g' → WL rd P ops Q N ds rest ((d, .slice (some ⟨g', 0, none⟩) (xs ++ [y]).length cap') :: L) w') :
    WL rd P ops Q N ds (⟨some d, .call ⟨.builtin .append, #[s, x], #[t, t]⟩, ty, pos, aft, g⟩ :: rest) L w := by
  subst hn
  obtain ⟨i, hi0, hi1, hi2, hi3⟩ := info_parts' hi
  have hlen' : (xs ++ [y]).length = xs.length + 1 := by simp
  have hb2 : (xs.length + 1) * bytes ≤ 140737488355328 := by
    have : (xs.length + 1) * bytes ≤ 1000001 * 1000 := Nat.mul_le_mul (by omega) hbytes
    omega
  have hnews : ∀ j u, (enc y)[j]? = some u → w.cell? ((⟨bx, 0, none⟩ : Addr).add j) = some u := fun j u hj => by rw [addr_add, Nat.zero_add]; exact hb.get hj
  have key : ∃ v' w', (Builtin.append_ #[t, t] ty #[.slice ao xs.length xs.length, .slice (some ⟨bx, 0, none⟩) 1 c]).run P w = .ok v' w' ∧ w'.ownsRow w.heap.size e k v' (xs.length + 1) (xs.flatMap enc ++ enc y) ∧ w.grownBy w' none := by
    rcases Nat.eq_zero_or_pos xs.length with h0 | h0
    · have : xs = [] := List.eq_nil_of_length_eq_zero h0
      subst this
      cases ao with
      | none =>
        obtain ⟨gg, cc, w', hr, hown, hgrow, _⟩ := run_append_lies (P := P) (w := w) t ty w.heap.size e i z k bytes hu hi0 hi1 hi2 hi3 hz hk0 (.slice none 0 0) 0 [] (World.ownsRow_nil w w.heap.size e k)
          ⟨bx, 0, none⟩ 1 c (enc y) (by rw [hk, Nat.one_mul]) hnews (h1 y) (by decide) (by unfold maxLen; omega) (by simpa using hb2) (Nat.le_refl _) _ rfl
        exact ⟨_, w', hr, hown, ⟨hgrow.os, hgrow.tape, hgrow.output, hgrow.size, fun q hq _ => hgrow.block q hq (by simp [Value.ownBlock])⟩⟩
      | some a =>
        exact run_append_arg_grows (P := P) w t ty e i z k bytes hu hi0 hi1 hi2 hi3 hz hk0 a 0 0 [] (by simp) (fun j u hj => by simp at hj) ⟨bx, 0, none⟩ 1 c (enc y) (by rw [hk, Nat.one_mul]) hnews (by omega) (by unfold maxLen; omega) (by simpa using hb2)
    · have hay := ha.addr h0
      subst hay
      exact run_append_arg_grows (P := P) w t ty e i z k bytes hu hi0 hi1 hi2 hi3 hz hk0 ⟨b, o, none⟩ xs.length xs.length (xs.flatMap enc) (flatMap_len hk xs) (sl_cells hk0 hk ha) ⟨bx, 0, none⟩ 1 c (enc y) (by rw [hk, Nat.one_mul]) hnews (by omega) (by unfold maxLen; omega) hb2
  obtain ⟨v', w', hr, hown, hgrow⟩ := key
  obtain ⟨gg, cc, rfl, hge, hacc⟩ := acc_of_owns hk hown
  have hupd : Ext w w' := ⟨hgrow.os, hgrow.tape, hgrow.output, hgrow.size, fun q hq _ => hgrow.block q hq (by simp)⟩
  refine WL.value hg rfl hN (fun a hk' => ?_) (h _ _ w' hacc hupd hge)
  simp only [execOp, resolve, invoke, builtin]
  simp [hk'.ev hs, hk'.ev hx, hr]
/-- append([]E{}, ys...): nothing that lay is turned. -/
theorem t_copyE {α : Type} [Inhabited α] {enc : α → List Value} {k : Nat} {t e : TypeId} {z : Value} {bytes bk : Nat} {s x : Operand} {ay : Option Addr} {b o c : Nat} {ys : List α}
    (hu : P.underlying t = some (.slice e)) (hi : (P.info? e).map (fun i => (i.zero, i.size, i.bytes)) = some (some z, k, bytes)) (hz : z.cells.size = k) (hk0 : 0 < k) (hk : ∀ x, (enc x).length = k) (_h1 : ∀ x, ∀ u ∈ enc x, u.oneCell' = true)
    (hg : grd ops L g = true) (hN : Nat.blt d N = true) (hs : ev L s = some (.slice (some ⟨bk, 0, none⟩) 0 0)) (hx : ev L x = some (.slice ay ys.length c))
    (hB : Blk w bk e []) (hb : Sl enc k w ay b o ys) (hlen2 : ys.length ≤ 1000000) (hbytes : bytes ≤ 1000)
    (h : ∀ ao' g' cap' w', Acc enc k e bk w' ao' g' cap' ys → Ext w w' → ((g' = bk ∨ w.heap.size ≤ g') ∧ (0 < ys.length → w.heap.size ≤ g')) → WL rd P ops Q N ds rest ((d, .slice ao' ys.length cap') :: L) w') :
    WL rd P ops Q N ds (⟨some d, .call ⟨.builtin .append, #[s, x], #[t, t]⟩, ty, pos, aft, g⟩ :: rest) L w := by
  obtain ⟨i, hi0, hi1, hi2, hi3⟩ := info_parts' hi
  have hl := hB.lt
  rcases Nat.eq_zero_or_pos ys.length with h0 | h0
  · have : ys = [] := List.eq_nil_of_length_eq_zero h0
    subst this
    have hr : (Builtin.append_ #[t, t] ty #[.slice (some ⟨bk, 0, none⟩) 0 0, .slice ay ([] : List α).length c]).run P w = .ok (.slice (some ⟨bk, 0, none⟩) 0 0) w := by
      cases ay <;> simp [Builtin.append_, run_underlying hu, sizeOf, typeInfo, hi0, Builtin.lenOf, Builtin.firstCells, loadCells, loadCellsFrom, storeCells]
    exact WL.value hg rfl hN (fun a hk' => by
      have hx' : a.eval x = .slice ay 0 c := hk'.ev hx
      have hr' : (Builtin.append_ #[t, t] ty #[.slice (some ⟨bk, 0, none⟩) 0 0, .slice ay 0 c]).run P w = .ok (.slice (some ⟨bk, 0, none⟩) 0 0) w := hr
      simp only [execOp, resolve, invoke, builtin]
      simp [hk'.ev hs, hx', hr']) (h (some ⟨bk, 0, none⟩) bk 0 w (Acc.lit enc k hB (Nat.le_refl _)) (Upd.refl _ _) ⟨.inl rfl, fun h => absurd h (Nat.lt_irrefl _)⟩)
  · have hay := hb.addr h0
    subst hay
    obtain ⟨v', w', hr, hown, hgrow⟩ := run_append_arg_grows (P := P) w t ty e i z k bytes hu hi0 hi1 hi2 hi3 hz hk0 ⟨bk, 0, none⟩ 0 0 [] (by simp) (fun j u hj => by simp at hj) ⟨b, o, none⟩ ys.length c (ys.flatMap enc) (flatMap_len hk ys) (sl_cells hk0 hk hb) (by omega) (by unfold maxLen; omega) (by
      have : (0 + ys.length) * bytes ≤ 1000000 * 1000 := Nat.mul_le_mul (by omega) hbytes
      omega)
    have hupd : Ext w w' := ⟨hgrow.os, hgrow.tape, hgrow.output, hgrow.size, fun q hq _ => hgrow.block q hq (by simp)⟩
    obtain ⟨hl2, hown⟩ := hown
    rcases hown with ⟨_, hq⟩ | ⟨g2, cap2, cur, rfl, hbg, hh, hc1, hc2, hc3, hc4⟩
    · omega
    · rw [Nat.zero_add] at hr hc1 hc4
      have hacc : Acc enc k e bk w' (some ⟨g2, 0, none⟩) g2 cap2 ys := by
        refine ⟨?_, .inr ⟨rfl, by omega, cur, hh, hc1, hc2, hc3, by simpa using hc4⟩⟩
        rcases Nat.lt_or_ge g2 w'.heap.size with h | h
        · exact h
        · rw [Array.getElem?_eq_none h] at hh; cases hh
      refine WL.value hg rfl hN (fun a hk' => ?_) (h _ _ _ w' hacc hupd ⟨.inr hbg, fun _ => hbg⟩)
      simp only [execOp, resolve, invoke, builtin]
      simp [hk'.ev hs, hk'.ev hx, hr]
end
end Go.Proofs.YtagmkfbbhfaceaaGreatDoor
namespace Go.Proofs.YtagmkfbbhfaceaaGreatDoor
open Go Go.RowKit

section
variable {P : Program} {ops : Array Oper} {Q : Exit → Act → World → Prop} {N : Nat} {ds : List Deferred} {rest : List Oper} {L : Slots} {w : World} {rd : Option Nat} {d : Nat} {ty : TypeId} {pos : String} {aft : Array Edge} {g : Option (Nat × Bool)}

theorem t_cap {t e : TypeId} {x : Operand} {ao : Option Addr} {n c : Nat} {ats : Array TypeId} (hu : P.underlying t = some (.slice e)) (ht : ats[0]? = some t) (hg : grd ops L g = true) (hN : Nat.blt d N = true)
    (hx : ev L x = some (.slice ao n c)) (h : WL rd P ops Q N ds rest ((d, .int .i64 (c : Int)) :: L) w) :
    WL rd P ops Q N ds (⟨some d, .call ⟨.builtin .cap, #[x], ats⟩, ty, pos, aft, g⟩ :: rest) L w :=
  WL.value hg rfl hN (fun a hk => by
    simp [execOp, resolve, invoke, builtin, Builtin.cap_, run_underlying hu, ht, hk.ev hx, goInt]) h

/-- A slice compared with nil. -/
theorem t_nilS {xt yt e : TypeId} {x y : Operand} {ao : Option Addr} {n c n' c' : Nat} (hu : P.underlying xt = some (.slice e)) (hg : grd ops L g = true) (hN : Nat.blt d N = true)
    (hx : ev L x = some (.slice ao n c)) (hy : ev L y = some (.slice none n' c')) (h : WL rd P ops Q N ds rest ((d, .bool ao.isNone) :: L) w) :
    WL rd P ops Q N ds (⟨some d, .binOp .eql xt x y yt, ty, pos, aft, g⟩ :: rest) L w :=
  WL.value hg rfl hN (fun a hk => by
    have := Lib.run_eql_slice_nil (P := P) w xt e ao n c n' c' hu
    simp [execOp, hk.ev hx, hk.ev hy, eqGuard, this]) h

/-- copy(dst, src) into a block of the call's own: all is read before anything is written. -/
theorem t_copyB {dT sT e : TypeId} {k : Nat} {x y : Operand} {b o dLen dCap sb so sLen sCap : Nat} {vs cs : List Value} {t : TypeId}
    (hu : P.underlying dT = some (.slice e)) (hs : ∀ w, (sizeOf e).run P w = .ok k w) (hg : grd ops L g = true) (hN : Nat.blt d N = true)
    (hx : ev L x = some (.slice (some ⟨b, o, none⟩) dLen dCap)) (hy : ev L y = some (.slice (some ⟨sb, so, none⟩) sLen sCap))
    (hB : Blk w b t cs) (ha : At w sb so vs) (hn : vs.length = min sLen dLen * k) (hf : o + vs.length ≤ cs.length) (h1 : ∀ v ∈ vs, v.oneCell' = true)
    (h : ∀ w', w'.heap.size = w.heap.size → Blk w' b t (lay cs o vs) → Upd (· = b) w w' → WL rd P ops Q N ds rest ((d, .int .i64 ((min sLen dLen : Nat) : Int)) :: L) w') :
    WL rd P ops Q N ds (⟨some d, .call ⟨.builtin .copy, #[x, y], #[dT, sT]⟩, ty, pos, aft, g⟩ :: rest) L w := by
  obtain ⟨w', hr, hb', hu', hz'⟩ := run_storeCells (P := P) vs w cs o 0 hB (by omega) h1
  have hl : (loadCells ⟨sb, so, none⟩ (Nat.min sLen dLen * k)).run P w = .ok vs.toArray w := by
    have := run_loadCellsFrom (P := P) (w := w) (b := sb) (off := so) (Nat.min sLen dLen * k) 0 vs #[] (show vs.length = Nat.min sLen dLen * k from hn) (by simpa using ha)
    simpa [loadCells] using this
  refine WL.value hg rfl hN (fun a hk => ?_) (h w' hz' (by simpa using hb') hu')
  have hr2 : (Builtin.copy_ #[dT, sT] ty #[.slice (some ⟨b, o, none⟩) dLen dCap, .slice (some ⟨sb, so, none⟩) sLen sCap]).run P w = .ok (goInt (Nat.min sLen dLen)) w' := by
    simp [Builtin.copy_, run_underlying hu, Builtin.lenOf, Builtin.firstCells, hs, hl, hr]
  simp only [execOp, resolve, invoke, builtin]
  rw [show ((min sLen dLen : Nat) : Int) = ((Nat.min sLen dLen : Nat) : Int) from rfl]
  simp [hk.ev hx, hk.ev hy, hr2, goInt]

theorem append_two {t t2 e e2 : TypeId} (hu : P.underlying t = some (.slice e)) (hu2 : P.underlying t2 = some (.slice e2)) (ty : TypeId) (a b : Value) (w : World) : (Builtin.append_ #[t, t2] ty #[a, b]).run P w = (Builtin.append_ #[t, t] ty #[a, b]).run P w := by
  cases a <;> simp [Builtin.append_, run_underlying hu, run_underlying hu2]
/-- append where the second argument's type has another name. -/
theorem t_append2 {α : Type} {enc : α → List Value} {k : Nat} {t t2 e e2 : TypeId} {z : Value} {bytes base : Nat} {s x : Operand} {ao : Option Addr} {gb cap b c : Nat} {xs : List α} (y : α)
    (hu : P.underlying t = some (.slice e)) (hu2 : P.underlying t2 = some (.slice e2)) (hi : (P.info? e).map (fun i => (i.zero, i.size, i.bytes)) = some (some z, k, bytes)) (hz : z.cells.size = k) (hk0 : 0 < k) (hk : ∀ x, (enc x).length = k) (h1 : ∀ x, ∀ u ∈ enc x, u.oneCell' = true)
    (hg : grd ops L g = true) (hN : Nat.blt d N = true) (hs : ev L s = some (.slice ao xs.length cap)) (hx : ev L x = some (.slice (some ⟨b, 0, none⟩) 1 c))
    (ha : Acc enc k e base w ao gb cap xs) (hb : Blk w b e (enc y)) (hbase : base ≤ w.heap.size) (hlen : xs.length ≤ 1000000) (hbytes : bytes ≤ 1000)
    (h : ∀ ao' g' cap' w', Acc enc k e base w' ao' g' cap' (xs ++ [y]) → Upd (fun i => i = gb ∧ base ≤ i) w w' → (g' = gb ∨ w.heap.size ≤ g') → (xs ++ [y]).length = xs.length + 1 → WL rd P ops Q N ds rest ((d, .slice ao' (xs ++ [y]).length cap') :: L) w') :
    WL rd P ops Q N ds (⟨some d, .call ⟨.builtin .append, #[s, x], #[t, t2]⟩, ty, pos, aft, g⟩ :: rest) L w := by
  obtain ⟨i, hi0, hi1, hi2, hi3⟩ := info_parts' hi
  obtain ⟨gg, cc, w', hr, hown, hgrow, hgeq⟩ := run_append_lies (P := P) (w := w) t ty base e i z k bytes hu hi0 hi1 hi2 hi3 hz hk0 (.slice ao xs.length cap) xs.length (xs.flatMap enc) (ha.owns hk)
    ⟨b, 0, none⟩ 1 c (enc y) (by rw [hk, Nat.one_mul]) (fun j u hj => by rw [addr_add, Nat.zero_add]; exact hb.get hj) (h1 y) (by decide) (by unfold maxLen; omega) (by
      have : (xs.length + 1) * bytes ≤ 1000001 * 1000 := Nat.mul_le_mul (by omega) hbytes
      omega) hbase _ rfl
  have hlen' : (xs ++ [y]).length = xs.length + 1 := by simp
  have hacc : Acc enc k e base w' (some ⟨gg, 0, none⟩) gg cc (xs ++ [y]) := by
    obtain ⟨hl, hown⟩ := hown
    rcases hown with ⟨h0, _⟩ | ⟨g2, cap2, cur, he, hbg, hh, hc1, hc2, hc3, hc4⟩
    · cases h0
    · cases he
      refine ⟨?_, .inr ⟨rfl, hbg, cur, hh, by rw [hlen']; exact hc1, hc2, hc3, ?_⟩⟩
      · rcases Nat.lt_or_ge gg w'.heap.size with h | h
        · exact h
        · rw [Array.getElem?_eq_none h] at hh; cases hh
      · rw [hlen']; simpa using hc4
  have hupd : Upd (fun i => i = gb ∧ base ≤ i) w w' := ⟨hgrow.os, hgrow.tape, hgrow.output, hgrow.size, fun q hq hn => hgrow.block q hq (fun he => by
    rcases ha.at_ with ⟨h1, _, _, _⟩ | ⟨h1, h2, _⟩
    · subst h1; cases he
    · subst h1; simp [Value.ownBlock] at he; exact hn ⟨he, by omega⟩)⟩
  have hge : gg = gb ∨ w.heap.size ≤ gg := by
    rcases hgeq with h | h
    · left
      rcases ha.at_ with ⟨h1, _, _, _⟩ | ⟨h1, h2, _⟩
      · subst h1; simp [Value.ownBlock] at h
      · subst h1; simp [Value.ownBlock] at h; omega
    · right; omega
  have := h _ _ _ w' hacc hupd hge hlen'
  refine WL.value hg rfl hN (fun a hk' => ?_) this
  simp only [execOp, resolve, invoke, builtin]
  simp [hk'.ev hs, hk'.ev hx, append_two hu hu2, hr]

/-- append(s[:i], make(S, m)...) where there is no room: a new row. -/
theorem t_appZ {t tn e : TypeId} {z : Value} {bytes k i m n c : Nat} {s x : Operand} {b off : Nat} {cs : List Value} {mv : Int}
    (hu : P.underlying t = some (.slice e)) (hun : P.underlying tn = some (.int .i64)) (hi : (P.info? e).map (fun i => (i.zero, i.size, i.bytes)) = some (some z, k, bytes)) (hz : z.cells.size = k) (hk0 : 0 < k)
    (hg : grd ops L g = true) (hN : Nat.blt d N = true) (hs : ev L s = some (.slice (some ⟨b, off, none⟩) i c)) (hx : ev L x = some (.int .i64 mv)) (hm : mv = (m : Int)) (hn : i + m = n) (hm0 : 0 < m) (hc : c < n)
    (hcs : cs.length = i * k) (ha : At w b off cs) (hsm : n ≤ 1000000) (hby : bytes ≤ 1000)
    (h : ∀ cap' w' zs, n ≤ cap' → cap' ≤ maxLen → List.length zs = (cap' - i) * k → Blk w' w.heap.size e (cs ++ zs) → Ext w w' → WL rd P ops Q N ds rest ((d, .slice (some ⟨w.heap.size, 0, none⟩) n cap') :: L) w') :
    WL rd P ops Q N ds (⟨some d, .call ⟨.builtin .append, #[s, x], #[t, tn]⟩, ty, pos, aft, g⟩ :: rest) L w := by
  subst hm hn
  obtain ⟨i0, hi0, hi1, hi2, hi3⟩ := info_parts' hi
  have hold : (Builtin.firstCells i0.size i (.slice (some ⟨b, off, none⟩) i c)).run P w.drew = .ok cs.toArray w.drew := by
    rw [hi2]
    exact run_firstCells_some (w := w.drew) k i ⟨b, off, none⟩ i c cs hcs (fun j v hj => by rw [addr_add]; exact ha j v hj)
  have hb1 : (i + m) * bytes ≤ 1000000 * 1000 := Nat.mul_le_mul hsm hby
  have hb2 : m * bytes ≤ 1000000 * 1000 := Nat.mul_le_mul (by omega) hby
  have hr := Lib.run_append_grow_zeros (P := P) w t tn ty e i0 z .i64 .i64 hu hun hi0 hi1 (some ⟨b, off, none⟩) i c cs hold m hm0 (by omega) hc (by omega) (by rw [hi3]; omega) (by rw [hi3]; exact growslice_fits hc (by omega))
  have hge := grownCap_ge w (i + m) c e
  have hle := grownCap_le_maxLen w (i + m) c e (by unfold maxLen; omega)
  generalize grownCap w (i + m) c e = G at hr hge hle
  have hzl : ∀ q, (Builtin.zeroCells z.cells q).size = q * k := fun q => by simp [Builtin.zeroCells, hz]
  have hB : Blk (w.drew.alloc (.cells (cs.toArray ++ Builtin.zeroCells z.cells m ++ Builtin.zeroCells z.cells (G - (i + m))) e)) w.heap.size e (cs ++ ((Builtin.zeroCells z.cells m).toList ++ (Builtin.zeroCells z.cells (G - (i + m))).toList)) := by
    have := Blk.new w.drew e (cs ++ ((Builtin.zeroCells z.cells m).toList ++ (Builtin.zeroCells z.cells (G - (i + m))).toList))
    have e2 : (cs ++ ((Builtin.zeroCells z.cells m).toList ++ (Builtin.zeroCells z.cells (G - (i + m))).toList)).toArray = cs.toArray ++ Builtin.zeroCells z.cells m ++ Builtin.zeroCells z.cells (G - (i + m)) := by
      apply Array.toList_inj.1; simp
    rw [e2] at this
    exact this
  refine WL.value hg rfl hN (fun a hk => ?_) (h G _ _ hge hle ?_ hB ((Upd.drew w).trans (Upd.alloc _ _)))
  · simp only [execOp, resolve, invoke, builtin]
    simp [hk.ev hs, hk.ev hx, hr]
  · simp only [List.length_append, Array.length_toList, hzl]
    rw [← Nat.add_mul]
    congr 1; omega

/-- slices.overlaps of two rows in two blocks of cells: no. -/
theorem t_apart {f : Operand} {k : FuncId} {fn : Func} {x y : Operand} {ats : Array TypeId} {tS tR e tA tB : TypeId} {a b oa ob la ca lb cb : Nat} {cA cB : List Value} {n : Nat}
    (hfn : P.funcs[k]? = some fn) (hname : (fn.name == "runtime.NumGoroutine") = false) (hb : fn.body.isNone = true) (hnx : Extern.findNext fn = none) (he : Extern.find fn = some (Extern.SlicesOverlaps.overlaps #[tS, tS] #[tR]))
    (hu : P.underlying tS = some (.slice e)) (hz : ∀ w, (sizeOf e).run P w = .ok n w) (hg : grd ops L g = true) (hN : Nat.blt d N = true) (hf : ev L f = some (.func (.func k) #[] #[]))
    (hx : ev L x = some (.slice (some ⟨a, oa, none⟩) la ca)) (hy : ev L y = some (.slice (some ⟨b, ob, none⟩) lb cb)) (hA : Blk w a tA cA) (hB : Blk w b tB cB) (hne : a ≠ b) (hl : 0 < cB.length)
    (h : WL rd P ops Q N ds rest ((d, .bool false) :: L) w) : WL rd P ops Q N ds (⟨some d, .call ⟨.value f, #[x, y], ats⟩, ty, pos, aft, g⟩ :: rest) L w := by
  refine WL.value hg rfl hN (fun ac hk => ?_) h
  have hsa : w.shape? a = some (tA, cA.length) := by unfold Blk at hA; simp [World.shape?, hA]
  have hsb : w.shape? b = some (tB, cB.length) := by unfold Blk at hB; simp [World.shape?, hB]
  have hr := Lib.run_overlaps_apart (P := P) w tS tR e hu n hz ⟨a, oa, none⟩ ⟨b, ob, none⟩ la ca lb cb hne tA tB cA.length cB.length hsa hsb (by omega) hA.free hA.free
  have hr2 := run_callFunc_extern hfn hname hb hnx he #[.slice (some ⟨a, oa, none⟩) la ca, .slice (some ⟨b, ob, none⟩) lb cb] w
  rw [hr] at hr2
  simp only [execOp, resolve, invoke]
  simp [hk.ev hf, hk.ev hx, hk.ev hy, Deferred.ofValue, hr2, Result.andThen]
end

theorem subAddr_some {b o cap l k : Nat} (h : l < cap) : subAddr (some ⟨b, o, none⟩) cap l k = some ⟨b, o + l * k, none⟩ := by
  unfold subAddr
  rw [if_neg (by omega)]
  exact congrArg some (addr_add b o (l * k))
theorem Acc.lower {α : Type} {enc : α → List Value} {k : Nat} {e : TypeId} {base base' : Nat} {w : World} {ao : Option Addr} {g cap : Nat} {xs : List α} (h : Acc enc k e base w ao g cap xs) (hb : base' ≤ base) (h0 : 0 < base') : ∃ g', Acc enc k e base' w ao g' cap xs := by
  rcases h.at_ with ⟨h1, h2, h3, h4⟩ | ⟨h1, h2, h3⟩
  · exact ⟨0, Nat.lt_of_le_of_lt (Nat.zero_le _) h.lt, .inl ⟨h1, h2, h3, h0⟩⟩
  · exact ⟨g, h.lt, .inr ⟨h1, by omega, h3⟩⟩
/-- The cells of the elements from a place on. -/
theorem Sl.cellsFrom {α : Type} [Inhabited α] {enc : α → List Value} {k : Nat} (hk0 : 0 < k) (hk : ∀ x, (enc x).length = k) {w : World} {ao : Option Addr} {b o : Nat} {xs : List α} (h : Sl enc k w ao b o xs) (l m : Nat) : At w b (o + l * k) (((xs.drop l).take m).flatMap enc) := fun j v hj => by
  have := sl_cells hk0 hk (h.sub xs.length l m (Nat.le_refl _)) j v hj
  rwa [addr_add] at this
/-- A gathered slice that has elements: the raw cells of its block. -/
theorem Acc.raw {α : Type} {enc : α → List Value} {k : Nat} {e : TypeId} {base : Nat} {w : World} {ao : Option Addr} {g cap : Nat} {xs : List α} (h : Acc enc k e base w ao g cap xs) (hp : 0 < cap ∨ 0 < xs.length) :
    ao = some ⟨g, 0, none⟩ ∧ base ≤ g ∧ xs.length ≤ cap ∧ cap ≤ maxLen ∧ ∃ cs, Blk w g e cs ∧ cs.length = cap * k ∧ cs.take (xs.length * k) = xs.flatMap enc := by
  rcases h.at_ with ⟨_, h1, h2, _⟩ | ⟨h1, h2, cur, h3, h4, h5, h6, h7⟩
  · subst h1 h2; rcases hp with hp | hp <;> exact absurd hp (by simp)
  · exact ⟨h1, h2, h4, h5, cur.toList, by unfold Blk; simpa using h3, by simpa using h6, h7⟩
theorem Acc.ofRaw {α : Type} {enc : α → List Value} {k : Nat} {e : TypeId} {base : Nat} {w : World} {g cap : Nat} {xs : List α} {cs : List Value} (hB : Blk w g e cs) (hb : base ≤ g) (hc : xs.length ≤ cap) (hm : cap ≤ maxLen) (hl : cs.length = cap * k) (ht : cs.take (xs.length * k) = xs.flatMap enc) : Acc enc k e base w (some ⟨g, 0, none⟩) g cap xs :=
  ⟨hB.lt, .inr ⟨rfl, hb, cs.toArray, hB, hc, hm, by simpa using hl, by simpa using ht⟩⟩
theorem lay_take : ∀ (vs cs : List Value) (i : Nat), i + vs.length ≤ cs.length → (lay cs i vs).take (i + vs.length) = cs.take i ++ vs
  | [], cs, i, _ => by simp [lay]
  | v :: vs, cs, i, h => by
    simp only [List.length_cons] at h
    show (lay (cs.set i v) (i + 1) vs).take (i + (vs.length + 1)) = _
    rw [show i + (vs.length + 1) = i + 1 + vs.length by omega, lay_take vs (cs.set i v) (i + 1) (by rw [List.length_set]; omega)]
    rw [List.take_set, show cs.take (i + 1) = cs.take i ++ [cs[i]'(by omega)] from (List.take_succ_eq_append_getElem (by omega)), List.set_append_right _ _ (by simp; omega)]
    simp [Nat.min_eq_left (show i ≤ cs.length by omega)]
theorem lay_drop : ∀ (vs cs : List Value) (i : Nat), (lay cs i vs).drop (i + vs.length) = cs.drop (i + vs.length)
  | [], cs, i => by simp [lay]
  | v :: vs, cs, i => by
    show (lay (cs.set i v) (i + 1) vs).drop (i + (vs.length + 1)) = _
    rw [show i + (vs.length + 1) = i + 1 + vs.length by omega, lay_drop vs (cs.set i v) (i + 1), List.drop_set_of_lt (by omega), show i + (v :: vs).length = i + 1 + vs.length by rw [List.length_cons]; omega]
theorem lay_eq {vs cs : List Value} {i : Nat} (h : i + vs.length ≤ cs.length) : lay cs i vs = cs.take i ++ vs ++ cs.drop (i + vs.length) := by
  rw [← lay_take vs cs i h, ← lay_drop vs cs i, List.take_append_drop]
theorem raw_take {α : Type} {enc : α → List Value} {k m : Nat} (hk : ∀ x, (enc x).length = k) {xs : List α} {C : List Value} (h : C.take (xs.length * k) = xs.flatMap enc) (hm : m ≤ xs.length) : C.take (m * k) = (xs.take m).flatMap enc := by
  have h9 := congrArg (List.take (m * k)) h
  rw [List.take_take, Nat.min_eq_left (Nat.mul_le_mul_right _ hm)] at h9
  rw [h9]
  have e : xs.flatMap enc = (xs.take m).flatMap enc ++ (xs.drop m).flatMap enc := by rw [← List.flatMap_append, List.take_append_drop]
  rw [e, List.take_left' (by rw [flatMap_len hk, List.length_take, Nat.min_eq_left hm])]
/-- An element put between others: the cells behind it were moved last. -/
theorem ins_rawA {α : Type} {enc : α → List Value} {k m n : Nat} (hk : ∀ x, (enc x).length = k) {xs : List α} {s : α} {C : List Value} (hn : xs.length = n) (hm : m < n) (hC : (n + 1) * k ≤ C.length) (h1 : C.take (m * k) = (xs.take m).flatMap enc) :
    (lay (lay C (m * k) (enc s)) ((m + 1) * k) ((xs.drop m).flatMap enc)).take ((n + 1) * k) = (xs.take m ++ s :: xs.drop m).flatMap enc := by
  have l1 : ((xs.drop m).flatMap enc).length = (n - m) * k := by rw [flatMap_len hk, List.length_drop, hn]
  have e1 : (m + 1) * k = m * k + (enc s).length := by rw [hk, Nat.succ_mul]
  have e2 : (n + 1) * k = (m + 1) * k + ((xs.drop m).flatMap enc).length := by rw [l1, ← Nat.add_mul]; congr 1; omega
  have q1 : m * k + (enc s).length ≤ C.length := by rw [← e1]; exact Nat.le_trans (Nat.mul_le_mul_right _ (by omega)) hC
  rw [e2, lay_take _ _ _ (by rw [lay_length, ← e2]; exact hC), e1, lay_take _ _ _ q1, h1]
  simp
/-- An element put between others: the cells behind it were moved first. -/
theorem ins_rawB {α : Type} {enc : α → List Value} {k m n : Nat} (hk : ∀ x, (enc x).length = k) {xs : List α} {s : α} {C : List Value} (hn : xs.length = n) (hm : m < n) (hC : (n + 1) * k ≤ C.length) (h1 : C.take (m * k) = (xs.take m).flatMap enc) :
    (lay (lay C ((m + 1) * k) ((xs.drop m).flatMap enc)) (m * k) (enc s)).take ((n + 1) * k) = (xs.take m ++ s :: xs.drop m).flatMap enc := by
  have l1 : ((xs.drop m).flatMap enc).length = (n - m) * k := by rw [flatMap_len hk, List.length_drop, hn]
  have e1 : (m + 1) * k = m * k + (enc s).length := by rw [hk, Nat.succ_mul]
  have e2 : (n + 1) * k = (m + 1) * k + ((xs.drop m).flatMap enc).length := by rw [l1, ← Nat.add_mul]; congr 1; omega
  have q2 : m * k ≤ (n + 1) * k := Nat.mul_le_mul_right _ (by omega)
  have q3 : (m + 1) * k ≤ (n + 1) * k := Nat.mul_le_mul_right _ (by omega)
  have hL : (lay C ((m + 1) * k) ((xs.drop m).flatMap enc)).length = C.length := lay_length _ _ _
  rw [lay_eq (by rw [hL, ← e1]; omega), ← e1]
  have t1 : (lay C ((m + 1) * k) ((xs.drop m).flatMap enc)).take ((n + 1) * k) = C.take ((m + 1) * k) ++ (xs.drop m).flatMap enc := by rw [e2]; exact lay_take _ _ _ (by rw [← e2]; exact hC)
  have t2 : (lay C ((m + 1) * k) ((xs.drop m).flatMap enc)).take (m * k) = C.take (m * k) := by
    have := congrArg (List.take (m * k)) t1
    rw [List.take_take, Nat.min_eq_left q2, List.take_append_of_le_length (by rw [List.length_take]; omega), List.take_take, Nat.min_eq_left (by rw [e1]; omega)] at this
    exact this
  have hlen : (C.take (m * k) ++ enc s).length = (m + 1) * k := by rw [List.length_append, List.length_take, e1]; omega
  rw [t2, List.take_append, hlen, List.take_of_length_le (by rw [hlen]; exact q3)]
  have t3 : ((lay C ((m + 1) * k) ((xs.drop m).flatMap enc)).drop ((m + 1) * k)).take ((n + 1) * k - (m + 1) * k) = (xs.drop m).flatMap enc := by
    have := congrArg (List.drop ((m + 1) * k)) t1
    rw [List.drop_take, List.drop_left' (by rw [List.length_take]; omega)] at this
    exact this
  rw [t3, h1]
  simp
end Go.Proofs.YtagmkfbbhfaceaaGreatDoor
namespace Go.Proofs.YtagmkfbbhfaceaaGreatDoor
open Go Go.RowKit
section
variable {rd : Option Nat} {P : Program} {N : Nat} {ds : List Deferred} {Q : Exit → Act → World → Prop} {L L' : Slots} {w : World} {c : Code} {m : Nat}
/-- At a loop's head: at most m rounds more. -/
def WR (rd : Option Nat) (P : Program) (Q : Exit → Act → World → Prop) (N : Nat) (ds : List Deferred) (c : Code) (m : Nat) (L : Slots) (w : World) : Prop := ∀ a, Kn N ds L a → Code.roundsIn (rnd rd) 3 P c Q m a w
theorem c_rounds (m : Nat) (h : WR rd P Q N ds c m L w) : WC rd P Q N ds (.loop c) L w := ⟨fun a ha => wpIn_loop_rounds m (h a ha)⟩
theorem r_round (h : ∀ K : Act → World → Prop, (∀ L'' w'', WR rd P Q N ds c m L'' w'' → QK K N ds L'' w'') → WC rd P (Exit.then K Q) N ds c L w) : WR rd P Q N ds c (m + 1) L w :=
  fun a ha => h (Code.roundsIn (rnd rd) 3 P c Q m) (fun _ _ h2 => ⟨fun a' ha' => h2 a' ha'⟩) a ha
theorem WR.weak (L' : Slots) (hs : Sub L' L) (h : WR rd P Q N ds c m L' w) : WR rd P Q N ds c m L w := fun a ha => h a (ha.sub hs)
end
end Go.Proofs.YtagmkfbbhfaceaaGreatDoor
namespace Go.Proofs.YtagmkfbbhfaceaaGreatDoor
open Go Go.RowKit Go.Proofs.Tryz
set_option maxRecDepth 10000

theorem any_snoc {α : Type} [Inhabited α] {p : α → Bool} {xs : List α} {k : Nat} (hk : k < xs.length) (h : (xs.take k).any p = false) (hx : p (nth xs k) = false) : (xs.take (k + 1)).any p = false := by
  rw [take_nth hk, List.any_append, h]; simp [hx]
theorem any_hit {α : Type} [Inhabited α] {p : α → Bool} {xs : List α} {k : Nat} (hk : k < xs.length) (hx : p (nth xs k) = true) : decide ((0 : Int) ≤ (k : Int)) = xs.any p := by
  have : xs.any p = true := List.any_eq_true.2 ⟨nth xs k, nth_mem hk, hx⟩
  rw [this]; simp
theorem any_none {α : Type} {p : α → Bool} {xs : List α} {k : Nat} (hk : xs.length ≤ k) (h : (xs.take k).any p = false) : decide ((0 : Int) ≤ -1) = xs.any p := by
  rw [List.take_of_length_le hk] at h; rw [h]; decide
theorem not_any_out (lo hi : Int) (xs : List Int) : (!(xs.any fun n => decide (n < lo ∨ hi < n))) = decide (∀ n ∈ xs, lo ≤ n ∧ n ≤ hi) := by
  rw [Bool.eq_iff_iff]
  simp only [Bool.not_eq_true', List.any_eq_false, decide_eq_true_eq]
  exact ⟨fun h n hn => by have := h n hn; omega, fun h n hn => by have := h n hn; omega⟩
def encI (n : Int) : List Value := [.int .i64 n]
theorem SlI.own {w : World} {b : Nat} {t : TypeId} {xs : List Int} (h : Blk w b t (xs.map (Value.int .i64))) : Sl encI 1 w (some ⟨b, 0, none⟩) b 0 xs :=
  ⟨fun _ => rfl, fun _ => h.lt, fun i hi j v hv => by
    cases j with
    | zero =>
      rw [nth_eq hi] at hv
      simp [encI] at hv
      subst hv
      exact h.get (off := 0 + i * 1 + 0) (by simp [hi])
    | succ j => simp [encI] at hv⟩

theorem follows : Tryz.prog.follows .mixedOrders = true := by kernel_rfl

theorem own151 : Own Tryz.prog 151 := ⟨Tryz.f151, func151, by kernel_rfl, by kernel_rfl⟩
theorem own121 : Own Tryz.prog 121 := ⟨Tryz.f121, func121, by kernel_rfl, by kernel_rfl⟩
abbrev out1 (lo hi n : Int) : Bool := decide (n < lo ∨ hi < n)

theorem within1_c (lo hi n : Int) (b c : Nat) (t1 t2 : TypeId) (w0 : World) (hb : Blk w0 b t1 [.int .i64 lo]) (hc : Blk w0 c t2 [.int .i64 hi]) :
    CallsV Tryz.prog 151 [.int .i64 n, .pointer (some ⟨b, 0, none⟩), .pointer (some ⟨c, 0, none⟩)] w0 (fun v w' => v = .bool (out1 lo hi n) ∧ Ext w0 w') := by
 refine f_n func151 ?_
 refine go ?_
 refine t_splitp 8 rfl (fun g8 => ?_) (fun g8 => ?_)
 ·
  refine go ?_
  refine f_1 results151 ?_
  exact ⟨by simp [out1, *], u_d⟩
 refine go ?_
 refine f_1 results151 ?_
 exact ⟨by simp [out1, *], u_d⟩

theorem indexI_c (p : Int → Bool) (fv : FuncId) (caps : List Value) (xs : List Int) (ao : Option Addr) (b o cap : Nat) (w0 : World) (ho : Own Tryz.prog fv) (hp : ∀ x ∈ xs, ∀ w, Ext w0 w → CallsV Tryz.prog fv ([.int .i64 x] ++ caps) w fun v w' => v = .bool (p x) ∧ Ext w w') (hs : Sl encI 1 w0 ao b o xs) (hl : xs.length ≤ 1000000) :
    CallsV Tryz.prog 132 [.slice ao xs.length cap, .func (.func fv) #[] (caps).toArray] w0 (fun v w' => (∃ n : Int, v = .int .i64 n ∧ decide (0 ≤ n) = xs.any p) ∧ Ext w0 w') := by
 refine f_n func132 ?_
 refine go ?_
 refine x_l1 (fun _ => False) [0, 1, 7] (fun (k : Nat) => [(8, .int .i64 (k : Int))]) (fun k w => (k ≤ xs.length) ∧ ((xs.take k).any p = false)) (fun k => xs.length - k) 0 ⟨Nat.zero_le _, (by simp)⟩ ?_
 rintro k w5 ⟨hle, hnot⟩ u6 zu6 K4 hK4
 have E7 := Sc.mk ((Upd.refl (fun _ => False) w0).nx u6)
 refine go ?_
 refine q_p (fun g9 => ?_) fun g9 => ?_
 ·
  refine go ?_
  refine g_i k (hs.keep E7.u (fun _ h => h)) (fun _ => ?_)
  refine go ?_
  refine t_call (fs := []) (cs := caps) ho rfl rfl rfl rfl (hp (nth xs k) (nth_mem (by omega)) _ E7.u) (fun v14 w15 r17 => ?_)
  obtain ⟨rfl, u16⟩ := r17
  have zu16 := u16.size
  refine go ?_
  refine q_b (fun g16 => ?_) fun g16 => ?_
  ·
   refine go ?_
   refine f_1 results132 ?_
   exact ⟨⟨_, rfl, any_hit (by omega) g16⟩, u_d⟩
  refine go ?_
  exact hK4 (k + 1) ⟨(by omega), (any_snoc (by omega) hnot g16)⟩
 refine go ?_
 refine f_1 results132 ?_
 exact ⟨⟨_, rfl, any_none (by omega) hnot⟩, u_d⟩

theorem containsI_c (p : Int → Bool) (fv : FuncId) (caps : List Value) (xs : List Int) (ao : Option Addr) (b o cap : Nat) (w0 : World) (ho : Own Tryz.prog fv) (hp : ∀ x ∈ xs, ∀ w, Ext w0 w → CallsV Tryz.prog fv ([.int .i64 x] ++ caps) w fun v w' => v = .bool (p x) ∧ Ext w w') (hs : Sl encI 1 w0 ao b o xs) (hl : xs.length ≤ 1000000) :
    CallsV Tryz.prog 82 [.slice ao xs.length cap, .func (.func fv) #[] (caps).toArray] w0 (fun v w' => v = .bool (xs.any p) ∧ Ext w0 w') := by
 refine f_n func82 ?_
 refine go ?_
 refine x_c func132 rfl rfl (indexI_c p fv caps xs ao b o cap _ ho hp hs hl) ?_
 rintro _ w4 ⟨⟨n, rfl, hn⟩, u5⟩ zu5
 refine go ?_
 refine f_1 results82 ?_
 exact ⟨by rw [hn], u_d⟩

theorem within_c (lo hi : Int) (xs : List Int) (ao : Option Addr) (b o cap : Nat) (w0 : World) (hs : Sl encI 1 w0 ao b o xs) (hl : xs.length ≤ 1000000) :
    CallsV Tryz.prog 108 [.int .i64 lo, .int .i64 hi, .slice ao xs.length cap] w0 (fun v w' => v = .bool (decide (∀ n ∈ xs, lo ≤ n ∧ n ≤ hi)) ∧ Ext w0 w') := by
 refine f_n func108 ?_
 refine go ?_
 refine x_b fun bk2 w3 ebk2 sbk2 B4 u5 => ?_
 refine x_b fun bk7 w8 ebk7 sbk7 B9 u10 => ?_
 refine go ?_
 refine t_mkfunc (vs := []) (us := [.pointer (some ⟨bk2, 0, none⟩), .pointer (some ⟨bk7, 0, none⟩)]) rfl rfl rfl rfl ?_
 have B13 := (B4.kx u10)
 refine x_c func82 rfl rfl (containsI_c (out1 lo hi) 151 [.pointer (some ⟨bk2, 0, none⟩), .pointer (some ⟨bk7, 0, none⟩)] xs ao b o cap _ own151 (fun x _ w u => within1_c lo hi x bk2 bk7 _ _ w (B13.keep u (fun h => h)) (B9.keep u (fun h => h))) (hs.keep (((Upd.refl (fun _ => False) w0).nx u5).nx u10) (fun _ h => h)) hl) ?_
 rintro _ w15 ⟨rfl, u16⟩ zu16
 refine go ?_
 refine f_1 results108 ?_
 exact ⟨by rw [not_any_out], u_d⟩

theorem within1_v (lo hi m : Int) (b : Nat) (t : TypeId) (w : World) (h : Blk w b t [.int .i64 m]) :
    CallsV Tryz.prog 108 [.int .i64 lo, .int .i64 hi, .slice (some ⟨b, 0, none⟩) 1 1] w (fun v w' => v = .bool (decide ((lo ≤ m ∧ m ≤ hi))) ∧ Ext w w') :=
  (within_c lo hi [m] _ b 0 1 w (SlI.own (xs := [m]) h) (by simp)).mono fun v w' ⟨e, u⟩ => ⟨by rw [e]; simp, u⟩

end Go.Proofs.YtagmkfbbhfaceaaGreatDoor
namespace Go.Proofs.YtagmkfbbhfaceaaGreatDoor
open Go Go.RowKit Go.Proofs.Tryz
set_option maxRecDepth 10000

/-! ### digits and codes -/
def bitB (n i : Nat) : UInt8 := 48 + UInt8.ofNat (n / 2 ^ i % 2)
def putP (n : Nat) : Nat → List UInt8
  | 0 => []
  | k + 1 => bitB n k :: putP n k
def codeP (n : Nat) : List UInt8 := putP (n + 1) (2 * (n + 1).log2 + 1)
theorem putP_length (n k : Nat) : (putP n k).length = k := by
  induction k with
  | zero => rfl
  | succ k ih => simp [putP, ih]
theorem bitB_cases (n i : Nat) : (n / 2 ^ i % 2 = 0 ∧ bitB n i = 48) ∨ (n / 2 ^ i % 2 = 1 ∧ bitB n i = 49) := by
  unfold bitB
  rcases Nat.mod_two_eq_zero_or_one (n / 2 ^ i) with h | h <;> rw [h] <;> decide
theorem putP_bits (n k : Nat) : ∀ c ∈ putP n k, c = 48 ∨ c = 49 := by
  induction k with
  | zero => intro c h; cases h
  | succ k ih =>
    intro c h
    rcases List.mem_cons.1 h with rfl | h
    · rcases bitB_cases n k with h | h
      · exact .inl h.2
      · exact .inr h.2
    · exact ih c h
theorem bitB_val (n i : Nat) : (48 + ((n / 2 ^ i % 2 : Nat) : Int)) = ((bitB n i).toNat : Int) := by
  rcases bitB_cases n i with ⟨h, hb⟩ | ⟨h, hb⟩ <;> rw [h, hb] <;> rfl
theorem log2_le29 {n : Nat} (h : n ≤ 1000000000) : (n + 1).log2 ≤ 29 := by
  rcases Nat.lt_or_ge (n + 1).log2 30 with h1 | h1
  · omega
  · have h2 : 2 ^ (n + 1).log2 ≤ n + 1 := Nat.log2_self_le (by omega)
    have h3 : 2 ^ 30 ≤ 2 ^ (n + 1).log2 := Nat.pow_le_pow_right (by decide) h1
    have e : (2 : Nat) ^ 30 = 1073741824 := rfl
    omega
theorem codeP_length {n : Nat} : (codeP n).length = 2 * (n + 1).log2 + 1 := putP_length _ _
theorem codeP_len_le {n : Nat} (h : n ≤ 1000000000) : (codeP n).length ≤ 59 := by rw [codeP_length]; have := log2_le29 h; omega
/-- codes, one after another -/
def codesP (l : List Int) : List UInt8 := l.flatMap fun z => codeP z.toNat
theorem codesP_snoc (l : List Int) (z : Int) : codesP (l ++ [z]) = codesP l ++ codeP z.toNat := by unfold codesP; rw [List.flatMap_append]; simp
theorem codesP_len : ∀ {l : List Int}, (∀ z ∈ l, 0 ≤ z ∧ z ≤ 1000000000) → (codesP l).length ≤ 59 * l.length
  | [], _ => Nat.zero_le _
  | z :: l, h => by
    have h1 := codesP_len (l := l) (fun y hy => h y (List.mem_cons_of_mem _ hy))
    have h2 : (codeP z.toNat).length ≤ 59 := codeP_len_le (by have := h z List.mem_cons_self; omega)
    have e : codesP (z :: l) = codeP z.toNat ++ codesP l := rfl
    rw [e, List.length_append, List.length_cons]; omega
/-! ### the decoder, step by step -/
section
variable {z i : Nat} {lf n : Int} {c : UInt8} {r : List UInt8}
end
/-- What a decoder knows of its numbers. -/
def decB (z : Nat) (lf n : Int) : Prop := z ≤ 29 ∧ ((lf < 0 ∧ n = 0) ∨ (1 ≤ lf ∧ lf ≤ z ∧ 0 ≤ n ∧ ∃ k : Nat, (k : Int) = z + 1 - lf ∧ n < 2 ^ k))
theorem decB.zero : decB 0 (-1) 0 := ⟨by decide, .inl ⟨by decide, rfl⟩⟩
theorem decB.seen {z : Nat} {lf n : Int} (h : decB z lf n) (h1 : lf < 0) (h2 : (z : Int) + 1 ≠ 30) : decB (z + 1) lf n := by
  obtain ⟨hz, ⟨q1, q2⟩ | ⟨q1, _⟩⟩ := h
  · exact ⟨by omega, .inl ⟨q1, q2⟩⟩
  · omega
theorem decB.one {z : Nat} (h : z ≤ 29) (h3 : (z : Int) ≠ 0) : decB z z 1 := ⟨h, .inr ⟨by omega, by omega, by decide, 1, by omega, by decide⟩⟩
theorem decB.bit {z : Nat} {lf n b : Int} (h : decB z lf n) (h1 : 0 ≤ lf) (h2 : lf - 1 ≠ 0) (hb : 0 ≤ b ∧ b ≤ 1) : decB z (lf - 1) (2 * n + b) := by
  obtain ⟨hz, ⟨q1, q2⟩ | ⟨q1, q2, q3, k, hk, h4⟩⟩ := h
  · omega
  · refine ⟨hz, .inr ⟨by omega, by omega, by omega, k + 1, by omega, ?_⟩⟩
    rw [Int.pow_succ]; omega
/-! ### weighed sums -/
def wsum : Nat → List UInt8 → Int
  | _, [] => 0
  | i, b :: r => ((i : Int) + 1) * (b.toNat : Int) + wsum (i + 1) r
def weighP (l : List UInt8) (by_ : Int) : Int := wsum 0 l % by_
theorem wsum_snoc (b : UInt8) : ∀ (l : List UInt8) (i : Nat), wsum i (l ++ [b]) = wsum i l + ((i + l.length : Nat) + 1 : Int) * (b.toNat : Int)
  | [], i => by simp [wsum]
  | a :: l, i => by
    have := wsum_snoc b l (i + 1)
    simp only [List.cons_append, wsum, List.length_cons] at this ⊢
    rw [this, show (i + 1 + l.length : Nat) = i + (l.length + 1) by omega]; omega
theorem mul_bound {a b n : Int} (h1 : 0 ≤ a) (h2 : a ≤ n) (h3 : 0 ≤ b) (h4 : b ≤ 255) : 0 ≤ a * b ∧ a * b ≤ 255 * n := by
  refine ⟨Int.mul_nonneg h1 h3, ?_⟩
  have q1 : a * b ≤ a * 255 := Int.mul_le_mul_of_nonneg_left h4 h1
  omega
theorem wsum_bound : ∀ (l : List UInt8) (i N : Nat), i + l.length ≤ N → 0 ≤ wsum i l ∧ wsum i l ≤ 255 * (N : Int) * (l.length : Int)
  | [], _, N, _ => by simp [wsum]
  | b :: l, i, N, h => by
    simp only [List.length_cons] at h
    have h1 := wsum_bound l (i + 1) N (by omega)
    have hb := b.toNat_lt
    have h2 := mul_bound (a := (i : Int) + 1) (b := (b.toNat : Int)) (n := (N : Int)) (by omega) (by omega) (by omega) (by omega)
    have e : 255 * (N : Int) * ((l.length + 1 : Nat) : Int) = 255 * (N : Int) * (l.length : Int) + 255 * (N : Int) := by
      rw [show ((l.length + 1 : Nat) : Int) = (l.length : Int) + 1 by omega, Int.mul_add, Int.mul_one]
    simp only [wsum, List.length_cons]
    rw [e]; omega
theorem wsum_take {l : List UInt8} {N : Nat} (h : l.length ≤ N) (k : Nat) : 0 ≤ wsum 0 (l.take k) ∧ wsum 0 (l.take k) ≤ 255 * (N : Int) * (N : Int) := by
  have h1 := wsum_bound (l.take k) 0 N (by rw [List.length_take]; omega)
  have h2 : 255 * (N : Int) * ((l.take k).length : Int) ≤ 255 * (N : Int) * (N : Int) := Int.mul_le_mul_of_nonneg_left (by rw [List.length_take]; omega) (by omega)
  omega

theorem put_c (n k : Nat) (bt base : Nat) (ao : Option Addr) (gb cp : Nat) (xs : List UInt8) (w0 : World) (hb : Blk w0 bt 118 [.slice ao xs.length cp]) (ha : Acc encY 1 5 base w0 ao gb cp xs) (hbs : base ≤ w0.heap.size) (hne : base ≤ gb → gb ≠ bt) (hn : n < 18446744073709551616) (hk : k ≤ 64) (hx : xs.length + k ≤ 1000000) :
    CallsV Tryz.prog 72 [.pointer (some ⟨bt, 0, none⟩), .int .u64 (n : Int), .int .i64 (k : Int)] w0 (fun v w' => (∃ a9 g9 c9, Blk w' bt 118 [.slice a9 (List.length (xs ++ putP n k)) c9] ∧ Acc encY 1 5 base w' a9 g9 c9 (xs ++ putP n k) ∧ (g9 = gb ∨ w0.heap.size ≤ g9)) ∧ Upd (fun i => i = bt ∨ (i = gb ∧ base ≤ i)) w0 w') := by
 have lt_gb := ha.lt
 have lt_bt := hb.lt
 refine f_n func72 ?_
 refine go ?_
 refine x_l5 (fun i => i = bt ∨ (i = gb ∧ base ≤ i)) [0, 1] (fun (m : Nat) (a1 : Option Addr) (g1 : Nat) (c1 : Nat) (cur : List UInt8) => [(6, .int .i64 ((m : Int) - 1))]) (fun m a1 g1 c1 cur w => Blk w bt 118 [.slice a1 cur.length c1] ∧ (m ≤ k) ∧ (Acc encY 1 5 base w a1 g1 c1 cur) ∧ (cur ++ putP n m = xs ++ putP n k) ∧ ((g1 = gb ∨ w0.heap.size ≤ g1))) (fun m a1 g1 c1 cur => m) k ao gb cp xs ⟨hb, (Nat.le_refl _), ha, rfl, (.inl rfl)⟩ ?_
 rintro m a1 g1 c1 cur w3 ⟨I5, hmk, hA, heq, hg1⟩ u4 zu4 K2 hK2
 have lt_g1 := hA.lt
 have hcl : cur.length + m = xs.length + k := by have := congrArg List.length heq; simpa only [List.length_append, putP_length] using this
 refine go ?_
 refine q_p (fun g10 => ?_) fun g10 => ?_
 ·
  obtain ⟨q, rfl⟩ : ∃ q, m = q + 1 := ⟨m - 1, by omega⟩
  refine c_same 6 (v := .int .i64 (q : Int)) rfl (congrArg (Value.int .i64) (by omega)) ?_
  refine go ?_
  refine t_conv underlying3 underlying175 rfl rfl rfl (IntWalk.u64_in _ (by omega)) (t_bo (Bo.shr q rfl (by show q < 64; omega)) rfl rfl rfl rfl (t_bo (Bo.and1 (Nat.lt_of_le_of_lt (Nat.div_le_self _ _) hn)) rfl rfl rfl rfl (t_conv underlying175 underlying5 rfl rfl rfl (IntWalk.u8_in _ (by omega)) (t_bo (Bo.ari8 rfl (by omega)) rfl rfl rfl rfl (t_same 23 (v := .int .u8 ((bitB n q).toNat : Int)) rfl (congrArg (Value.int .u8) (bitB_val n q)) ?_)))))
  refine x_l fun bk10 w11 ebk10 sbk10 B12 u13 => ?_
  have D15 := (hA.keep u13 (fun _ h => h))
  refine t_append (z := .int .u8 0) (bytes := 1) (k := 1) (base := base) (bitB n q) underlying118 (by kernel_rfl) rfl (by decide) (fun _ => rfl) (by intro x; simp [encY, Value.oneCell']) rfl rfl rfl rfl D15 B12 (by omega) (by omega) (by decide) (fun ao16 gb17 cp18 w19 A20 u21 gegb17 lngb17 => ?_)
  have zu21 := u21.size
  have lt_gb17 := A20.lt
  refine go ?_
  refine x_s fun w23 sw23 B25 u24 => ?_
  refine go ?_
  have D27 := (A20.keep u24 (fun hb => show ¬ (gb17 = bt) by first | omega | assumption))
  exact hK2 q ao16 gb17 cp18 (cur ++ [(bitB n q)]) ⟨B25, (by omega), D27, (by rw [List.append_assoc]; exact heq), (by omega)⟩
 refine go ?_
 refine f_ret0 results72 ?_
 have hm0 : m = 0 := by omega
 subst hm0
 have hcur : cur = xs ++ putP n k := by rw [← heq]; exact (List.append_nil _).symm
 subst hcur
 exact ⟨⟨a1, g1, c1, I5, hA, hg1⟩, u_d⟩

end Go.Proofs.YtagmkfbbhfaceaaGreatDoor
namespace Go.Proofs
open Go.Shelf
def YtagmkfbbhfaceaaGreatDoor.layLen_ren : Go.Shelf.Ren := ⟨fun | 125 => 121 | 128 => 172 | 129 => 173 | n => n, fun | 46 => 175 | 3 => 3 | 51 => 94 | 53 => 225 | 4 => 4 | 5 => 5 | 9 => 9 | n => n, fun | n => n⟩
theorem YtagmkfbbhfaceaaGreatDoor.layLen : Go.Proofs.Lays.n125 Tryz.prog YtagmkfbbhfaceaaGreatDoor.layLen_ren := {
  mixed := by kernel_rfl
  f125 := Tryz.func121.trans (congrArg some (by kernel_rfl))
  f128 := Tryz.func172.trans (congrArg some (by kernel_rfl))
  f129 := Tryz.func173.trans (congrArg some (by kernel_rfl))
  t3 := Tryz.underlying3
  a3 := Tryz.isAgg3
  z3 := Tryz.sizeOf3
  v3 := Tryz.zeroValue3
  t4 := Tryz.underlying4
  a4 := Tryz.isAgg4
  z4 := Tryz.sizeOf4
  v4 := Tryz.zeroValue4
  t5 := Tryz.underlying5
  a5 := Tryz.isAgg5
  z5 := Tryz.sizeOf5
  v5 := Tryz.zeroValue5
  t9 := Tryz.underlying9
  a9 := Tryz.isAgg9
  z9 := Tryz.sizeOf9
  v9 := Tryz.zeroValue9
  t46 := Tryz.underlying175
  a46 := Tryz.isAgg175
  z46 := Tryz.sizeOf175
  v46 := Tryz.zeroValue175
  t51 := Tryz.underlying94
  a51 := Tryz.isAgg94
  z51 := Tryz.sizeOf94
  v51 := Tryz.zeroValue94
  t53 := Tryz.underlying225
  a53 := Tryz.isAgg225
  z53 := Tryz.sizeOf225
  v53 := Tryz.zeroValue225 }
end Go.Proofs
namespace Go.Proofs.YtagmkfbbhfaceaaGreatDoor
open Go Go.RowKit Go.Proofs.Tryz
set_option maxRecDepth 10000
theorem bitLen_log2 {m : Nat} (h0 : m ≠ 0) (h : m < 2 ^ 64) : Lib.bitLen m = m.log2 + 1 := by
  obtain ⟨h1, h2, h3⟩ := Lib.bitLenAux_bounds 64 m h h0
  have e : m.log2 = Lib.bitLenAux 64 m - 1 := (Nat.log2_eq_iff h0).2 ⟨h2, by rw [Nat.sub_add_cancel h1]; exact h3⟩
  show Lib.bitLenAux 64 m = _
  omega
theorem len_c (m : Nat) (h0 : m ≠ 0) (h : m < 2 ^ 64) (w0 : World) : CallsV Tryz.prog 121 [.int .u64 (m : Int)] w0 fun v w' => v = .int .i64 ((m.log2 + 1 : Nat) : Int) ∧ Ext w0 w' := by
  refine Calls.mono (Any.bits_Len layLen (m : Int) w0 (by omega) (by omega)) ?_
  rintro e w' ⟨rfl, rfl⟩
  exact ⟨_, rfl, by rw [Int.toNat_natCast, bitLen_log2 h0 h], Upd.refl _ _⟩

set_option maxHeartbeats 4000000 in
theorem code_c (zs : List Int) (al : Option Addr) (bl ol cl : Nat) (bt base : Nat) (ao : Option Addr) (gb cp : Nat) (xs : List UInt8) (w0 : World) (hb : Blk w0 bt 118 [.slice ao xs.length cp]) (ha : Acc encY 1 5 base w0 ao gb cp xs) (hbs : base ≤ w0.heap.size) (hne : base ≤ gb → gb ≠ bt) (hl : Sl encI 1 w0 al bl ol zs) (hnl : bl ≠ bt ∧ (base ≤ gb → bl ≠ gb)) (hz1 : ∀ z ∈ zs, 0 ≤ z ∧ z ≤ 1000000000) (hx : xs.length + 59 * zs.length ≤ 1000000) :
    CallsV Tryz.prog 71 [.pointer (some ⟨bt, 0, none⟩), .slice al zs.length cl] w0 (fun v w' => (∃ a9 g9 c9, Blk w' bt 118 [.slice a9 (List.length (xs ++ codesP zs)) c9] ∧ Acc encY 1 5 base w' a9 g9 c9 (xs ++ codesP zs) ∧ (g9 = gb ∨ w0.heap.size ≤ g9)) ∧ Upd (fun i => i = bt ∨ (i = gb ∧ base ≤ i)) w0 w') := by
 have lt_gb := ha.lt
 have lt_bt := hb.lt
 obtain ⟨hnl1, hnl2⟩ := hnl
 refine f_n func71 ?_
 refine go ?_
 refine x_l5 (fun i => i = bt ∨ (i = gb ∧ base ≤ i)) [0, 7, 8] (fun (k : Nat) (a1 : Option Addr) (g1 : Nat) (c1 : Nat) (cur : List UInt8) => [(9, .int .i64 (k : Int))]) (fun k a1 g1 c1 cur w => Blk w bt 118 [.slice a1 cur.length c1] ∧ (k ≤ zs.length) ∧ (Acc encY 1 5 base w a1 g1 c1 cur) ∧ (cur = xs ++ codesP (zs.take k)) ∧ ((g1 = gb ∨ w0.heap.size ≤ g1))) (fun k a1 g1 c1 cur => zs.length - k) 0 ao gb cp xs ⟨hb, (Nat.zero_le _), ha, (List.append_nil _).symm, (.inl rfl)⟩ ?_
 rintro k a1 g1 c1 cur w3 ⟨I5, hk, hA, hcu, hg1⟩ u4 zu4 K2 hK2
 have lt_g1 := hA.lt
 have hcl : cur.length = xs.length + (codesP (zs.take k)).length := by rw [hcu, List.length_append]
 have hcl2 : (codesP (zs.take k)).length ≤ 59 * k := by have := codesP_len (l := zs.take k) (fun z hz => hz1 z (List.mem_of_mem_take hz)); rw [List.length_take, Nat.min_eq_left hk] at this; exact this
 refine go ?_
 refine q_p (fun g10 => ?_) fun g10 => ?_
 ·
  have hz2 := hz1 (nth zs k) (nth_mem (by omega))
  have hlg := log2_le29 (n := (nth zs k).toNat) (by omega)
  refine go ?_
  have D11 := (hl.keep u4 (fun _ => show ¬ (bl = bt ∨ (bl = gb ∧ base ≤ bl)) by omega))
  refine g_i k D11 (fun _ => ?_)
  refine go ?_
  refine t_conv underlying3 underlying175 rfl rfl rfl (IntWalk.u64_in _ (by omega)) (t_ariW rfl rfl rfl rfl rfl (by omega) (t_same 15 (v := .int .u64 (((nth zs k).toNat + 1 : Nat) : Int)) rfl (congrArg (Value.int .u64) (by omega)) ?_))
  refine go ?_
  refine x_c func121 rfl rfl (len_c ((nth zs k).toNat + 1) (by omega) (by omega) _) ?_
  rintro _ w15 ⟨rfl, u16⟩ zu16
  iterate 2 refine st1 ?_
  refine t_same 21 (v := .int .i64 ((2 * ((nth zs k).toNat + 1).log2 + 1 : Nat) : Int)) rfl (congrArg (Value.int .i64) (by omega)) ?_
  have D20 := (hA.keep u16 (fun _ h => h))
  have B21 := (I5.kx u16)
  refine x_c func72 rfl rfl (put_c ((nth zs k).toNat + 1) (2 * ((nth zs k).toNat + 1).log2 + 1) bt base a1 g1 c1 cur _ B21 D20 (by omega) (by omega) (by omega) (by omega) (by have := codeP_length (n := (nth zs k).toNat); omega)) ?_
  rintro v22 w23 ⟨⟨at19, gt19, ct19, hBt19, hAt19, hGt19⟩, u24⟩ zu24
  have lt_gt19 := hAt19.lt
  refine go ?_
  exact hK2 (k + 1) at19 gt19 ct19 (cur ++ putP ((nth zs k).toNat + 1) (2 * ((nth zs k).toNat + 1).log2 + 1)) ⟨hBt19, (by omega), hAt19, (by rw [take_nth (by omega), codesP_snoc, ← List.append_assoc, ← hcu]; rfl), (by omega)⟩
 refine go ?_
 refine f_ret0 results71 ?_
 have hkz : k = zs.length := by omega
 subst hkz
 rw [List.take_length] at hcu
 subst hcu
 exact ⟨⟨a1, g1, c1, I5, hA, hg1⟩, u_d⟩


end Go.Proofs.YtagmkfbbhfaceaaGreatDoor
