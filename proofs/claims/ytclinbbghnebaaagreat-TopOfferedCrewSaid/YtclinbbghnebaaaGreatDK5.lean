/-
  Part 5 of the proof: contracts and plain laws. Conditions: none.
-/
import Derived.Lib.AppendZerosOnto
import Derived.Lib.Overlaps
import Derived.Laws.Externs
import Derived.Lib.SliceRun
import Derived.LoopNIn
import Derived.Test.YtclinbbghnebaaaGreatProg
import Derived.Shelf.SlSortCmp.WholeK
import Derived.Shelf.SlSortCmp.NoneTotal
import Derived.Test.YtclinbbghnebaaaGreatDK4
namespace Go.Proofs.YtclinbbghnebaaaGreat
open Go Go.RowKit

section
variable {P : Program} {ops : Array Oper} {Q : Exit → Act → World → Prop} {N : Nat} {ds : List Deferred} {rest : List Oper} {L : Slots} {w : World} {rd : Option Nat} {d : Nat} {ty : TypeId} {pos : String} {aft : Array Edge} {g : Option (Nat × Bool)}

theorem t_cap {t e : TypeId} {x : Operand} {ao : Option Addr} {n c : Nat} {ats : Array TypeId} (hu : P.underlying t = some (.slice e)) (ht : ats[0]? = some t) (hg : grd ops L g = true) (hN : Nat.blt d N = true)
    (hx : ev L x = some (.slice ao n c)) (h : WL rd P ops Q N ds rest ((d, .int .i64 (c : Int)) :: L) w) :
    WL rd P ops Q N ds (⟨some d, .call ⟨.builtin .cap, #[x], ats⟩, ty, pos, aft, g⟩ :: rest) L w :=
  WL.value hg rfl hN (fun a hk => by
    simp [execOp, resolve, invoke, builtin, Builtin.cap_, run_underlying hu, ht, hk.ev hx, goInt]) h

/-- A slice compared with nil. -/
theorem t_nilS {xt yt e : TypeId} {x y : Operand} {ao : Option Addr} {n c n' c' : Nat} (hu : P.underlying xt = some (.slice e)) (hg : grd ops L g = true) (hN : Nat.blt d N = true)
    (hx : ev L x = some (.slice ao n c)) (hy : ev L y = some (.slice none n' c')) (h : WL rd P ops Q N ds rest ((d, .bool ao.isNone) :: L) w) :
    WL rd P ops Q N ds (⟨some d, .binOp .eql xt x y yt, ty, pos, aft, g⟩ :: rest) L w :=
  WL.value hg rfl hN (fun a hk => by
    have := Lib.run_eql_slice_nil (P := P) w xt e ao n c n' c' hu
    simp [execOp, hk.ev hx, hk.ev hy, eqGuard, this]) h

/-- copy(dst, src) into a block of the call's own: all is read before anything is written. -/
theorem t_copyB {dT sT e : TypeId} {k : Nat} {x y : Operand} {b o dLen dCap sb so sLen sCap : Nat} {vs cs : List Value} {t : TypeId}
    (hu : P.underlying dT = some (.slice e)) (hs : ∀ w, (sizeOf e).run P w = .ok k w) (hg : grd ops L g = true) (hN : Nat.blt d N = true)
    (hx : ev L x = some (.slice (some ⟨b, o, none⟩) dLen dCap)) (hy : ev L y = some (.slice (some ⟨sb, so, none⟩) sLen sCap))
    (hB : Blk w b t cs) (ha : At w sb so vs) (hn : vs.length = min sLen dLen * k) (hf : o + vs.length ≤ cs.length) (h1 : ∀ v ∈ vs, v.oneCell' = true)
    (h : ∀ w', w'.heap.size = w.heap.size → Blk w' b t (lay cs o vs) → Upd (· = b) w w' → WL rd P ops Q N ds rest ((d, .int .i64 ((min sLen dLen : Nat) : Int)) :: L) w') :
    WL rd P ops Q N ds (⟨some d, .call ⟨.builtin .copy, #[x, y], #[dT, sT]⟩, ty, pos, aft, g⟩ :: rest) L w := by
  obtain ⟨w', hr, hb', hu', hz'⟩ := run_storeCells (P := P) vs w cs o 0 hB (by omega) h1
  have hl : (loadCells ⟨sb, so, none⟩ (Nat.min sLen dLen * k)).run P w = .ok vs.toArray w := by
    have := run_loadCellsFrom (P := P) (w := w) (b := sb) (off := so) (Nat.min sLen dLen * k) 0 vs #[] (show vs.length = Nat.min sLen dLen * k from hn) (by simpa using ha)
    simpa [loadCells] using this
  refine WL.value hg rfl hN (fun a hk => ?_) (h w' hz' (by simpa using hb') hu')
  have hr2 : (Builtin.copy_ #[dT, sT] ty #[.slice (some ⟨b, o, none⟩) dLen dCap, .slice (some ⟨sb, so, none⟩) sLen sCap]).run P w = .ok (goInt (Nat.min sLen dLen)) w' := by
    simp [Builtin.copy_, run_underlying hu, Builtin.lenOf, Builtin.firstCells, hs, hl, hr]
  simp only [execOp, resolve, invoke, builtin]
  rw [show ((min sLen dLen : Nat) : Int) = ((Nat.min sLen dLen : Nat) : Int) from rfl]
  simp [hk.ev hx, hk.ev hy, hr2, goInt]

theorem append_two {t t2 e e2 : TypeId} (hu : P.underlying t = some (.slice e)) (hu2 : P.underlying t2 = some (.slice e2)) (ty : TypeId) (a b : Value) (w : World) : (Builtin.append_ #[t, t2] ty #[a, b]).run P w = (Builtin.append_ #[t, t] ty #[a, b]).run P w := by
  cases a <;> simp [Builtin.append_, run_underlying hu, run_underlying hu2]
/-- append where the second argument's type has another name. -/
theorem t_append2 {α : Type} {enc : α → List Value} {k : Nat} {t t2 e e2 : TypeId} {z : Value} {bytes base : Nat} {s x : Operand} {ao : Option Addr} {gb cap b c : Nat} {xs : List α} (y : α)
    (hu : P.underlying t = some (.slice e)) (hu2 : P.underlying t2 = some (.slice e2)) (hi : (P.info? e).map (fun i => (i.zero, i.size, i.bytes)) = some (some z, k, bytes)) (hz : z.cells.size = k) (hk0 : 0 < k) (hk : ∀ x, (enc x).length = k) (h1 : ∀ x, ∀ u ∈ enc x, u.oneCell' = true)
    (hg : grd ops L g = true) (hN : Nat.blt d N = true) (hs : ev L s = some (.slice ao xs.length cap)) (hx : ev L x = some (.slice (some ⟨b, 0, none⟩) 1 c))
    (ha : Acc enc k e base w ao gb cap xs) (hb : Blk w b e (enc y)) (hbase : base ≤ w.heap.size) (hlen : xs.length ≤ 1000000) (hbytes : bytes ≤ 1000)
    (h : ∀ ao' g' cap' w', Acc enc k e base w' ao' g' cap' (xs ++ [y]) → Upd (fun i => i = gb ∧ base ≤ i) w w' → (g' = gb ∨ w.heap.size ≤ g') → (xs ++ [y]).length = xs.length + 1 → WL rd P ops Q N ds rest ((d, .slice ao' (xs ++ [y]).length cap') :: L) w') :
    WL rd P ops Q N ds (⟨some d, .call ⟨.builtin .append, #[s, x], #[t, t2]⟩, ty, pos, aft, g⟩ :: rest) L w := by
  obtain ⟨i, hi0, hi1, hi2, hi3⟩ := info_parts' hi
  obtain ⟨gg, cc, w', hr, hown, hgrow, hgeq⟩ := run_append_lies (P := P) (w := w) t ty base e i z k bytes hu hi0 hi1 hi2 hi3 hz hk0 (.slice ao xs.length cap) xs.length (xs.flatMap enc) (ha.owns hk)
    ⟨b, 0, none⟩ 1 c (enc y) (by rw [hk, Nat.one_mul]) (fun j u hj => by rw [addr_add, Nat.zero_add]; exact hb.get hj) (h1 y) (by decide) (by unfold maxLen; omega) (by
      have : (xs.length + 1) * bytes ≤ 1000001 * 1000 := Nat.mul_le_mul (by omega) hbytes
      omega) hbase _ rfl
  have hlen' : (xs ++ [y]).length = xs.length + 1 := by simp
  have hacc : Acc enc k e base w' (some ⟨gg, 0, none⟩) gg cc (xs ++ [y]) := by
    obtain ⟨hl, hown⟩ := hown
    rcases hown with ⟨h0, _⟩ | ⟨g2, cap2, cur, he, hbg, hh, hc1, hc2, hc3, hc4⟩
    · cases h0
    · cases he
      refine ⟨?_, .inr ⟨rfl, hbg, cur, hh, by rw [hlen']; exact hc1, hc2, hc3, ?_⟩⟩
      · rcases Nat.lt_or_ge gg w'.heap.size with h | h
        · exact h
        · rw [Array.getElem?_eq_none h] at hh; cases hh
      · rw [hlen']; simpa using hc4
  have hupd : Upd (fun i => i = gb ∧ base ≤ i) w w' := ⟨hgrow.os, hgrow.tape, hgrow.output, hgrow.size, fun q hq hn => hgrow.block q hq (fun he => by
    rcases ha.at_ with ⟨h1, _, _, _⟩ | ⟨h1, h2, _⟩
    · subst h1; cases he
    · subst h1; simp [Value.ownBlock] at he; exact hn ⟨he, by omega⟩)⟩
  have hge : gg = gb ∨ w.heap.size ≤ gg := by
    rcases hgeq with h | h
    · left
      rcases ha.at_ with ⟨h1, _, _, _⟩ | ⟨h1, h2, _⟩
      · subst h1; simp [Value.ownBlock] at h
      · subst h1; simp [Value.ownBlock] at h; omega
    · right; omega
  have := h _ _ _ w' hacc hupd hge hlen'
  refine WL.value hg rfl hN (fun a hk' => ?_) this
  simp only [execOp, resolve, invoke, builtin]
  simp [hk'.ev hs, hk'.ev hx, append_two hu hu2, hr]

/-- append(s[:i], make(S, m)...) where there is no room: a new row. -/
theorem t_appZ {t tn e : TypeId} {z : Value} {bytes k i m n c : Nat} {s x : Operand} {b off : Nat} {cs : List Value} {mv : Int}
    (hu : P.underlying t = some (.slice e)) (hun : P.underlying tn = some (.int .i64)) (hi : (P.info? e).map (fun i => (i.zero, i.size, i.bytes)) = some (some z, k, bytes)) (hz : z.cells.size = k) (hk0 : 0 < k)
    (hg : grd ops L g = true) (hN : Nat.blt d N = true) (hs : ev L s = some (.slice (some ⟨b, off, none⟩) i c)) (hx : ev L x = some (.int .i64 mv)) (hm : mv = (m : Int)) (hn : i + m = n) (hm0 : 0 < m) (hc : c < n)
    (hcs : cs.length = i * k) (ha : At w b off cs) (hsm : n ≤ 1000000) (hby : bytes ≤ 1000)
    (h : ∀ cap' w' zs, n ≤ cap' → cap' ≤ maxLen → List.length zs = (cap' - i) * k → Blk w' w.heap.size e (cs ++ zs) → Ext w w' → WL rd P ops Q N ds rest ((d, .slice (some ⟨w.heap.size, 0, none⟩) n cap') :: L) w') :
    WL rd P ops Q N ds (⟨some d, .call ⟨.builtin .append, #[s, x], #[t, tn]⟩, ty, pos, aft, g⟩ :: rest) L w := by
  subst hm hn
  obtain ⟨i0, hi0, hi1, hi2, hi3⟩ := info_parts' hi
  have hold : (Builtin.firstCells i0.size i (.slice (some ⟨b, off, none⟩) i c)).run P w.drew = .ok cs.toArray w.drew := by
    rw [hi2]
    exact run_firstCells_some (w := w.drew) k i ⟨b, off, none⟩ i c cs hcs (fun j v hj => by rw [addr_add]; exact ha j v hj)
  have hb1 : (i + m) * bytes ≤ 1000000 * 1000 := Nat.mul_le_mul hsm hby
  have hb2 : m * bytes ≤ 1000000 * 1000 := Nat.mul_le_mul (by omega) hby
  have hr := Lib.run_append_grow_zeros (P := P) w t tn ty e i0 z .i64 .i64 hu hun hi0 hi1 (some ⟨b, off, none⟩) i c cs hold m hm0 (by omega) hc (by omega) (by rw [hi3]; omega) (by rw [hi3]; exact growslice_fits hc (by omega))
  have hge := grownCap_ge w (i + m) c e
  have hle := grownCap_le_maxLen w (i + m) c e (by unfold maxLen; omega)
  generalize grownCap w (i + m) c e = G at hr hge hle
  have hzl : ∀ q, (Builtin.zeroCells z.cells q).size = q * k := fun q => by simp [Builtin.zeroCells, hz]
  have hB : Blk (w.drew.alloc (.cells (cs.toArray ++ Builtin.zeroCells z.cells m ++ Builtin.zeroCells z.cells (G - (i + m))) e)) w.heap.size e (cs ++ ((Builtin.zeroCells z.cells m).toList ++ (Builtin.zeroCells z.cells (G - (i + m))).toList)) := by
    have := Blk.new w.drew e (cs ++ ((Builtin.zeroCells z.cells m).toList ++ (Builtin.zeroCells z.cells (G - (i + m))).toList))
    have e2 : (cs ++ ((Builtin.zeroCells z.cells m).toList ++ (Builtin.zeroCells z.cells (G - (i + m))).toList)).toArray = cs.toArray ++ Builtin.zeroCells z.cells m ++ Builtin.zeroCells z.cells (G - (i + m)) := by
      apply Array.toList_inj.1; simp
    rw [e2] at this
    exact this
  refine WL.value hg rfl hN (fun a hk => ?_) (h G _ _ hge hle ?_ hB ((Upd.drew w).trans (Upd.alloc _ _)))
  · simp only [execOp, resolve, invoke, builtin]
    simp [hk.ev hs, hk.ev hx, hr]
  · simp only [List.length_append, Array.length_toList, hzl]
    rw [← Nat.add_mul]
    congr 1; omega

/-- slices.overlaps of two rows in two blocks of cells: no. -/
theorem t_apart {f : Operand} {k : FuncId} {fn : Func} {x y : Operand} {ats : Array TypeId} {tS tR e tA tB : TypeId} {a b oa ob la ca lb cb : Nat} {cA cB : List Value} {n : Nat}
    (hfn : P.funcs[k]? = some fn) (hname : (fn.name == "runtime.NumGoroutine") = false) (hb : fn.body.isNone = true) (hnx : Extern.findNext fn = none) (he : Extern.find fn = some (Extern.SlicesOverlaps.overlaps #[tS, tS] #[tR]))
    (hu : P.underlying tS = some (.slice e)) (hz : ∀ w, (sizeOf e).run P w = .ok n w) (hg : grd ops L g = true) (hN : Nat.blt d N = true) (hf : ev L f = some (.func (.func k) #[] #[]))
    (hx : ev L x = some (.slice (some ⟨a, oa, none⟩) la ca)) (hy : ev L y = some (.slice (some ⟨b, ob, none⟩) lb cb)) (hA : Blk w a tA cA) (hB : Blk w b tB cB) (hne : a ≠ b) (hl : 0 < cB.length)
    (h : WL rd P ops Q N ds rest ((d, .bool false) :: L) w) : WL rd P ops Q N ds (⟨some d, .call ⟨.value f, #[x, y], ats⟩, ty, pos, aft, g⟩ :: rest) L w := by
  refine WL.value hg rfl hN (fun ac hk => ?_) h
  have hsa : w.shape? a = some (tA, cA.length) := by unfold Blk at hA; simp [World.shape?, hA]
  have hsb : w.shape? b = some (tB, cB.length) := by unfold Blk at hB; simp [World.shape?, hB]
  have hr := Lib.run_overlaps_apart (P := P) w tS tR e hu n hz ⟨a, oa, none⟩ ⟨b, ob, none⟩ la ca lb cb hne tA tB cA.length cB.length hsa hsb (by omega) hA.free hA.free
  have hr2 := run_callFunc_extern hfn hname hb hnx he #[.slice (some ⟨a, oa, none⟩) la ca, .slice (some ⟨b, ob, none⟩) lb cb] w
  rw [hr] at hr2
  simp only [execOp, resolve, invoke]
  simp [hk.ev hf, hk.ev hx, hk.ev hy, Deferred.ofValue, hr2, Result.andThen]
end

theorem subAddr_some {b o cap l k : Nat} (h : l < cap) : subAddr (some ⟨b, o, none⟩) cap l k = some ⟨b, o + l * k, none⟩ := by
  unfold subAddr
  rw [if_neg (by omega)]
  exact congrArg some (addr_add b o (l * k))
theorem Acc.lower {α : Type} {enc : α → List Value} {k : Nat} {e : TypeId} {base base' : Nat} {w : World} {ao : Option Addr} {g cap : Nat} {xs : List α} (h : Acc enc k e base w ao g cap xs) (hb : base' ≤ base) (h0 : 0 < base') : ∃ g', Acc enc k e base' w ao g' cap xs := by
  rcases h.at_ with ⟨h1, h2, h3, h4⟩ | ⟨h1, h2, h3⟩
  · exact ⟨0, Nat.lt_of_le_of_lt (Nat.zero_le _) h.lt, .inl ⟨h1, h2, h3, h0⟩⟩
  · exact ⟨g, h.lt, .inr ⟨h1, by omega, h3⟩⟩
/-- The cells of the elements from a place on. -/
theorem Sl.cellsFrom {α : Type} [Inhabited α] {enc : α → List Value} {k : Nat} (hk0 : 0 < k) (hk : ∀ x, (enc x).length = k) {w : World} {ao : Option Addr} {b o : Nat} {xs : List α} (h : Sl enc k w ao b o xs) (l m : Nat) : At w b (o + l * k) (((xs.drop l).take m).flatMap enc) := fun j v hj => by
  have := sl_cells hk0 hk (h.sub xs.length l m (Nat.le_refl _)) j v hj
  rwa [addr_add] at this
/-- A gathered slice that has elements: the raw cells of its block. -/
theorem Acc.raw {α : Type} {enc : α → List Value} {k : Nat} {e : TypeId} {base : Nat} {w : World} {ao : Option Addr} {g cap : Nat} {xs : List α} (h : Acc enc k e base w ao g cap xs) (hp : 0 < cap ∨ 0 < xs.length) :
    ao = some ⟨g, 0, none⟩ ∧ base ≤ g ∧ xs.length ≤ cap ∧ cap ≤ maxLen ∧ ∃ cs, Blk w g e cs ∧ cs.length = cap * k ∧ cs.take (xs.length * k) = xs.flatMap enc := by
  rcases h.at_ with ⟨_, h1, h2, _⟩ | ⟨h1, h2, cur, h3, h4, h5, h6, h7⟩
  · subst h1 h2; rcases hp with hp | hp <;> exact absurd hp (by simp)
  · exact ⟨h1, h2, h4, h5, cur.toList, by unfold Blk; simpa using h3, by simpa using h6, h7⟩
theorem Acc.ofRaw {α : Type} {enc : α → List Value} {k : Nat} {e : TypeId} {base : Nat} {w : World} {g cap : Nat} {xs : List α} {cs : List Value} (hB : Blk w g e cs) (hb : base ≤ g) (hc : xs.length ≤ cap) (hm : cap ≤ maxLen) (hl : cs.length = cap * k) (ht : cs.take (xs.length * k) = xs.flatMap enc) : Acc enc k e base w (some ⟨g, 0, none⟩) g cap xs :=
  ⟨hB.lt, .inr ⟨rfl, hb, cs.toArray, hB, hc, hm, by simpa using hl, by simpa using ht⟩⟩
theorem lay_take : ∀ (vs cs : List Value) (i : Nat), i + vs.length ≤ cs.length → (lay cs i vs).take (i + vs.length) = cs.take i ++ vs
  | [], cs, i, _ => by simp [lay]
  | v :: vs, cs, i, h => by
    simp only [List.length_cons] at h
    show (lay (cs.set i v) (i + 1) vs).take (i + (vs.length + 1)) = _
    rw [show i + (vs.length + 1) = i + 1 + vs.length by omega, lay_take vs (cs.set i v) (i + 1) (by rw [List.length_set]; omega)]
    rw [List.take_set, show cs.take (i + 1) = cs.take i ++ [cs[i]'(by omega)] from (List.take_succ_eq_append_getElem (by omega)), List.set_append_right _ _ (by simp; omega)]
    simp [Nat.min_eq_left (show i ≤ cs.length by omega)]
theorem lay_drop : ∀ (vs cs : List Value) (i : Nat), (lay cs i vs).drop (i + vs.length) = cs.drop (i + vs.length)
  | [], cs, i => by simp [lay]
  | v :: vs, cs, i => by
    show (lay (cs.set i v) (i + 1) vs).drop (i + (vs.length + 1)) = _
    rw [show i + (vs.length + 1) = i + 1 + vs.length by omega, lay_drop vs (cs.set i v) (i + 1), List.drop_set_of_lt (by omega), show i + (v :: vs).length = i + 1 + vs.length by rw [List.length_cons]; omega]
theorem lay_eq {vs cs : List Value} {i : Nat} (h : i + vs.length ≤ cs.length) : lay cs i vs = cs.take i ++ vs ++ cs.drop (i + vs.length) := by
  rw [← lay_take vs cs i h, ← lay_drop vs cs i, List.take_append_drop]
theorem raw_take {α : Type} {enc : α → List Value} {k m : Nat} (hk : ∀ x, (enc x).length = k) {xs : List α} {C : List Value} (h : C.take (xs.length * k) = xs.flatMap enc) (hm : m ≤ xs.length) : C.take (m * k) = (xs.take m).flatMap enc := by
  have h9 := congrArg (List.take (m * k)) h
  rw [List.take_take, Nat.min_eq_left (Nat.mul_le_mul_right _ hm)] at h9
  rw [h9]
  have e : xs.flatMap enc = (xs.take m).flatMap enc ++ (xs.drop m).flatMap enc := by rw [← List.flatMap_append, List.take_append_drop]
  rw [e, List.take_left' (by rw [flatMap_len hk, List.length_take, Nat.min_eq_left hm])]
/-- An element put between others: the cells behind it were moved last. -/
theorem ins_rawA {α : Type} {enc : α → List Value} {k m n : Nat} (hk : ∀ x, (enc x).length = k) {xs : List α} {s : α} {C : List Value} (hn : xs.length = n) (hm : m < n) (hC : (n + 1) * k ≤ C.length) (h1 : C.take (m * k) = (xs.take m).flatMap enc) :
    (lay (lay C (m * k) (enc s)) ((m + 1) * k) ((xs.drop m).flatMap enc)).take ((n + 1) * k) = (xs.take m ++ s :: xs.drop m).flatMap enc := by
  have l1 : ((xs.drop m).flatMap enc).length = (n - m) * k := by rw [flatMap_len hk, List.length_drop, hn]
  have e1 : (m + 1) * k = m * k + (enc s).length := by rw [hk, Nat.succ_mul]
  have e2 : (n + 1) * k = (m + 1) * k + ((xs.drop m).flatMap enc).length := by rw [l1, ← Nat.add_mul]; congr 1; omega
  have q1 : m * k + (enc s).length ≤ C.length := by rw [← e1]; exact Nat.le_trans (Nat.mul_le_mul_right _ (by omega)) hC
  rw [e2, lay_take _ _ _ (by rw [lay_length, ← e2]; exact hC), e1, lay_take _ _ _ q1, h1]
  simp
/-- An element put between others: the cells behind it were moved first. -/
theorem ins_rawB {α : Type} {enc : α → List Value} {k m n : Nat} (hk : ∀ x, (enc x).length = k) {xs : List α} {s : α} {C : List Value} (hn : xs.length = n) (hm : m < n) (hC : (n + 1) * k ≤ C.length) (h1 : C.take (m * k) = (xs.take m).flatMap enc) :
    (lay (lay C ((m + 1) * k) ((xs.drop m).flatMap enc)) (m * k) (enc s)).take ((n + 1) * k) = (xs.take m ++ s :: xs.drop m).flatMap enc := by
  have l1 : ((xs.drop m).flatMap enc).length = (n - m) * k := by rw [flatMap_len hk, List.length_drop, hn]
  have e1 : (m + 1) * k = m * k + (enc s).length := by rw [hk, Nat.succ_mul]
  have e2 : (n + 1) * k = (m + 1) * k + ((xs.drop m).flatMap enc).length := by rw [l1, ← Nat.add_mul]; congr 1; omega
  have q2 : m * k ≤ (n + 1) * k := Nat.mul_le_mul_right _ (by omega)
  have q3 : (m + 1) * k ≤ (n + 1) * k := Nat.mul_le_mul_right _ (by omega)
  have hL : (lay C ((m + 1) * k) ((xs.drop m).flatMap enc)).length = C.length := lay_length _ _ _
  rw [lay_eq (by rw [hL, ← e1]; omega), ← e1]
  have t1 : (lay C ((m + 1) * k) ((xs.drop m).flatMap enc)).take ((n + 1) * k) = C.take ((m + 1) * k) ++ (xs.drop m).flatMap enc := by rw [e2]; exact lay_take _ _ _ (by rw [← e2]; exact hC)
  have t2 : (lay C ((m + 1) * k) ((xs.drop m).flatMap enc)).take (m * k) = C.take (m * k) := by
    have := congrArg (List.take (m * k)) t1
    rw [List.take_take, Nat.min_eq_left q2, List.take_append_of_le_length (by rw [List.length_take]; omega), List.take_take, Nat.min_eq_left (by rw [e1]; omega)] at this
    exact this
  have hlen : (C.take (m * k) ++ enc s).length = (m + 1) * k := by rw [List.length_append, List.length_take, e1]; omega
  rw [t2, List.take_append, hlen, List.take_of_length_le (by rw [hlen]; exact q3)]
  have t3 : ((lay C ((m + 1) * k) ((xs.drop m).flatMap enc)).drop ((m + 1) * k)).take ((n + 1) * k - (m + 1) * k) = (xs.drop m).flatMap enc := by
    have := congrArg (List.drop ((m + 1) * k)) t1
    rw [List.drop_take, List.drop_left' (by rw [List.length_take]; omega)] at this
    exact this
  rw [t3, h1]
  simp
end Go.Proofs.YtclinbbghnebaaaGreat
namespace Go.Proofs.YtclinbbghnebaaaGreat
open Go Go.RowKit
section
variable {rd : Option Nat} {P : Program} {N : Nat} {ds : List Deferred} {Q : Exit → Act → World → Prop} {L L' : Slots} {w : World} {c : Code} {m : Nat}
/-- At a loop's head: at most m rounds more. -/
def WR (rd : Option Nat) (P : Program) (Q : Exit → Act → World → Prop) (N : Nat) (ds : List Deferred) (c : Code) (m : Nat) (L : Slots) (w : World) : Prop := ∀ a, Kn N ds L a → Code.roundsIn (rnd rd) 3 P c Q m a w
theorem c_rounds (m : Nat) (h : WR rd P Q N ds c m L w) : WC rd P Q N ds (.loop c) L w := ⟨fun a ha => wpIn_loop_rounds m (h a ha)⟩
theorem r_round (h : ∀ K : Act → World → Prop, (∀ L'' w'', WR rd P Q N ds c m L'' w'' → QK K N ds L'' w'') → WC rd P (Exit.then K Q) N ds c L w) : WR rd P Q N ds c (m + 1) L w :=
  fun a ha => h (Code.roundsIn (rnd rd) 3 P c Q m) (fun _ _ h2 => ⟨fun a' ha' => h2 a' ha'⟩) a ha
theorem WR.weak (L' : Slots) (hs : Sub L' L) (h : WR rd P Q N ds c m L' w) : WR rd P Q N ds c m L w := fun a ha => h a (ha.sub hs)
end
end Go.Proofs.YtclinbbghnebaaaGreat
namespace Go.Proofs.YtclinbbghnebaaaGreat
open Go Go.RowKit Go.Proofs.Tryz
set_option maxRecDepth 10000

theorem any_snoc {α : Type} [Inhabited α] {p : α → Bool} {xs : List α} {k : Nat} (hk : k < xs.length) (h : (xs.take k).any p = false) (hx : p (nth xs k) = false) : (xs.take (k + 1)).any p = false := by
  rw [take_nth hk, List.any_append, h]; simp [hx]
theorem any_hit {α : Type} [Inhabited α] {p : α → Bool} {xs : List α} {k : Nat} (hk : k < xs.length) (hx : p (nth xs k) = true) : decide ((0 : Int) ≤ (k : Int)) = xs.any p := by
  have : xs.any p = true := List.any_eq_true.2 ⟨nth xs k, nth_mem hk, hx⟩
  rw [this]; simp
theorem any_none {α : Type} {p : α → Bool} {xs : List α} {k : Nat} (hk : xs.length ≤ k) (h : (xs.take k).any p = false) : decide ((0 : Int) ≤ -1) = xs.any p := by
  rw [List.take_of_length_le hk] at h; rw [h]; decide
theorem not_any_out (lo hi : Int) (xs : List Int) : (!(xs.any fun n => decide (n < lo ∨ hi < n))) = decide (∀ n ∈ xs, lo ≤ n ∧ n ≤ hi) := by
  rw [Bool.eq_iff_iff]
  simp only [Bool.not_eq_true', List.any_eq_false, decide_eq_true_eq]
  exact ⟨fun h n hn => by have := h n hn; omega, fun h n hn => by have := h n hn; omega⟩
def encI (n : Int) : List Value := [.int .i64 n]
theorem SlI.own {w : World} {b : Nat} {t : TypeId} {xs : List Int} (h : Blk w b t (xs.map (Value.int .i64))) : Sl encI 1 w (some ⟨b, 0, none⟩) b 0 xs :=
  ⟨fun _ => rfl, fun _ => h.lt, fun i hi j v hv => by
    cases j with
    | zero =>
      rw [nth_eq hi] at hv
      simp [encI] at hv
      subst hv
      exact h.get (off := 0 + i * 1 + 0) (by simp [hi])
    | succ j => simp [encI] at hv⟩
structure Bid where
  p : Int
  n : Int
  r : Int
  m : Int
instance : Inhabited Bid := ⟨⟨default, default, default, default⟩⟩
structure Trd where
  b : Int
  s : Int
  n : Int
instance : Inhabited Trd := ⟨⟨default, default, default⟩⟩
structure Low where
  b : Int
  p : Int
instance : Inhabited Low := ⟨⟨default, default⟩⟩
structure Msg where
  c : Int
  n : Int
  r : Int
  k : Int
  m : Int
  v : Int
instance : Inhabited Msg := ⟨⟨default, default, default, default, default, default⟩⟩
structure Fre where
  f : Int
  t : Int
instance : Inhabited Fre := ⟨⟨default, default⟩⟩
structure Off where
  f : Int
  t : Int
  b : Int
  e : Int
  p : Int
instance : Inhabited Off := ⟨⟨default, default, default, default, default⟩⟩
def encOff (x : Off) : List Value := [.int .i64 x.f, .int .i64 x.t, .int .i64 x.b, .int .i64 x.e, .int .i64 x.p]
structure Chr where
  s : Int
  c : Int
  k : Int
  r : Int
  n : Int
  l : Int
  o : Int
  d : Int
  e : Int
  m : Int
instance : Inhabited Chr := ⟨⟨default, default, default, default, default, default, default, default, default, default⟩⟩

def cmpI3 (m n : Int) : Int := if m < n then -1 else if n < m then 1 else 0
def or3 (a b c : Int) : Int := if a ≠ 0 then a else if b ≠ 0 then b else c
def okMsg (x : Msg) : Bool := decide ((0 ≤ x.c ∧ x.c ≤ 9) ∧ (0 ≤ x.n ∧ x.n ≤ 999) ∧ (0 ≤ x.r ∧ x.r ≤ 99) ∧ (1 ≤ x.k ∧ x.k ≤ 7) ∧ (0 ≤ x.m ∧ x.m ≤ 100000) ∧ (0 ≤ x.v ∧ x.v ≤ 1000000))
def okOff (x : Off) : Bool := decide (((0 ≤ x.f ∧ x.f ≤ 100000) ∧ (0 ≤ x.t ∧ x.t ≤ 100000)) ∧ ((0 ≤ x.b ∧ x.b ≤ 100000) ∧ (0 ≤ x.e ∧ x.e ≤ 100000)) ∧ x.b ≤ x.e ∧ (0 ≤ x.p ∧ x.p ≤ 1000000000))
def okFre (x : Fre) : Bool := decide (((0 ≤ x.f ∧ x.f ≤ 100000) ∧ (0 ≤ x.t ∧ x.t ≤ 100000)) ∧ x.f ≤ x.t)
def okLow (x : Low) : Bool := decide ((0 ≤ x.b ∧ x.b ≤ 10000) ∧ (0 ≤ x.p ∧ x.p ≤ 1000))
/-- a / b, rounded. -/
def rnd2 (a b : Int) : Int := (a + b / 2) / b
def chkFr (l : List Fre) : Int := if 30 < l.length then 5 else if (l.any fun f => !okFre f) = true then 2 else 0

theorem follows : Tryz.prog.follows .mixedOrders = true := by kernel_rfl
theorem own44 : Own Tryz.prog 44 := ⟨Tryz.f44, func44, by kernel_rfl, by kernel_rfl⟩
theorem own93 : Own Tryz.prog 93 := ⟨Tryz.f93, func93, by kernel_rfl, by kernel_rfl⟩
theorem own111 : Own Tryz.prog 111 := ⟨Tryz.f111, func111, by kernel_rfl, by kernel_rfl⟩
theorem own114 : Own Tryz.prog 114 := ⟨Tryz.f114, func114, by kernel_rfl, by kernel_rfl⟩
theorem own160 : Own Tryz.prog 160 := ⟨Tryz.f160, func160, by kernel_rfl, by kernel_rfl⟩
theorem isNaN_c (m : Int) (w0 : World) :
    CallsV Tryz.prog 160 [.int .i64 m] w0 (fun v w' => (v = .bool false ∧ Gr w0 w') ∧ Ext w0 w') := by
 refine f_n func160 ?_
 iterate 10 refine st1 ?_
 refine t_samehd (v := .bool false) (by simp) ?_
 refine go ?_
 refine f_1 results160 ?_
 exact ⟨⟨rfl, Gr.refl _⟩, u_d⟩

theorem cmpI_c (m n : Int) (w0 : World) :
    CallsV Tryz.prog 93 [.int .i64 m, .int .i64 n] w0 (fun v w' => (v = .int .i64 (cmpI3 m n) ∧ Gr w0 w') ∧ Ext w0 w') := by
 refine f_n func93 ?_
 refine go ?_
 refine t_call own160 rfl rfl rfl rfl (isNaN_c m _) (fun v3 w4 r6 => ?_)
 obtain ⟨⟨rfl, Gu5⟩, u5⟩ := r6
 have zu5 := u5.size
 refine go ?_
 refine t_call own160 rfl rfl rfl rfl (isNaN_c n _) (fun v9 w10 r12 => ?_)
 obtain ⟨⟨rfl, Gu11⟩, u11⟩ := r12
 have zu11 := u11.size
 refine go ?_
 refine q_p (fun g16 => ?_) fun g16 => ?_
 ·
  refine go ?_
  refine f_1 results93 ?_
  exact ⟨⟨congrArg (Value.int .i64) (by unfold cmpI3; rw [if_pos g16]), (((Gr.refl _).trans Gu5).trans Gu11)⟩, u_d⟩
 refine go ?_
 refine q_p (fun g19 => ?_) fun g19 => ?_
 ·
  refine go ?_
  refine f_1 results93 ?_
  exact ⟨⟨congrArg (Value.int .i64) (by unfold cmpI3; rw [if_neg g16, if_pos g19]), (((Gr.refl _).trans Gu5).trans Gu11)⟩, u_d⟩
 refine go ?_
 refine f_1 results93 ?_
 exact ⟨⟨congrArg (Value.int .i64) (by unfold cmpI3; rw [if_neg g16, if_neg g19]), (((Gr.refl _).trans Gu5).trans Gu11)⟩, u_d⟩

theorem or3_c (m n q : Int) (b : Nat) (w0 : World) (hb : Blk w0 b 3 [.int .i64 m, .int .i64 n, .int .i64 q]) :
    CallsV Tryz.prog 114 [.slice (some ⟨b, 0, none⟩) 3 3] w0 (fun v w' => (v = .int .i64 (or3 m n q) ∧ Gr w0 w') ∧ Ext w0 w') := by
 refine f_n func114 ?_
 refine go ?_
 refine c_rounds 4 (WR.weak [(3, .int .i64 0), (6, .slice (some ⟨b, 0, none⟩) 3 3), (7, .int .i64 3), (8, .int .i64 0)] ⟨rfl, rfl, rfl, rfl, trivial⟩ (r_round fun K5 hK5 => (q_of ?_)))
 refine go ?_
 refine t_index (j := 0) underlying38 sizeOf3 rfl rfl rfl rfl rfl rfl (by omega) ?_
 refine go ?_
 refine q_p (fun g14 => ?_) fun g14 => ?_
 ·
  refine go ?_
  refine f_1 results114 ?_
  exact ⟨⟨congrArg (Value.int .i64) (by unfold or3; (repeat' split) <;> omega), (Gr.refl _)⟩, u_d⟩
 refine go ?_
 refine hK5 _ _ (WR.weak [(3, .int .i64 0), (6, .slice (some ⟨b, 0, none⟩) 3 3), (7, .int .i64 3), (8, .int .i64 1)] ⟨rfl, rfl, rfl, rfl, trivial⟩ (r_round fun K12 hK12 => (q_of ?_)))
 refine go ?_
 refine t_index (j := 1) underlying38 sizeOf3 rfl rfl rfl rfl rfl rfl (by omega) ?_
 refine go ?_
 refine q_p (fun g14 => ?_) fun g14 => ?_
 ·
  refine go ?_
  refine f_1 results114 ?_
  exact ⟨⟨congrArg (Value.int .i64) (by unfold or3; (repeat' split) <;> omega), (Gr.refl _)⟩, u_d⟩
 refine go ?_
 refine hK12 _ _ (WR.weak [(3, .int .i64 0), (6, .slice (some ⟨b, 0, none⟩) 3 3), (7, .int .i64 3), (8, .int .i64 2)] ⟨rfl, rfl, rfl, rfl, trivial⟩ (r_round fun K19 hK19 => (q_of ?_)))
 refine go ?_
 refine t_index (j := 2) underlying38 sizeOf3 rfl rfl rfl rfl rfl rfl (by omega) ?_
 refine go ?_
 refine q_p (fun g14 => ?_) fun g14 => ?_
 ·
  refine go ?_
  refine f_1 results114 ?_
  exact ⟨⟨congrArg (Value.int .i64) (by unfold or3; (repeat' split) <;> omega), (Gr.refl _)⟩, u_d⟩
 refine go ?_
 refine hK19 _ _ (WR.weak [(3, .int .i64 0), (6, .slice (some ⟨b, 0, none⟩) 3 3), (7, .int .i64 3), (8, .int .i64 3)] ⟨rfl, rfl, rfl, rfl, trivial⟩ (r_round fun K26 hK26 => (q_of ?_)))
 refine go ?_
 refine f_1 results114 ?_
 exact ⟨⟨congrArg (Value.int .i64) (by unfold or3; (repeat' split) <;> omega), (Gr.refl _)⟩, u_d⟩

abbrev out1 (lo hi n : Int) : Bool := decide (n < lo ∨ hi < n)

theorem within1_c (lo hi n : Int) (b c : Nat) (t1 t2 : TypeId) (w0 : World) (hb : Blk w0 b t1 [.int .i64 lo]) (hc : Blk w0 c t2 [.int .i64 hi]) :
    CallsV Tryz.prog 111 [.int .i64 n, .pointer (some ⟨b, 0, none⟩), .pointer (some ⟨c, 0, none⟩)] w0 (fun v w' => v = .bool (out1 lo hi n) ∧ Ext w0 w') := by
 refine f_n func111 ?_
 refine go ?_
 refine t_splitp 8 rfl (fun g8 => ?_) (fun g8 => ?_)
 ·
  refine go ?_
  refine f_1 results111 ?_
  exact ⟨by simp [out1, *], u_d⟩
 refine go ?_
 refine f_1 results111 ?_
 exact ⟨by simp [out1, *], u_d⟩

theorem indexI_c (p : Int → Bool) (fv : FuncId) (caps : List Value) (xs : List Int) (ao : Option Addr) (b o cap : Nat) (w0 : World) (ho : Own Tryz.prog fv) (hp : ∀ x ∈ xs, ∀ w, Ext w0 w → CallsV Tryz.prog fv ([.int .i64 x] ++ caps) w fun v w' => v = .bool (p x) ∧ Ext w w') (hs : Sl encI 1 w0 ao b o xs) (hl : xs.length ≤ 1000000) :
    CallsV Tryz.prog 147 [.slice ao xs.length cap, .func (.func fv) #[] (caps).toArray] w0 (fun v w' => (∃ n : Int, v = .int .i64 n ∧ decide (0 ≤ n) = xs.any p) ∧ Ext w0 w') := by
 refine f_n func147 ?_
 refine go ?_
 refine x_l1 (fun _ => False) [0, 1, 7] (fun (k : Nat) => [(8, .int .i64 (k : Int))]) (fun k w => (k ≤ xs.length) ∧ ((xs.take k).any p = false)) (fun k => xs.length - k) 0 ⟨Nat.zero_le _, (by simp)⟩ ?_
 rintro k w5 ⟨hle, hnot⟩ u6 zu6 K4 hK4
 have E7 := Sc.mk ((Upd.refl (fun _ => False) w0).nx u6)
 refine go ?_
 refine q_p (fun g9 => ?_) fun g9 => ?_
 ·
  refine go ?_
  refine g_i k (hs.keep E7.u (fun _ h => h)) (fun _ => ?_)
  refine go ?_
  refine t_call (fs := []) (cs := caps) ho rfl rfl rfl rfl (hp (nth xs k) (nth_mem (by omega)) _ E7.u) (fun v14 w15 r17 => ?_)
  obtain ⟨rfl, u16⟩ := r17
  have zu16 := u16.size
  refine go ?_
  refine q_b (fun g16 => ?_) fun g16 => ?_
  ·
   refine go ?_
   refine f_1 results147 ?_
   exact ⟨⟨_, rfl, any_hit (by omega) g16⟩, u_d⟩
  refine go ?_
  exact hK4 (k + 1) ⟨(by omega), (any_snoc (by omega) hnot g16)⟩
 refine go ?_
 refine f_1 results147 ?_
 exact ⟨⟨_, rfl, any_none (by omega) hnot⟩, u_d⟩

theorem containsI_c (p : Int → Bool) (fv : FuncId) (caps : List Value) (xs : List Int) (ao : Option Addr) (b o cap : Nat) (w0 : World) (ho : Own Tryz.prog fv) (hp : ∀ x ∈ xs, ∀ w, Ext w0 w → CallsV Tryz.prog fv ([.int .i64 x] ++ caps) w fun v w' => v = .bool (p x) ∧ Ext w w') (hs : Sl encI 1 w0 ao b o xs) (hl : xs.length ≤ 1000000) :
    CallsV Tryz.prog 82 [.slice ao xs.length cap, .func (.func fv) #[] (caps).toArray] w0 (fun v w' => v = .bool (xs.any p) ∧ Ext w0 w') := by
 refine f_n func82 ?_
 refine go ?_
 refine x_c func147 rfl rfl (indexI_c p fv caps xs ao b o cap _ ho hp hs hl) ?_
 rintro _ w4 ⟨⟨n, rfl, hn⟩, u5⟩ zu5
 refine go ?_
 refine f_1 results82 ?_
 exact ⟨by rw [hn], u_d⟩



theorem indexO_c {α : Type} [Inhabited α] (enc : α → List Value) (hk : ∀ x, (enc x).length = 5) (p : α → Bool) (fv : FuncId) (caps : List Value) (xs : List α) (ao : Option Addr) (b o cap : Nat) (w0 : World) (ho : Own Tryz.prog fv) (hp : ∀ x ∈ xs, ∀ w, Ext w0 w → CallsV Tryz.prog fv ([.agg (enc x).toArray] ++ caps) w fun v w' => v = .bool (p x) ∧ Ext w w') (hs : Sl enc 5 w0 ao b o xs) (hl : xs.length ≤ 1000000) :
    CallsV Tryz.prog 110 [.slice ao xs.length cap, .func (.func fv) #[] (caps).toArray] w0 (fun v w' => (∃ n : Int, v = .int .i64 n ∧ decide (0 ≤ n) = xs.any p) ∧ Ext w0 w') := by
 refine f_n func110 ?_
 refine go ?_
 refine x_l1 (fun _ => False) [0, 1, 7] (fun (k : Nat) => [(8, .int .i64 (k : Int))]) (fun k w => (k ≤ xs.length) ∧ ((xs.take k).any p = false)) (fun k => xs.length - k) 0 ⟨Nat.zero_le _, (by simp)⟩ ?_
 rintro k w5 ⟨hle, hnot⟩ u6 zu6 K4 hK4
 have E7 := Sc.mk ((Upd.refl (fun _ => False) w0).nx u6)
 refine go ?_
 refine q_p (fun g9 => ?_) fun g9 => ?_
 ·
  refine go ?_
  refine g_i k (hs.keep E7.u (fun _ h => h)) (fun _ => ?_)
  refine t_loadN (vs := enc (nth xs k)) isAgg68 sizeOf68 rfl rfl rfl ((hs.keep E7.u (fun _ h => h)).at_ k (by omega)) (hk _) (t_call (fs := []) (cs := caps) ho rfl rfl rfl rfl (hp (nth xs k) (nth_mem (by omega)) _ E7.u) (fun v14 w15 r17 => ?_))
  obtain ⟨rfl, u16⟩ := r17
  have zu16 := u16.size
  refine go ?_
  refine q_b (fun g16 => ?_) fun g16 => ?_
  ·
   refine go ?_
   refine f_1 results110 ?_
   exact ⟨⟨_, rfl, any_hit (by omega) g16⟩, u_d⟩
  refine go ?_
  exact hK4 (k + 1) ⟨(by omega), (any_snoc (by omega) hnot g16)⟩
 refine go ?_
 refine f_1 results110 ?_
 exact ⟨⟨_, rfl, any_none (by omega) hnot⟩, u_d⟩

theorem containsO_c {α : Type} [Inhabited α] (enc : α → List Value) (hk : ∀ x, (enc x).length = 5) (p : α → Bool) (fv : FuncId) (caps : List Value) (xs : List α) (ao : Option Addr) (b o cap : Nat) (w0 : World) (ho : Own Tryz.prog fv) (hp : ∀ x ∈ xs, ∀ w, Ext w0 w → CallsV Tryz.prog fv ([.agg (enc x).toArray] ++ caps) w fun v w' => v = .bool (p x) ∧ Ext w w') (hs : Sl enc 5 w0 ao b o xs) (hl : xs.length ≤ 1000000) :
    CallsV Tryz.prog 43 [.slice ao xs.length cap, .func (.func fv) #[] (caps).toArray] w0 (fun v w' => v = .bool (xs.any p) ∧ Ext w0 w') := by
 refine f_n func43 ?_
 refine go ?_
 refine x_c func110 rfl rfl (indexO_c enc hk p fv caps xs ao b o cap _ ho hp hs hl) ?_
 rintro _ w4 ⟨⟨n, rfl, hn⟩, u5⟩ zu5
 refine go ?_
 refine f_1 results43 ?_
 exact ⟨by rw [hn], u_d⟩



theorem within_c (lo hi : Int) (xs : List Int) (ao : Option Addr) (b o cap : Nat) (w0 : World) (hs : Sl encI 1 w0 ao b o xs) (hl : xs.length ≤ 1000000) :
    CallsV Tryz.prog 46 [.int .i64 lo, .int .i64 hi, .slice ao xs.length cap] w0 (fun v w' => v = .bool (decide (∀ n ∈ xs, lo ≤ n ∧ n ≤ hi)) ∧ Ext w0 w') := by
 refine f_n func46 ?_
 refine go ?_
 refine x_b fun bk2 w3 ebk2 sbk2 B4 u5 => ?_
 refine x_b fun bk7 w8 ebk7 sbk7 B9 u10 => ?_
 refine go ?_
 refine t_mkfunc (vs := []) (us := [.pointer (some ⟨bk2, 0, none⟩), .pointer (some ⟨bk7, 0, none⟩)]) rfl rfl rfl rfl ?_
 have B13 := (B4.kx u10)
 refine x_c func82 rfl rfl (containsI_c (out1 lo hi) 111 [.pointer (some ⟨bk2, 0, none⟩), .pointer (some ⟨bk7, 0, none⟩)] xs ao b o cap _ own111 (fun x _ w u => within1_c lo hi x bk2 bk7 _ _ w (B13.keep u (fun h => h)) (B9.keep u (fun h => h))) (hs.keep (((Upd.refl (fun _ => False) w0).nx u5).nx u10) (fun _ h => h)) hl) ?_
 rintro _ w15 ⟨rfl, u16⟩ zu16
 refine go ?_
 refine f_1 results46 ?_
 exact ⟨by rw [not_any_out], u_d⟩

theorem within1_v (lo hi m : Int) (b : Nat) (t : TypeId) (w : World) (h : Blk w b t [.int .i64 m]) :
    CallsV Tryz.prog 46 [.int .i64 lo, .int .i64 hi, .slice (some ⟨b, 0, none⟩) 1 1] w (fun v w' => v = .bool (decide ((lo ≤ m ∧ m ≤ hi))) ∧ Ext w w') :=
  (within_c lo hi [m] _ b 0 1 w (SlI.own (xs := [m]) h) (by simp)).mono fun v w' ⟨e, u⟩ => ⟨by rw [e]; simp, u⟩

theorem within2_v (lo hi m n : Int) (b : Nat) (t : TypeId) (w : World) (h : Blk w b t [.int .i64 m, .int .i64 n]) :
    CallsV Tryz.prog 46 [.int .i64 lo, .int .i64 hi, .slice (some ⟨b, 0, none⟩) 2 2] w (fun v w' => v = .bool (decide ((lo ≤ m ∧ m ≤ hi) ∧ (lo ≤ n ∧ n ≤ hi))) ∧ Ext w w') :=
  (within_c lo hi [m, n] _ b 0 2 w (SlI.own (xs := [m, n]) h) (by simp)).mono fun v w' ⟨e, u⟩ => ⟨by rw [e]; simp, u⟩

theorem isOffer_c (x : Off) (w0 : World) :
    CallsV Tryz.prog 45 [.agg #[.int .i64 x.f, .int .i64 x.t, .int .i64 x.b, .int .i64 x.e, .int .i64 x.p]] w0 (fun v w' => v = .bool (okOff x) ∧ Ext w0 w') := by
 refine f_n func45 ?_
 refine go ?_
 refine x_b fun bk2 w3 ebk2 sbk2 B4 u5 => ?_
 refine go ?_
 refine x_l fun bk8 w9 ebk8 sbk8 B10 u11 => ?_
 refine x_c func46 rfl rfl (within2_v 0 100000 x.f x.t _ _ _ B10) ?_
 rintro _ w14 ⟨rfl, u15⟩ zu15
 refine go ?_
 refine t_splitp 9 rfl (fun g9 => ?_) (fun g9 => ?_)
 ·
  refine go ?_
  refine x_l fun bk18 w19 ebk18 sbk18 B20 u21 => ?_
  refine x_c func46 rfl rfl (within2_v 0 100000 x.b x.e _ _ _ B20) ?_
  rintro _ w24 ⟨rfl, u25⟩ zu25
  refine go ?_
  refine t_splitp 17 rfl (fun g17 => ?_) (fun g17 => ?_)
  ·
   refine go ?_
   refine t_splitp 24 rfl (fun g24 => ?_) (fun g24 => ?_)
   ·
    refine go ?_
    refine x_l fun bk28 w29 ebk28 sbk28 B30 u31 => ?_
    refine x_c func46 rfl rfl (within1_v 0 1000000000 x.p _ _ _ B30) ?_
    rintro _ w34 ⟨rfl, u35⟩ zu35
    refine go ?_
    refine f_1 results45 ?_
    exact ⟨congrArg Value.bool (by rw [Bool.eq_iff_iff]; simp only [okOff, decide_eq_true_eq] <;> grind), u_d⟩
   refine go ?_
   refine f_1 results45 ?_
   exact ⟨congrArg Value.bool (by rw [Bool.eq_iff_iff]; simp only [okOff, decide_eq_true_eq] <;> grind), u_d⟩
  refine go ?_
  refine f_1 results45 ?_
  exact ⟨congrArg Value.bool (by rw [Bool.eq_iff_iff]; simp only [okOff, decide_eq_true_eq] <;> grind), u_d⟩
 refine go ?_
 refine f_1 results45 ?_
 exact ⟨congrArg Value.bool (by rw [Bool.eq_iff_iff]; simp only [okOff, decide_eq_true_eq] <;> grind), u_d⟩

theorem badOff_c (x : Off) (w0 : World) :
    CallsV Tryz.prog 44 [.agg #[.int .i64 x.f, .int .i64 x.t, .int .i64 x.b, .int .i64 x.e, .int .i64 x.p]] w0 (fun v w' => v = .bool (!okOff x) ∧ Ext w0 w') := by
 refine f_n func44 ?_
 refine go ?_
 refine x_b fun bk2 w3 ebk2 sbk2 B4 u5 => ?_
 refine go ?_
 refine x_c func45 rfl rfl (isOffer_c x _) ?_
 rintro _ w9 ⟨rfl, u10⟩ zu10
 refine go ?_
 refine f_1 results44 ?_
 exact ⟨rfl, u_d⟩

end Go.Proofs.YtclinbbghnebaaaGreat
namespace Go.Proofs.YtclinbbghnebaaaGreat
open Go Go.RowKit
/-- In block r lies a map with the int keys ks, each true. -/
def SetI (ks : List Int) (w : World) (r : Nat) : Prop := ∃ es c, w.heap[r]? = some (.map es c) ∧ es.toList.map (fun e => (e.key, e.val)) = ks.map (fun k => (Value.int .i64 k, Value.bool true))
theorem SetI.lt {ks : List Int} {w : World} {r : Nat} (h : SetI ks w r) : r < w.heap.size := by obtain ⟨es, c, h, _⟩ := h; exact lt_of_block h
theorem SetI.keep {ks : List Int} {w : World} {r : Nat} {w' : World} {S : Nat → Prop} (h : SetI ks w r) (u : Upd S w w') (hn : ¬ S r) : SetI ks w' r := by
  obtain ⟨es, c, h1, h2⟩ := h
  exact ⟨es, c, (u.block r (lt_of_block h1) hn).trans h1, h2⟩
theorem SetI.ofMemo {w : World} {r : Nat} (h : ∀ F, Memo F w r) : SetI [] w r := by
  obtain ⟨es, c, h1, h2⟩ := h (fun _ _ _ => False)
  refine ⟨es, c, h1, ?_⟩
  cases he : es.toList with
  | nil => rfl
  | cons e l => obtain ⟨_, _, _, hf⟩ := h2 e (by rw [he]; simp); exact hf.elim
theorem SetI.notBlk {ks : List Int} {w : World} {r b : Nat} {t : TypeId} {cs : List Value} (h : SetI ks w r) (hb : Blk w b t cs) : b ≠ r := fun e => by
  obtain ⟨es, c, h1, _⟩ := h
  subst e
  have h2 : w.heap[b]? = _ := hb
  rw [h1] at h2; cases h2
section steps
variable {rd : Option Nat} {P : Program} {ops : Array Oper} {Q : Exit → Act → World → Prop} {N : Nat} {ds : List Deferred} {rest : List Oper} {L : Slots} {w : World}
variable {d : Nat} {ty : TypeId} {pos : String} {aft : Array Edge} {g : Option (Nat × Bool)}
end steps
end Go.Proofs.YtclinbbghnebaaaGreat
namespace Go.Proofs.YtclinbbghnebaaaGreat
open Go Go.RowKit
set_option maxRecDepth 10000
structure Clr where
  p : Int
  t : Int
  g : Int
instance : Inhabited Clr := ⟨⟨default, default, default⟩⟩
end Go.Proofs.YtclinbbghnebaaaGreat
namespace Go.Proofs.YtclinbbghnebaaaGreat
open Go Go.RowKit
/-- A slice in memory, what it holds. -/
structure Hl (α : Type) where
  xs : List α
  ao : Option Addr
  g : Nat
  o : Nat
  cp : Nat
instance {α : Type} : Inhabited (Hl α) := ⟨⟨[], none, 0, 0, 0⟩⟩
def encHl {α : Type} (h : Hl α) : List Value := [.slice h.ao h.xs.length h.cp]
theorem Acc.ge {α : Type} {enc : α → List Value} {k : Nat} {e : TypeId} {base : Nat} {w : World} {ao : Option Addr} {g cap : Nat} {xs : List α} (h : Acc enc k e base w ao g cap xs) (hp : 0 < xs.length) : base ≤ g := by
  rcases h.at_ with ⟨_, h1, _⟩ | ⟨_, h2, _⟩
  · subst h1; simp at hp
  · exact h2
section
variable {α : Type} [Inhabited α] {p : α → Bool} {l : List α} {j k : Nat}
/-- What is kept of the first elements. -/
def kp (p : α → Bool) (l : List α) (j : Nat) : List α := (l.take j).filter fun x => !p x
/-- What DeleteFunc's slice holds when j elements are looked at. -/
def dl (p : α → Bool) (l : List α) (j : Nat) : List α := kp p l j ++ l.drop (kp p l j).length
omit [Inhabited α] in
end
section
variable {P : Program} {ops : Array Oper} {Q : Exit → Act → World → Prop} {N : Nat} {ds : List Deferred} {rest : List Oper} {L : Slots} {w : World} {rd : Option Nat} {d : Nat} {ty : TypeId} {pos : String} {aft : Array Edge} {g : Option (Nat × Bool)}
/-- append(nil, make(S, m)...): a new row. -/
theorem t_appZN {t tn e : TypeId} {z : Value} {bytes k : Nat} (m : Nat) {s x : Operand} {mv : Int}
    (hu : P.underlying t = some (.slice e)) (hun : P.underlying tn = some (.int .i64)) (hi : (P.info? e).map (fun i => (i.zero, i.size, i.bytes)) = some (some z, k, bytes)) (hz : z.cells.size = k) (hk0 : 0 < k)
    (hg : grd ops L g = true) (hN : Nat.blt d N = true) (hs : ev L s = some (.slice none 0 0)) (hx : ev L x = some (.int .i64 mv)) (hm : mv = (m : Int)) (hm0 : 0 < m) (hsm : m ≤ 1000000) (hby : bytes ≤ 1000)
    (h : ∀ cap' w' zs, m ≤ cap' → cap' ≤ maxLen → List.length zs = cap' * k → Blk w' w.heap.size e zs → Ext w w' → WL rd P ops Q N ds rest ((d, .slice (some ⟨w.heap.size, 0, none⟩) m cap') :: L) w') :
    WL rd P ops Q N ds (⟨some d, .call ⟨.builtin .append, #[s, x], #[t, tn]⟩, ty, pos, aft, g⟩ :: rest) L w := by
  subst hm
  obtain ⟨i0, hi0, hi1, hi2, hi3⟩ := info_parts' hi
  have hold : (Builtin.firstCells i0.size 0 (.slice none 0 0)).run P w.drew = .ok (([] : List Value).toArray) w.drew := run_firstCells_none _ _ _ _ _
  have hb1 : m * bytes ≤ 1000000 * 1000 := Nat.mul_le_mul hsm hby
  have hr := Lib.run_append_grow_zeros (P := P) w t tn ty e i0 z .i64 .i64 hu hun hi0 hi1 none 0 0 [] hold m hm0 (by omega) (by omega) (by omega) (by rw [hi3]; omega) (by rw [hi3]; exact growslice_fits (by omega) (by rw [Nat.zero_add]; omega))
  rw [Nat.zero_add] at hr
  have hge := grownCap_ge w m 0 e
  have hle := grownCap_le_maxLen w m 0 e (by unfold maxLen; omega)
  generalize grownCap w m 0 e = G at hr hge hle
  have hzl : ∀ q, (Builtin.zeroCells z.cells q).size = q * k := fun q => by simp [Builtin.zeroCells, hz]
  have hB : Blk (w.drew.alloc (.cells (([] : List Value).toArray ++ Builtin.zeroCells z.cells m ++ Builtin.zeroCells z.cells (G - m)) e)) w.heap.size e ((Builtin.zeroCells z.cells m).toList ++ (Builtin.zeroCells z.cells (G - m)).toList) := by
    have := Blk.new w.drew e ((Builtin.zeroCells z.cells m).toList ++ (Builtin.zeroCells z.cells (G - m)).toList)
    have e2 : ((Builtin.zeroCells z.cells m).toList ++ (Builtin.zeroCells z.cells (G - m)).toList).toArray = ([] : List Value).toArray ++ Builtin.zeroCells z.cells m ++ Builtin.zeroCells z.cells (G - m) := by
      apply Array.toList_inj.1; simp
    rw [e2] at this
    exact this
  refine WL.value hg rfl hN (fun a hk => ?_) (h G _ _ hge hle ?_ hB ((Upd.drew w).trans (Upd.alloc _ _)))
  · simp only [execOp, resolve, invoke, builtin]
    simp [hk.ev hs, hk.ev hx, hr]
  · simp only [List.length_append, Array.length_toList, hzl]
    rw [← Nat.add_mul]
    congr 1; omega
end
end Go.Proofs.YtclinbbghnebaaaGreat
namespace Go.Proofs.YtclinbbghnebaaaGreat
open Go Go.RowKit
theorem lay_get : ∀ (vs cs : List Value) (i q : Nat), i + vs.length ≤ cs.length → (lay cs i vs)[q]? = if i ≤ q ∧ q < i + vs.length then vs[q - i]? else cs[q]?
  | [], cs, i, q, _ => by rw [if_neg (by simp only [List.length_nil]; omega)]; rfl
  | v :: vs, cs, i, q, h => by
    have hl : i < cs.length := by simp at h; omega
    show (lay (cs.set i v) (i + 1) vs)[q]? = _
    rw [lay_get vs (cs.set i v) (i + 1) q (by simp at h ⊢; omega)]
    by_cases h1 : q = i
    · subst h1
      rw [if_neg (by omega), if_pos (by simp), List.getElem?_set_self hl]
      simp
    · by_cases h2 : i + 1 ≤ q ∧ q < i + 1 + vs.length
      · rw [if_pos h2, if_pos (by simp; omega), show q - i = (q - (i + 1)) + 1 by omega]
        rfl
      · rw [if_neg h2, if_neg (by simp; omega), List.getElem?_set_ne (by omega)]
/-- A block of the call's own whose first cells are the elements xs. -/
structure Wr {α : Type} [Inhabited α] (enc : α → List Value) (k : Nat) (e : TypeId) (w : World) (g : Nat) (xs : List α) : Prop where
  at_ : 0 < xs.length → ∃ cur : Array Value, w.heap[g]? = some (.cells cur e (0, 0)) ∧ xs.length * k ≤ cur.size ∧ ∀ i, i < xs.length → ∀ (r : Nat) (v : Value), (enc (nth xs i))[r]? = some v → cur[i * k + r]? = some v
section
variable {α : Type} [Inhabited α] {enc : α → List Value} {k : Nat} {e : TypeId} {w w' : World} {g : Nat} {xs : List α}
theorem Acc.wr {base : Nat} {ao : Option Addr} {cap : Nat} (h : Acc enc k e base w ao g cap xs) (hk : ∀ x, (enc x).length = k) : Wr enc k e w g xs := ⟨fun hp => by
  rcases h.at_ with ⟨_, h1, _⟩ | ⟨_, _, cur, hc, hl, _, hsz, htk⟩
  · subst h1; simp at hp
  · refine ⟨cur, hc, by rw [hsz]; exact Nat.mul_le_mul_right k hl, fun i hi r v hv => ?_⟩
    have h1 := flatMap_at hk xs i r v hi hv
    rw [← htk, List.getElem?_take] at h1
    split at h1
    · simpa using h1
    · cases h1⟩
theorem Wr.lt (h : Wr enc k e w g xs) (hp : 0 < xs.length) : g < w.heap.size := by
  obtain ⟨cur, hc, _⟩ := h.at_ hp
  exact (Array.getElem?_eq_some_iff.1 hc).1
theorem Wr.keep {S : Nat → Prop} (h : Wr enc k e w g xs) (u : Upd S w w') (hn : 0 < xs.length → ¬ S g) : Wr enc k e w' g xs := ⟨fun hp => by
  obtain ⟨cur, hc, hr⟩ := h.at_ hp
  exact ⟨cur, (u.block g (h.lt hp) (hn hp)).trans hc, hr⟩⟩
theorem Wr.sl {ao : Option Addr} (h : Wr enc k e w g xs) (ha : 0 < xs.length → ao = some ⟨g, 0, none⟩) : Sl enc k w ao g 0 xs :=
  ⟨ha, h.lt, fun i hi j v hv => by
    obtain ⟨cur, hc, hs, hr⟩ := h.at_ (by omega)
    have hB : Blk w g e cur.toList := by simpa [Blk] using hc
    rw [Nat.zero_add]
    exact hB.get (by simpa using hr i hi j v hv)⟩
end
section
variable {rd : Option Nat} {P : Program} {ops : Array Oper} {Q : Exit → Act → World → Prop} {N : Nat} {ds : List Deferred} {rest : List Oper} {L : Slots} {w : World}
variable {ty : TypeId} {pos : String} {aft : Array Edge} {gd : Option (Nat × Bool)}
/-- A quotient whose value is known. -/
theorem t_quoV {xt yt : TypeId} {x y : Operand} {d : Nat} {m n : Int} (q : Int) (hg : grd ops L gd = true) (hN : Nat.blt d N = true) (hx : ev L x = some (.int .i64 m)) (hy : ev L y = some (.int .i64 n)) (hn : n ≠ 0) (hq : m.tdiv n = q) (hr : -9223372036854775808 ≤ q ∧ q ≤ 9223372036854775807)
    (h : WL rd P ops Q N ds rest ((d, .int .i64 q) :: L) w) : WL rd P ops Q N ds (⟨some d, .binOp .quo xt x y yt, ty, pos, aft, gd⟩ :: rest) L w :=
  WL.value hg rfl hN (fun a ha => by
    have e1 := ha.ev hx
    have e2 := ha.ev hy
    have e3 : IntKind.i64.wrap (m.tdiv n) = q := by rw [hq]; exact IntWalk.i64_in _ hr
    simp [execOp, e1, e2, eqGuard, binOp, Op.intDiv, e3, hn]) h
end
end Go.Proofs.YtclinbbghnebaaaGreat
namespace Go.Proofs.YtclinbbghnebaaaGreat
open Go Go.RowKit
/-- A gathered slice, put together again from its elements. -/
theorem Acc.ofWr {α : Type} [Inhabited α] {enc : α → List Value} {k : Nat} {e : TypeId} {base : Nat} {w w' : World} {ao : Option Addr} {g cap : Nat} {xs ys : List α} (h : Acc enc k e base w ao g cap xs) (hk : ∀ x, (enc x).length = k) (hp : 0 < xs.length)
    (hw : Wr enc k e w' g ys) (hl : ys.length = xs.length) (hsz : ∀ cur : Array Value, w.heap[g]? = some (.cells cur e (0, 0)) → ∃ cur' : Array Value, w'.heap[g]? = some (.cells cur' e (0, 0)) ∧ cur'.size = cur.size) : Acc enc k e base w' ao g cap ys := by
  rcases h.at_ with ⟨_, h1, _⟩ | ⟨h1, h2, cur, h3, h4, h5, h6, _⟩
  · subst h1; simp at hp
  · obtain ⟨cur', hc, hs⟩ := hsz cur h3
    obtain ⟨cur2, hc2, hs2, hr⟩ := hw.at_ (by omega)
    rw [hc] at hc2
    injection hc2 with hc2
    injection hc2 with hc2
    subst hc2
    refine ⟨lt_of_block hc, .inr ⟨h1, h2, cur', hc, by omega, h5, by rw [hs, h6], ?_⟩⟩
    refine List.ext_getElem? fun q => ?_
    by_cases hq : q < ys.length * k
    · have hk0 : 0 < k := by
        rcases Nat.eq_zero_or_pos k with h | h
        · subst h; simp at hq
        · exact h
      have hi : q / k < ys.length := (Nat.div_lt_iff_lt_mul hk0).2 hq
      have hqr : q / k * k + q % k = q := by rw [Nat.mul_comm]; exact Nat.div_add_mod q k
      have hlt : q % k < (enc (nth ys (q / k))).length := by rw [hk]; exact Nat.mod_lt _ hk0
      have hv := List.getElem?_eq_getElem hlt
      have e1 := hr (q / k) hi (q % k) _ hv
      have e2 := flatMap_at hk ys (q / k) (q % k) _ hi hv
      rw [hqr] at e1 e2
      rw [List.getElem?_take, if_pos hq, e2]
      simpa using e1
    · rw [List.getElem?_eq_none (by rw [List.length_take]; omega), List.getElem?_eq_none (by rw [flatMap_len hk]; omega)]
theorem wr_set {α : Type} [Inhabited α] {enc : α → List Value} {k : Nat} {e : TypeId} {w w' : World} {g j o' off n : Nat} {xs : List α} {vs : List Value} {x' : α} {cur : List Value} (hk : ∀ x, (enc x).length = k) (hw : Wr enc k e w g xs) (hj : j < xs.length) (hB : Blk w g e cur) (hB' : Blk w' g e (lay cur off vs)) (hn : vs.length = n) (hl : o' + n ≤ k) (hx' : enc x' = lay (enc (nth xs j)) o' vs) (hoff : off = j * k + o') : Wr enc k e w' g (xs.set j x') := by
  subst hoff
  obtain ⟨cur2, hcur, hsz, hr⟩ := hw.at_ (by omega)
  have e1 : cur2 = cur.toArray := by
    have : w.heap[g]? = some (.cells cur.toArray e (0, 0)) := hB
    rw [hcur] at this
    injection this with this
    injection this with this
  subst e1
  have hjk : (j + 1) * k ≤ xs.length * k := Nat.mul_le_mul_right k hj
  rw [Nat.add_mul, Nat.one_mul] at hjk
  rw [List.size_toArray] at hsz
  have hle : j * k + o' + n ≤ cur.length := by omega
  refine ⟨fun hp => ⟨(lay cur (j * k + o') vs).toArray, hB', by rw [List.length_set, List.size_toArray, lay_length]; exact hsz, fun i hi r z hz => ?_⟩⟩
  rw [List.length_set] at hi
  rw [List.getElem?_toArray, lay_get _ _ _ _ (by rw [hn]; exact hle)]
  by_cases hij : i = j
  · subst hij
    rw [show nth (xs.set i x') i = x' by simp [nth, List.getD_eq_getElem?_getD, hi]] at hz
    rw [hx', lay_get _ _ _ _ (by rw [hn, hk]; exact hl)] at hz
    by_cases hc1 : o' ≤ r ∧ r < o' + vs.length
    · rw [if_pos hc1] at hz
      rw [if_pos (by omega), show i * k + r - (i * k + o') = r - o' by omega]; exact hz
    · rw [if_neg hc1] at hz
      rw [if_neg (by omega)]
      have := hr i hi r z hz
      simpa using this
  · rw [show nth (xs.set j x') i = nth xs i by simp [nth, List.getD_eq_getElem?_getD, List.getElem?_set_ne (Ne.symm hij)]] at hz
    have hrk : r < k := by
      have := (List.getElem?_eq_some_iff.1 hz).1
      rwa [hk] at this
    have := hr i hi r z hz
    rw [if_neg ?_]
    · simpa using this
    · intro hcc
      rcases Nat.lt_or_gt_of_ne hij with h1 | h1
      · have : (i + 1) * k ≤ j * k := Nat.mul_le_mul_right k h1
        rw [Nat.add_mul, Nat.one_mul] at this
        omega
      · have : (j + 1) * k ≤ i * k := Nat.mul_le_mul_right k h1
        rw [Nat.add_mul, Nat.one_mul] at this
        omega
section
variable {rd : Option Nat} {P : Program} {ops : Array Oper} {Q : Exit → Act → World → Prop} {N : Nat} {ds : List Deferred} {rest : List Oper} {L : Slots} {w : World}
variable {ty : TypeId} {pos : String} {aft : Array Edge} {gd : Option (Nat × Bool)}
/-- A store into an element of a gathered slice: the element is x'. -/
theorem t_storeA {α : Type} [Inhabited α] {enc : α → List Value} {k : Nat} {u e : TypeId} {x y : Operand} {base : Nat} {ao : Option Addr} {g cap j o' off n : Nat} {xs : List α} {vs : List Value} {v : Value} (x' : α) (hk : ∀ x, (enc x).length = k) (hs : ∀ w, (sizeOf u).run P w = .ok n w) (hg : grd ops L gd = true)
    (hx : ev L x = some (.pointer (some ⟨g, off, none⟩))) (hoff : off = j * k + o') (hy : ev L y = some v) (hw : Acc enc k e base w ao g cap xs) (hj : j < xs.length) (hc : v.cells = vs.toArray) (hn : vs.length = n) (hl : o' + n ≤ k) (hv : ∀ v ∈ vs, v.oneCell' = true) (hx' : enc x' = lay (enc (nth xs j)) o' vs)
    (h : ∀ w', Acc enc k e base w' ao g cap (xs.set j x') → Upd (· = g) w w' → WL rd P ops Q N ds rest L w') :
    WL rd P ops Q N ds (⟨none, .store u x y, ty, pos, aft, gd⟩ :: rest) L w := by
  have hwr := hw.wr hk
  obtain ⟨cur, hcur, hsz, hr⟩ := hwr.at_ (by omega)
  have hB : Blk w g e cur.toList := by simpa [Blk] using hcur
  have hjk : (j + 1) * k ≤ xs.length * k := Nat.mul_le_mul_right k hj
  rw [Nat.add_mul, Nat.one_mul] at hjk
  have hle : off + n ≤ cur.toList.length := by rw [Array.length_toList, hoff]; omega
  refine t_store (b := g) (t := e) hs hg hx hy hB hc hn hle hv fun w' hsize hB' hu => ?_
  refine h w' (hw.ofWr hk (by omega) (ys := xs.set j x') ?_ (by rw [List.length_set]) fun c2 hc2 => ?_) hu
  · exact wr_set hk hwr hj hB hB' hn hl hx' hoff
  · rw [hcur] at hc2
    injection hc2 with hc2
    injection hc2 with hc2
    subst hc2
    exact ⟨(lay cur.toList off vs).toArray, hB', by rw [List.size_toArray, lay_length, Array.length_toList]⟩
end
end Go.Proofs.YtclinbbghnebaaaGreat
namespace Go.Proofs.YtclinbbghnebaaaGreat
open Go Go.RowKit

/-- Ascending: no later one is less than an earlier one. -/
def Asc {α : Type} [Inhabited α] (cf : α → α → Int) (ys : List α) : Prop := ∀ i j, i < j → j < ys.length → ¬ cf (nth ys j) (nth ys i) < 0

theorem nth_toArray {α : Type} [Inhabited α] (xs : List α) (i : Nat) : (xs.toArray)[i]! = nth xs i := by
  unfold nth
  rw [List.getD_eq_getElem?_getD]
  rcases Nat.lt_or_ge i xs.length with h | h
  · rw [getElem!_pos _ i (by simpa using h)]
    simp [h]
  · rw [getElem!_neg _ i (by simpa using h)]
    simp [List.getElem?_eq_none h]

theorem upd_sorted {α : Type} [Inhabited α] (enc : α → List Value) (k : Nat) (w : World) (g n : Nat) (d : Array α) (os : Array Obj) : Upd (· = g) w (sortWorldK enc k w g 0 n d os) := by
  refine ⟨rfl, rfl, rfl, ?_, fun i hi hn => ?_⟩
  · simp only [sortWorldK, Go.Sort.putRowK, Go.Sort.grow, Go.Sort.putRow, Go.Sort.mapBlock, Go.Sort.ahead]
    simp
  · simp only [sortWorldK, Go.Sort.putRowK, Go.Sort.grow, Go.Sort.putRow, Go.Sort.mapBlock, Go.Sort.ahead]
    rw [Array.getElem?_append_left (by simpa using hi), Array.getElem?_modify]
    simp [show ¬ g = i from fun e => hn e.symm]

theorem acc_sorted {α : Type} [Inhabited α] {enc : α → List Value} {k : Nat} {e : TypeId} {base : Nat} {w : World} {ao : Option Addr} {g cap : Nat} {xs : List α} (hk0 : 0 < k) (hk : ∀ x, (enc x).length = k) (h : Acc enc k e base w ao g cap xs) (hx : 0 < xs.length)
    (d : Array α) (hd : d.size = xs.length) (n : Nat) (os : Array Obj) : Acc enc k e base (sortWorldK enc k w g 0 n d os) ao g cap d.toList := by
  have u := upd_sorted enc k w g n d os
  refine ⟨Nat.lt_of_lt_of_le h.lt u.size, ?_⟩
  rcases h.at_ with ⟨_, h1, _⟩ | ⟨h1, h2, cur, h3, h4, h5, h6, h7⟩
  · subst h1; simp at hx
  · refine .inr ⟨h1, h2, Go.Sort.putCells id 0 (Go.Sort.flatK enc k d) cur, ?_, by simpa [hd] using h4, h5, by simp [Go.Sort.putCells, h6], ?_⟩
    · simp only [sortWorldK, Go.Sort.putRowK, Go.Sort.grow, Go.Sort.putRow, Go.Sort.mapBlock, Go.Sort.ahead]
      rw [Array.getElem?_append_left (by simpa using h.lt), Array.getElem?_modify]
      simp [h3, Go.Sort.onCells]
    · have hcap : xs.length * k ≤ cap * k := Nat.mul_le_mul_right _ h4
      apply List.ext_getElem?
      intro t
      rcases Nat.lt_or_ge t (xs.length * k) with ht | ht
      · have htd : t / k < d.toList.length := by simp [hd]; exact (Nat.div_lt_iff_lt_mul hk0).2 ht
        have hmod : t % k < k := Nat.mod_lt _ hk0
        have hv : (enc (nth d.toList (t / k)))[t % k]? = some ((enc (nth d.toList (t / k)))[t % k]'(by rw [hk]; exact hmod)) := by simp [hk, hmod]
        have h8 := flatMap_at hk d.toList (t / k) (t % k) _ htd hv
        rw [show t / k * k + t % k = t from Nat.div_add_mod' t k] at h8
        rw [h8, List.getElem?_take, if_pos (by simpa [hd] using ht)]
        have htc : t < cur.size := by omega
        rw [Array.getElem?_toList]
        simp only [Go.Sort.putCells]
        rw [Array.getElem?_mapIdx]
        simp only [Array.getElem?_eq_getElem htc, Option.map_some, Nat.zero_le, true_and, Nat.zero_add, Nat.sub_zero, id]
        rw [if_pos (by rw [Go.Sort.size_flatK, hd]; exact ht), Go.Sort.get_flatK _ _ _ t (by rw [hd]; exact ht)]
        have hda : d[t / k]! = nth d.toList (t / k) := by
          have := nth_toArray d.toList (t / k)
          simpa using this
        rw [hda, getElem!_pos _ (t % k) (by rw [hk]; exact hmod)]
      · rw [List.getElem?_eq_none (by simp [hd]; omega), List.getElem?_eq_none (by rw [flatMap_len hk]; simp [hd]; omega)]

theorem holdsK_acc {α : Type} [Inhabited α] {enc : α → List Value} {k : Nat} {e : TypeId} {base : Nat} {w : World} {ao : Option Addr} {g cap : Nat} {xs : List α} (hk0 : 0 < k) (hk : ∀ x, (enc x).length = k) (h : Acc enc k e base w ao g cap xs) (hx : 0 < xs.length) : Go.Sort.HoldsK enc k w g 0 xs.toArray := by
  intro t ht
  rw [Go.Sort.size_flatK] at ht
  have ht' : t < xs.length * k := by simpa using ht
  rw [Go.Sort.get_flatK _ _ _ t ht, nth_toArray]
  have hmod : t % k < k := Nat.mod_lt _ hk0
  have htd : t / k < xs.length := (Nat.div_lt_iff_lt_mul hk0).2 ht'
  have h8 := (h.sl hk).at_ (t / k) htd (t % k) ((enc (nth xs (t / k)))[t % k]'(by rw [hk]; exact hmod)) (by simp [hk, hmod])
  rw [Nat.zero_add, Nat.div_add_mod'] at h8
  refine ⟨by rw [Nat.zero_add, h8, getElem!_pos _ (t % k) (by rw [hk]; exact hmod)]; rfl, ?_⟩
  rcases h.at_ with ⟨_, h1, _⟩ | ⟨_, _, cur, h3, _⟩
  · subst h1; simp at hx
  · simp [World.frozen?, h3]

/-- A comparison that lays blocks, draws, and turns nothing. -/
def CmpOk {α : Type} (P : Program) (g : Nat) (enc : α → List Value) (cf : α → α → Int) : Prop :=
  ∀ (x y : α) (W : World), Calls P g #[.agg (enc x).toArray, .agg (enc y).toArray] W fun e w' => e = .returned (.int .i64 (cf x y)) ∧ ∃ q os', w' = Go.Sort.grow (W.drewN q) os'

end Go.Proofs.YtclinbbghnebaaaGreat
